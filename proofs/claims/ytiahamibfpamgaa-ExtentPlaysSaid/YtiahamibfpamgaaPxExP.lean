/- Holes and truths: the plain law of the extents. -/
import Derived.Test.YtiahamibfpamgaaPxExK
import Derived.Test.YtiahamibfpamgaaPxExH0
set_option linter.unusedVariables false
set_option linter.unusedSimpArgs false
namespace Go.Px.Ext_
open Go.Px
def Sep (n : Int) : Int → List Ex → Prop
  | _, [] => True
  | lo, x :: l => lo ≤ x.first ∧ 1 ≤ x.count ∧ x.first + x.count ≤ n ∧ Sep n (x.first + x.count + 1) l
def cov (hs : List Ex) (i : Int) : Prop := ∃ x ∈ hs, x.first ≤ i ∧ i < x.first + x.count
def HolesOf (hs : List Ex) (q : List Bool) : Prop := Sep q.length 0 hs ∧ ∀ i : Int, 0 ≤ i → i < q.length → (ix q i = false ↔ cov hs i)
theorem cov_cons {x : Ex} {l : List Ex} {i : Int} : cov (x :: l) i ↔ (x.first ≤ i ∧ i < x.first + x.count) ∨ cov l i := by simp [cov]
theorem cov_app {a b : List Ex} {i : Int} : cov (a ++ b) i ↔ cov a i ∨ cov b i := by
  simp [cov, or_and_right, exists_or]
theorem cov_nil {i : Int} : ¬ cov [] i := by simp [cov]
theorem Sep.lo {n : Int} : ∀ {l : List Ex} {lo : Int}, Sep n lo l → ∀ x ∈ l, lo ≤ x.first ∧ 1 ≤ x.count ∧ x.first + x.count ≤ n
  | [], _, _, x, hx => by simp at hx
  | y :: l, lo, h, x, hx => by
    rcases List.mem_cons.1 hx with rfl | hx
    · exact ⟨h.1, h.2.1, h.2.2.1⟩
    · have := Sep.lo h.2.2.2 x hx
      have := h.1; have := h.2.1
      omega
theorem Sep.mono {n n' : Int} (hn : n ≤ n') : ∀ {l : List Ex} {lo lo' : Int}, lo' ≤ lo → Sep n lo l → Sep n' lo' l
  | [], _, _, _, _ => trivial
  | x :: l, lo, lo', hl, h => ⟨by have := h.1; omega, h.2.1, by have := h.2.2.1; omega, Sep.mono hn (Int.le_refl _) h.2.2.2⟩
theorem Sep.cov_ge {n lo : Int} {l : List Ex} (h : Sep n lo l) {i : Int} (hc : cov l i) : lo ≤ i ∧ i < n := by
  obtain ⟨x, hx, h1, h2⟩ := hc
  have := h.lo x hx
  omega
theorem Sep.unique {n : Int} : ∀ {a b : List Ex} {lo : Int}, Sep n lo a → Sep n lo b → (∀ i, cov a i ↔ cov b i) → a = b
  | [], [], _, _, _, _ => rfl
  | [], y :: b, lo, _, hb, h => by
    have := (h y.first).2 (cov_cons.2 (.inl ⟨Int.le_refl _, by have := hb.2.1; omega⟩))
    exact absurd this cov_nil
  | x :: a, [], lo, ha, _, h => by
    have := (h x.first).1 (cov_cons.2 (.inl ⟨Int.le_refl _, by have := ha.2.1; omega⟩))
    exact absurd this cov_nil
  | x :: a, y :: b, lo, ha, hb, h => by
    obtain ⟨a1, a2, a3, a4⟩ := ha
    obtain ⟨b1, b2, b3, b4⟩ := hb
    have e1 : x.first = y.first := by
      have h1 := (h x.first).1 (cov_cons.2 (.inl ⟨Int.le_refl _, by omega⟩))
      have h2 := (h y.first).2 (cov_cons.2 (.inl ⟨Int.le_refl _, by omega⟩))
      rcases cov_cons.1 h1 with h1 | h1 <;> rcases cov_cons.1 h2 with h2 | h2
      · omega
      · have := a4.cov_ge h2; omega
      · have := b4.cov_ge h1; omega
      · have := a4.cov_ge h2; have := b4.cov_ge h1; omega
    have e2 : x.count = y.count := by
      rcases Int.lt_trichotomy x.count y.count with hlt | heq | hlt
      · have h2 := (h (x.first + x.count)).2 (cov_cons.2 (.inl ⟨by omega, by omega⟩))
        rcases cov_cons.1 h2 with h2 | h2
        · omega
        · have := a4.cov_ge h2; omega
      · exact heq
      · have h1 := (h (y.first + y.count)).1 (cov_cons.2 (.inl ⟨by omega, by omega⟩))
        rcases cov_cons.1 h1 with h1 | h1
        · omega
        · have := b4.cov_ge h1; omega
    have exy : x = y := by cases x; cases y; simp at e1 e2; simp [e1, e2]
    subst exy
    congr 1
    refine Sep.unique a4 b4 fun i => ?_
    have := h i
    rw [cov_cons, cov_cons] at this
    constructor
    · intro hc
      have hg := a4.cov_ge hc
      rcases this.1 (.inr hc) with h1 | h1
      · omega
      · exact h1
    · intro hc
      have hg := b4.cov_ge hc
      rcases this.2 (.inr hc) with h1 | h1
      · omega
      · exact h1
theorem sep_mid {n : Int} : ∀ {l : List Ex} {lo : Int} {x : Ex} {r : List Ex}, Sep n lo (l ++ x :: r) ↔ Sep (x.first - 1) lo l ∧ lo ≤ x.first ∧ 1 ≤ x.count ∧ x.first + x.count ≤ n ∧ Sep n (x.first + x.count + 1) r
  | [], lo, x, r => by simp [Sep]
  | y :: l, lo, x, r => by
    have ih := @sep_mid n l (y.first + y.count + 1) x r
    rw [List.cons_append]
    show (_ ∧ _ ∧ _ ∧ Sep n _ (l ++ x :: r)) ↔ (_ ∧ _ ∧ _ ∧ Sep _ _ l) ∧ _
    rw [ih]
    constructor
    · rintro ⟨h1, h2, h3, h4, h5, h6, h7, h8⟩; exact ⟨⟨h1, h2, by omega, h4⟩, by omega, h6, h7, h8⟩
    · rintro ⟨⟨h1, h2, h3, h4⟩, h5, h6, h7, h8⟩; exact ⟨h1, h2, by omega, h4, by omega, h6, h7, h8⟩
theorem ix_set {α : Type} [Inhabited α] (l : List α) (m : Nat) (v : α) (i : Int) : ix (l.set m v) i = if i.toNat = m ∧ m < l.length then v else ix l i := by
  simp only [ix, List.getD_eq_getElem?_getD, List.getElem?_set]
  by_cases h : m = i.toNat
  · subst h
    simp
    by_cases h2 : i.toNat < l.length
    · simp [h2]
    · simp [h2]
  · rw [if_neg h, if_neg (fun hh => h hh.1.symm)]
theorem setR_ix (q : List Bool) (f : Int) (t : Bool) (h0 : 0 ≤ f) : ∀ n : Nat, f + n ≤ q.length → ∀ i : Int, 0 ≤ i → ix (setR q f n t) i = if f ≤ i ∧ i < f + n then t else ix q i
  | 0, _, i, hi => by rw [if_neg (by omega)]; rfl
  | n + 1, hn, i, hi => by
    rw [setR, ix_set, setR_len, setR_ix q f t h0 n (by omega) i hi]
    by_cases h1 : i.toNat = (f + (n : Int)).toNat
    · rw [if_pos ⟨h1, by omega⟩, if_pos (by omega)]
    · rw [if_neg (by omega)]
      by_cases h2 : f ≤ i ∧ i < f + (n : Int)
      · rw [if_pos h2, if_pos (by omega)]
      · rw [if_neg h2, if_neg (by omega)]
theorem allB_iff {q : List Bool} {f : Int} {n : Nat} {t : Bool} : allB q f n t = true ↔ ∀ i : Int, f ≤ i → i < f + n → ix q i = t := by
  unfold allB
  rw [List.all_eq_true]
  constructor
  · intro h i h1 h2
    have := h (i - f).toNat (List.mem_range.2 (by omega))
    rw [show f + ((i - f).toNat : Int) = i by omega] at this
    simpa using this
  · intro h i hi
    have := List.mem_range.1 hi
    simp [h (f + i) (by omega) (by omega)]
/-! ### the reference's holes -/
theorem bump_snoc (l : List Ex) (x : Ex) : bump (l ++ [x]) = l ++ [⟨x.first, x.count + 1⟩] := by
  have h1 : ((((l ++ [x]).length : Int) - 1)) = (l.length : Int) := by simp
  unfold bump
  rw [h1]
  have h2 : ix (l ++ [x]) (l.length : Int) = x := by rw [ix_eq (by simp)]; simp
  rw [h2]
  simp
def HJ (q : List Bool) (n : Nat) : Prop :=
  ((0 < n ∧ ix q ((n : Int) - 1) = false) → ∃ (l : List Ex) (x : Ex), hl q n = l ++ [x] ∧ Sep (x.first - 1) 0 l ∧ 0 ≤ x.first ∧ 1 ≤ x.count ∧ x.first + x.count = (n : Int)) ∧
  (¬ (0 < n ∧ ix q ((n : Int) - 1) = false) → Sep ((n : Int) - 1) 0 (hl q n)) ∧ (∀ i : Int, 0 ≤ i → i < n → (ix q i = false ↔ cov (hl q n) i))
theorem hj (q : List Bool) : ∀ n, HJ q n
  | 0 => ⟨fun h => by omega, fun _ => trivial, fun i h1 h2 => by omega⟩
  | n + 1 => by
    obtain ⟨h1, h2, h3⟩ := hj q n
    have hc : (((n + 1 : Nat) : Int) - 1) = (n : Int) := by omega
    unfold HJ
    rw [hc]
    cases hq : ix q (n : Int) with
    | true =>
      have hs : hl q (n + 1) = hl q n := by rw [hl.eq_2, hq, if_pos rfl]
      rw [hs]
      have hsep : Sep (n : Int) 0 (hl q n) := by
        by_cases hz : 0 < n ∧ ix q ((n : Int) - 1) = false
        · obtain ⟨l, x, e, s1, s2, s3, s4⟩ := h1 hz
          rw [e, sep_mid]
          exact ⟨s1, s2, s3, by omega, trivial⟩
        · exact (h2 hz).mono (by omega) (Int.le_refl _)
      refine ⟨fun h => by simp at h, fun _ => hsep, fun i hi1 hi2 => ?_⟩
      by_cases hin : i = n
      · subst hin
        rw [hq]
        exact ⟨fun h => by simp at h, fun hcv => by have := hsep.cov_ge hcv; omega⟩
      · exact h3 i hi1 (by omega)
    | false =>
      by_cases hz : 0 < n ∧ ix q ((n : Int) - 1) = false
      · obtain ⟨l, x, e, s1, s2, s3, s4⟩ := h1 hz
        have hs : hl q (n + 1) = l ++ [⟨x.first, x.count + 1⟩] := by rw [hl.eq_2, hq, if_neg (by simp), if_pos hz, e, bump_snoc]
        rw [hs]
        refine ⟨fun _ => ⟨l, _, rfl, s1, s2, by show 1 ≤ x.count + 1; omega, by show x.first + (x.count + 1) = _; omega⟩, fun h => absurd ⟨by omega, rfl⟩ h, fun i hi1 hi2 => ?_⟩
        rw [cov_app, cov_cons]
        by_cases hin : i = n
        · subst hin
          exact ⟨fun _ => .inr (.inl ⟨by show x.first ≤ _; omega, by show _ < x.first + (x.count + 1); omega⟩), fun _ => hq⟩
        · rw [h3 i hi1 (by omega), e, cov_app, cov_cons]
          constructor
          · rintro (h | h | h)
            · exact .inl h
            · exact .inr (.inl ⟨h.1, by show _ < x.first + (x.count + 1); omega⟩)
            · exact absurd h cov_nil
          · rintro (h | h | h)
            · exact .inl h
            · exact .inr (.inl ⟨h.1, by have : i < x.first + (x.count + 1) := h.2; omega⟩)
            · exact absurd h cov_nil
      · have hs : hl q (n + 1) = hl q n ++ [⟨(n : Int), 1⟩] := by rw [hl.eq_2, hq, if_neg (by simp), if_neg hz]
        have s := h2 hz
        rw [hs]
        refine ⟨fun _ => ⟨_, _, rfl, s, by show (0 : Int) ≤ n; omega, by show (1 : Int) ≤ 1; omega, by show (n : Int) + 1 = _; omega⟩, fun h => absurd ⟨by omega, rfl⟩ h, fun i hi1 hi2 => ?_⟩
        rw [cov_app, cov_cons]
        by_cases hin : i = n
        · subst hin
          exact ⟨fun _ => .inr (.inl ⟨Int.le_refl _, by show (n : Int) < n + 1; omega⟩), fun _ => hq⟩
        · rw [h3 i hi1 (by omega)]
          constructor
          · exact .inl
          · rintro (h | h | h)
            · exact h
            · have h1 : (n : Int) ≤ i := h.1; have h2 : i < (n : Int) + 1 := h.2; omega
            · exact absurd h cov_nil
theorem hl_holes (q : List Bool) : HolesOf (hl q q.length) q := by
  obtain ⟨h1, h2, h3⟩ := hj q q.length
  refine ⟨?_, h3⟩
  by_cases hz : 0 < q.length ∧ ix q ((q.length : Int) - 1) = false
  · obtain ⟨l, x, e, s1, s2, s3, s4⟩ := h1 hz
    rw [e, sep_mid]
    exact ⟨s1, s2, s3, by omega, trivial⟩
  · exact (h2 hz).mono (by omega) (Int.le_refl _)
theorem HolesOf.eq {hs : List Ex} {q : List Bool} (h : HolesOf hs q) : hs = hl q q.length := by
  have g := hl_holes q
  refine Sep.unique h.1 g.1 fun i => ?_
  constructor
  · intro hc
    have := h.1.cov_ge hc
    exact (g.2 i this.1 this.2).1 ((h.2 i this.1 this.2).2 hc)
  · intro hc
    have := g.1.cov_ge hc
    exact (h.2 i this.1 this.2).1 ((g.2 i this.1 this.2).2 hc)
theorem sumC_bump (l : List Ex) (h : 0 < l.length) : sumC (bump l) = sumC l + 1 := by
  obtain ⟨m, x, rfl⟩ : ∃ m x, l = m ++ [x] := ⟨l.dropLast, l.getLast (by intro e; simp [e] at h), (List.dropLast_concat_getLast _).symm⟩
  rw [bump_snoc, sumC_app, sumC_app]
  simp [sumC]
  omega
theorem sum_left (q : List Bool) : ∀ n, n ≤ q.length → sumC (hl q n) = leftB (q.take n)
  | 0, _ => by simp [hl, sumC, leftB]
  | n + 1, hn => by
    have ih := sum_left q n (by omega)
    rw [take_ix q n (by omega), leftB_snoc, ← ih]
    cases hq : ix q (n : Int) with
    | true => rw [hl.eq_2, hq, if_pos rfl]; simp
    | false =>
      rw [hl.eq_2, hq, if_neg (by simp)]
      split
      · rename_i hz
        rw [sumC_bump]
        · simp
        · obtain ⟨m, rfl⟩ : ∃ m, n = m + 1 := ⟨n - 1, by omega⟩
          exact hl_pos q m (by have := hz.2; rwa [show (((m + 1 : Nat) : Int) - 1) = (m : Int) by omega] at this)
      · rw [sumC_app]; simp [sumC]
theorem HolesOf.sum {hs : List Ex} {q : List Bool} (h : HolesOf hs q) : sumC hs = leftB q := by
  rw [h.eq, sum_left q q.length (Nat.le_refl _), List.take_length]
end Go.Px.Ext_
