/- What is taken and let free, on holes and on truths. -/
import Derived.Test.YtiahamibfpamgaaPxExP
set_option linter.unusedVariables false
set_option linter.unusedSimpArgs false
namespace Go.Px.Ext_
open Go.Px
theorem split_ix {hs : List Ex} {k : Nat} (hk : k < hs.length) : hs = hs.take k ++ ix hs (k : Int) :: hs.drop (k + 1) := by
  rw [ix_eq hk, ← List.drop_eq_getElem_cons hk, List.take_append_drop]
theorem sep_join {m n : Int} : ∀ {l : List Ex} {lo lo' : Int} {r : List Ex}, Sep m lo l → Sep n lo' r → m + 1 ≤ lo' → m ≤ n → lo ≤ lo' → Sep n lo (l ++ r)
  | [], lo, lo', r, _, h2, _, _, h5 => h2.mono (Int.le_refl _) h5
  | x :: l, lo, lo', r, ⟨a1, a2, a3, a4⟩, h2, h3, h4, h5 => ⟨a1, a2, by omega, sep_join a4 h2 h3 h4 (by omega)⟩
theorem sep_bound {n m : Int} : ∀ {l : List Ex} {lo : Int}, Sep n lo l → (∀ x ∈ l, x.first + x.count ≤ m) → Sep m lo l
  | [], _, _, _ => trivial
  | x :: l, lo, ⟨a1, a2, a3, a4⟩, h => ⟨a1, a2, h x List.mem_cons_self, sep_bound a4 fun y hy => h y (List.mem_cons_of_mem _ hy)⟩
theorem sep_from {n lo lo' : Int} : ∀ {l : List Ex}, Sep n lo l → (∀ x ∈ l, lo' ≤ x.first) → Sep n lo' l
  | [], _, _ => trivial
  | x :: l, ⟨a1, a2, a3, a4⟩, h => ⟨h x List.mem_cons_self, a2, a3, a4⟩
theorem cov_cutR {x e : Ex} {i : Int} : cov (cutR x e) i ↔ (x.first ≤ i ∧ i < e.first) ∨ (e.first + e.count ≤ i ∧ i < x.first + x.count) := by
  unfold cutR
  rw [cov_app]
  have h1 : cov (if x.first < e.first then [⟨x.first, e.first - x.first⟩] else []) i ↔ (x.first ≤ i ∧ i < e.first) := by
    split
    · rw [cov_cons]
      constructor
      · rintro (⟨h1, h2⟩ | h)
        · have h1 : x.first ≤ i := h1; have h2 : i < x.first + (e.first - x.first) := h2; omega
        · exact absurd h cov_nil
      · rintro ⟨h1, h2⟩; exact .inl ⟨h1, by show i < x.first + (e.first - x.first); omega⟩
    · exact ⟨fun h => absurd h cov_nil, fun h => by omega⟩
  have h2 : cov (if e.first + e.count < x.first + x.count then [⟨e.first + e.count, x.first + x.count - (e.first + e.count)⟩] else []) i ↔ (e.first + e.count ≤ i ∧ i < x.first + x.count) := by
    split
    · rw [cov_cons]
      constructor
      · rintro (⟨h1, h2⟩ | h)
        · have h1 : e.first + e.count ≤ i := h1; have h2 : i < e.first + e.count + (x.first + x.count - (e.first + e.count)) := h2; omega
        · exact absurd h cov_nil
      · rintro ⟨h1, h2⟩; exact .inl ⟨h1, by show i < e.first + e.count + (x.first + x.count - (e.first + e.count)); omega⟩
    · exact ⟨fun h => absurd h cov_nil, fun h => by omega⟩
  rw [h1, h2]
theorem bool_ne {b c : Bool} : b = false ↔ ¬ b = true := by cases b <;> simp
theorem cut_holes {hs : List Ex} {q : List Bool} {k : Nat} {e : Ex} (h : HolesOf hs q) (hk : k < hs.length) (h1 : (ix hs (k : Int)).first ≤ e.first) (h2 : 1 ≤ e.count) (h3 : e.first + e.count ≤ (ix hs (k : Int)).first + (ix hs (k : Int)).count) :
    HolesOf (cutH hs k e) (setR q e.first e.count.toNat true) := by
  have hsep := h.1
  rw [split_ix hk, sep_mid] at hsep
  obtain ⟨s1, s2, s3, s4, s5⟩ := hsep
  have hcv : ∀ i, cov hs i ↔ cov (hs.take k) i ∨ ((ix hs (k : Int)).first ≤ i ∧ i < (ix hs (k : Int)).first + (ix hs (k : Int)).count) ∨ cov (hs.drop (k + 1)) i := fun i => by
    conv => lhs; rw [split_ix hk]
    rw [cov_app, cov_cons]
  refine ⟨?_, fun i hi1 hi2 => ?_⟩
  · rw [setR_len]
    unfold cutH
    rw [List.append_assoc]
    refine sep_join s1 (lo' := (ix hs (k : Int)).first) ?_ (by omega) (by omega) (by omega)
    unfold cutR
    split <;> split <;> simp only [List.cons_append, List.nil_append, Sep]
    · exact ⟨by omega, by omega, by omega, by omega, by omega, by omega, s5.mono (Int.le_refl _) (by omega)⟩
    · exact ⟨by omega, by omega, by omega, s5.mono (Int.le_refl _) (by omega)⟩
    · exact ⟨by omega, by omega, by omega, s5.mono (Int.le_refl _) (by omega)⟩
    · exact s5.mono (Int.le_refl _) (by omega)
  · rw [setR_len] at hi2
    rw [setR_ix q _ _ (by omega) _ (by omega) i hi1]
    unfold cutH
    rw [cov_app, cov_app, cov_cutR]
    by_cases hin : e.first ≤ i ∧ i < e.first + (e.count.toNat : Int)
    · rw [if_pos hin]
      refine ⟨fun hf => by simp at hf, ?_⟩
      rintro ((hc | hc) | hc)
      · have := s1.cov_ge hc; omega
      · omega
      · have := s5.cov_ge hc; omega
    · rw [if_neg hin, h.2 i hi1 hi2, hcv]
      constructor
      · rintro (hc | hc | hc)
        · exact .inl (.inl hc)
        · exact .inl (.inr (by omega))
        · exact .inr hc
      · rintro ((hc | hc) | hc)
        · exact .inl hc
        · exact .inr (.inl (by omega))
        · exact .inr (.inr hc)
theorem oF_false {hs : List Ex} {e : Ex} (h : oF hs e = false) : ∀ x ∈ hs, ¬ (x.first < e.first + e.count ∧ e.first < x.first + x.count) := by
  intro x hx hh
  unfold oF at h
  have := List.any_eq_false.1 h x hx
  simp at this
  omega
theorem free_holes {hs : List Ex} {q : List Bool} {k : Nat} {e : Ex} (h : HolesOf hs q) (hf : oF hs e = false) (he : 0 ≤ e.first ∧ 1 ≤ e.count ∧ e.first + e.count ≤ q.length) (hk : k ≤ hs.length) (hl : ∀ j : Nat, j < k → ¬ e.first < (ix hs (j : Int)).first) (hr : k < hs.length → e.first < (ix hs (k : Int)).first) :
    HolesOf (freeH hs k e) (setR q e.first e.count.toNat false) := by
  have hno := oF_false hf
  have hm := h.1.lo
  have hL : ∀ x ∈ hs.take k, x.first + x.count ≤ e.first := by
    intro x hx
    obtain ⟨j, hj, rfl⟩ := List.getElem_of_mem hx
    have hj' : j < k := by rw [List.length_take] at hj; omega
    have h1 := hl j hj'
    have h2 : ix hs (j : Int) = (hs.take k)[j] := by rw [ix_eq (by omega)]; simp
    rw [h2] at h1
    have := hno _ (List.mem_of_mem_take hx)
    have := hm _ (List.mem_of_mem_take hx)
    omega
  have hR : ∀ x ∈ hs.drop k, e.first + e.count ≤ x.first := by
    intro x hx
    have hkl : k < hs.length := by
      rcases Nat.lt_or_ge k hs.length with h | h
      · exact h
      · rw [List.drop_of_length_le h] at hx; simp at hx
    have h1 := hr hkl
    have hsep := h.1
    rw [split_ix hkl, sep_mid] at hsep
    have hfst : e.first < x.first := by
      rw [List.drop_eq_getElem_cons hkl, ← ix_eq hkl] at hx
      rcases List.mem_cons.1 hx with rfl | hx
      · exact h1
      · have := hsep.2.2.2.2.lo x hx; omega
    have := hno _ (List.mem_of_mem_drop hx)
    have := hm _ (List.mem_of_mem_drop hx)
    omega
  -- the left side
  have left : ∃ E : Ex, mL hs k e = E ∧ E.first + E.count = e.first + e.count ∧ E.first ≤ e.first ∧ 0 ≤ E.first ∧ 1 ≤ E.count ∧ Sep (E.first - 1) 0 (hs.take (frL hs k e)) ∧ ∀ i, (cov (hs.take k) i ↔ cov (hs.take (frL hs k e)) i ∨ (E.first ≤ i ∧ i < e.first)) := by
    have sT : Sep (q.length : Int) 0 (hs.take k) := by
      have := h.1
      rw [← List.take_append_drop k hs] at this
      revert this
      generalize hs.take k = l
      generalize hs.drop k = r
      intro this
      have key : ∀ {l : List Ex} {lo : Int}, Sep (q.length : Int) lo (l ++ r) → Sep (q.length : Int) lo l := by
        intro l
        induction l with
        | nil => intro lo _; trivial
        | cons x l ih => exact fun ⟨a1, a2, a3, a4⟩ => ⟨a1, a2, a3, ih a4⟩
      exact key this
    have sT' := sep_bound sT hL
    by_cases hz : 0 < k ∧ (ix hs ((k : Int) - 1)).first + (ix hs ((k : Int) - 1)).count = e.first
    · have e1 : mL hs k e = ⟨(ix hs ((k : Int) - 1)).first, (ix hs ((k : Int) - 1)).count + e.count⟩ := if_pos hz
      have e2 : frL hs k e = k - 1 := if_pos hz
      obtain ⟨m, rfl⟩ : ∃ m, k = m + 1 := ⟨k - 1, by omega⟩
      have e3 : (((m + 1 : Nat) : Int) - 1) = (m : Int) := by omega
      rw [e3] at e1 hz
      have hp := hm _ (ix_mem (xs := hs) (i := (m : Int)) (by omega) (by omega))
      have e4 : hs.take (m + 1) = hs.take m ++ [ix hs (m : Int)] := take_ix hs m (by omega)
      rw [e2, Nat.add_sub_cancel]
      rw [e4, sep_mid] at sT'
      refine ⟨_, e1, by show (ix hs (m : Int)).first + ((ix hs (m : Int)).count + e.count) = _; omega, by show (ix hs (m : Int)).first ≤ _; omega, hp.1, by show 1 ≤ (ix hs (m : Int)).count + e.count; omega, sT'.1, fun i => ?_⟩
      rw [e4, cov_app, cov_cons]
      constructor
      · rintro (hc | hc | hc)
        · exact .inl hc
        · exact .inr ⟨hc.1, by omega⟩
        · exact absurd hc cov_nil
      · rintro (hc | hc)
        · exact .inl hc
        · exact .inr (.inl ⟨hc.1, by omega⟩)
    · have e1 : mL hs k e = e := if_neg hz
      have e2 : frL hs k e = k := if_neg hz
      rw [e2]
      refine ⟨e, e1, rfl, Int.le_refl _, he.1, he.2.1, sep_bound sT fun x hx => ?_, fun i => ⟨.inl, fun hc => hc.elim id fun hc => by omega⟩⟩
      have h1 := hL x hx
      rcases Nat.eq_zero_or_pos k with rfl | hk0
      · simp at hx
      · obtain ⟨m, rfl⟩ : ∃ m, k = m + 1 := ⟨k - 1, by omega⟩
        have e3 : (((m + 1 : Nat) : Int) - 1) = (m : Int) := by omega
        rw [e3] at hz
        have e4 : hs.take (m + 1) = hs.take m ++ [ix hs (m : Int)] := take_ix hs m (by omega)
        rw [e4] at hx
        rw [e4, sep_mid] at sT'
        rcases List.mem_append.1 hx with hx | hx
        · have := sT'.1.lo x hx
          have := hL (ix hs (m : Int)) (by rw [e4]; simp)
          have := sT'.2.2.1
          omega
        · rw [List.mem_singleton] at hx
          subst hx
          omega
  obtain ⟨E, eE, p1, p2, p3, p4, p5, p6⟩ := left
  -- the right side
  have sD : Sep (q.length : Int) (e.first + e.count) (hs.drop k) := by
    have := h.1
    rw [← List.take_append_drop k hs] at this
    have key : ∀ {l r : List Ex} {lo : Int}, Sep (q.length : Int) lo (l ++ r) → ∃ lo', Sep (q.length : Int) lo' r := by
      intro l r
      induction l with
      | nil => exact fun h => ⟨_, h⟩
      | cons x l ih => exact fun h => ih h.2.2.2
    obtain ⟨lo', h'⟩ := key this
    exact sep_from h' hR
  have right : ∃ F : Ex, mR hs k E = F ∧ F.first = E.first ∧ E.count ≤ F.count ∧ F.first + F.count ≤ q.length ∧ Sep (q.length : Int) (F.first + F.count + 1) (hs.drop (toR hs k E)) ∧ ∀ i, (cov (hs.drop k) i ↔ (E.first + E.count ≤ i ∧ i < F.first + F.count) ∨ cov (hs.drop (toR hs k E)) i) := by
    by_cases hz : k < hs.length ∧ E.first + E.count = (ix hs (k : Int)).first
    · have e1 : mR hs k E = ⟨E.first, E.count + (ix hs (k : Int)).count⟩ := if_pos hz
      have e2 : toR hs k E = k + 1 := if_pos hz
      have e3 : hs.drop k = ix hs (k : Int) :: hs.drop (k + 1) := by rw [ix_eq hz.1]; exact List.drop_eq_getElem_cons hz.1
      rw [e3] at sD
      obtain ⟨a1, a2, a3, a4⟩ := sD
      rw [e2]
      refine ⟨_, e1, rfl, by show E.count ≤ E.count + (ix hs (k : Int)).count; omega, by show E.first + (E.count + (ix hs (k : Int)).count) ≤ _; omega, a4.mono (Int.le_refl _) (by show E.first + (E.count + (ix hs (k : Int)).count) + 1 ≤ _; omega), fun i => ?_⟩
      rw [e3, cov_cons]
      constructor
      · rintro (hc | hc)
        · exact .inl ⟨by omega, by show i < E.first + (E.count + (ix hs (k : Int)).count); omega⟩
        · exact .inr hc
      · rintro (hc | hc)
        · have h2 : i < E.first + (E.count + (ix hs (k : Int)).count) := hc.2
          exact .inl ⟨by omega, by omega⟩
        · exact .inr hc
    · have e1 : mR hs k E = E := if_neg hz
      have e2 : toR hs k E = k := if_neg hz
      rw [e2]
      refine ⟨E, e1, rfl, Int.le_refl _, by omega, sep_from sD fun x hx => ?_, fun i => ⟨.inr, fun hc => hc.elim (fun hc => by omega) id⟩⟩
      have h1 := hR x hx
      rcases Nat.lt_or_ge k hs.length with hkl | hkl
      · have e3 : hs.drop k = ix hs (k : Int) :: hs.drop (k + 1) := by rw [ix_eq hkl]; exact List.drop_eq_getElem_cons hkl
        rw [e3] at hx sD
        obtain ⟨a1, a2, a3, a4⟩ := sD
        rcases List.mem_cons.1 hx with rfl | hx
        · have : ¬ E.first + E.count = (ix hs (k : Int)).first := fun hh => hz ⟨hkl, hh⟩
          omega
        · have := a4.lo x hx; omega
      · rw [List.drop_of_length_le hkl] at hx; simp at hx
  obtain ⟨F, eF, r1, r2, r3, r4, r5⟩ := right
  have hres : freeH hs k e = hs.take (frL hs k e) ++ F :: hs.drop (toR hs k E) := by unfold freeH; rw [eE, eF]; simp
  rw [hres]
  refine ⟨?_, fun i hi1 hi2 => ?_⟩
  · rw [setR_len, sep_mid]
    exact ⟨by rw [r1]; exact p5, by omega, by omega, r3, r4⟩
  · rw [setR_len] at hi2
    rw [setR_ix q _ _ he.1 _ (by omega) i hi1, cov_app, cov_cons]
    by_cases hin : e.first ≤ i ∧ i < e.first + (e.count.toNat : Int)
    · rw [if_pos hin]
      exact ⟨fun _ => .inr (.inl ⟨by omega, by omega⟩), fun _ => rfl⟩
    · rw [if_neg hin, h.2 i hi1 hi2]
      have hc0 : cov hs i ↔ cov (hs.take k) i ∨ cov (hs.drop k) i := by rw [← cov_app, List.take_append_drop]
      rw [hc0, p6, r5]
      constructor
      · rintro ((hc | hc) | hc | hc)
        · exact .inl hc
        · exact .inr (.inl ⟨by omega, by omega⟩)
        · exact .inr (.inl ⟨by omega, by omega⟩)
        · exact .inr (.inr hc)
      · rintro (hc | hc | hc)
        · exact .inl (.inl hc)
        · by_cases hlt : i < e.first
          · exact .inl (.inr ⟨by omega, hlt⟩)
          · exact .inr (.inl ⟨by omega, by omega⟩)
        · exact .inr (.inr hc)
end Go.Px.Ext_
