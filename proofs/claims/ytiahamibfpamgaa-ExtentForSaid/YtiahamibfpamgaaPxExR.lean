/- The map of holes against the map of truths: each call. -/
import Derived.Test.YtiahamibfpamgaaPxExQ
import Derived.Test.YtiahamibfpamgaaPxExH1
import Derived.Test.YtiahamibfpamgaaPxExH2
import Derived.Test.YtiahamibfpamgaaPxExH3
set_option linter.unusedVariables false
set_option linter.unusedSimpArgs false
namespace Go.Px.Ext_
open Go.Px Go.Proofs
theorem sep_gap {n : Int} : ∀ {l : List Ex} {lo : Int}, Sep n lo l → ∀ x ∈ l, ∀ y ∈ l, y.first ≤ x.first + x.count → x.first + x.count < y.first + y.count → False
  | [], _, _, x, hx, _, _, _, _ => by simp at hx
  | z :: l, lo, ⟨a1, a2, a3, a4⟩, x, hx, y, hy, h1, h2 => by
    rcases List.mem_cons.1 hx with rfl | hx' <;> rcases List.mem_cons.1 hy with rfl | hy'
    · omega
    · have := a4.lo y hy'; omega
    · have := a4.lo x hx'; omega
    · exact sep_gap a4 x hx' y hy' h1 h2
theorem runIn {hs : List Ex} {q : List Bool} (h : HolesOf hs q) {f n : Int} (hn : 1 ≤ n) (hc : ∀ j, f ≤ j → j < f + n → cov hs j) : ∃ x ∈ hs, x.first ≤ f ∧ f + n ≤ x.first + x.count := by
  obtain ⟨x, hx, h1, h2⟩ := hc f (by omega) (by omega)
  refine ⟨x, hx, h1, ?_⟩
  rcases Int.lt_or_le (x.first + x.count) (f + n) with h3 | h3
  · obtain ⟨y, hy, g1, g2⟩ := hc (x.first + x.count) (by omega) h3
    exact (sep_gap h.1 x hx y hy g1 g2).elim
  · exact h3
theorem all_free {hs : List Ex} {q : List Bool} (h : HolesOf hs q) {f n : Int} (hn : 1 ≤ n) (hf : 0 ≤ f) (hl : f + n ≤ q.length) : allB q f n.toNat false = true ↔ ∃ x ∈ hs, x.first ≤ f ∧ f + n ≤ x.first + x.count := by
  rw [allB_iff]
  constructor
  · intro ha
    exact runIn h hn fun j h1 h2 => (h.2 j (by omega) (by omega)).1 (ha j h1 (by omega))
  · rintro ⟨x, hx, h1, h2⟩ j h3 h4
    exact (h.2 j (by omega) (by omega)).2 ⟨x, hx, by omega, by omega⟩
theorem all_taken {hs : List Ex} {q : List Bool} (h : HolesOf hs q) {e : Ex} (hn : 1 ≤ e.count) (hf : 0 ≤ e.first) (hl : e.first + e.count ≤ q.length) : allB q e.first e.count.toNat true = !oF hs e := by
  cases ho : oF hs e with
  | false =>
    have := oF_false ho
    rw [Bool.not_false, allB_iff]
    intro j h1 h2
    cases hq : ix q j with
    | true => rfl
    | false =>
      obtain ⟨x, hx, g1, g2⟩ := (h.2 j (by omega) (by omega)).1 hq
      exact absurd ⟨by omega, by omega⟩ (this x hx)
  | true =>
    unfold oF at ho
    obtain ⟨x, hx, hp⟩ := List.any_eq_true.1 ho
    have hm := h.1.lo x hx
    simp only [Bool.and_eq_true, decide_eq_true_eq] at hp
    rw [Bool.not_true, ← Bool.not_eq_true]
    intro ha
    have := allB_iff.1 ha (max x.first e.first) (by omega) (by omega)
    have h2 := (h.2 (max x.first e.first) (by omega) (by omega)).2 ⟨x, hx, by omega, by omega⟩
    rw [this] at h2
    cases h2
theorem mayB_i {n : Int} {e : Ex} : mayB n e = true ↔ 1 ≤ e.count ∧ 0 ≤ e.first ∧ e.first + e.count ≤ n := by
  unfold mayB
  rw [decide_eq_true_iff]
  omega
theorem okA_iff {hs : List Ex} {q : List Bool} (h : HolesOf hs q) {count : Int} (hc : 1 ≤ count) (i : Nat) : okA q count i = true ↔ ∃ x ∈ hs, x.first ≤ i ∧ i + count ≤ x.first + x.count := by
  unfold okA
  rw [Bool.and_eq_true, mayB_i]
  constructor
  · rintro ⟨h1, h2⟩; exact (all_free h hc (by omega) h1.2.2).1 h2
  · rintro ⟨x, hx, h1, h2⟩
    have := h.1.lo x hx
    exact ⟨⟨hc, by show (0 : Int) ≤ i; omega, by show (i : Int) + count ≤ _; omega⟩, (all_free h hc (by omega) (by omega)).2 ⟨x, hx, h1, h2⟩⟩
theorem ix_order {hs : List Ex} {n lo : Int} (h : Sep n lo hs) {k m : Nat} (hkm : k ≤ m) (hm : m < hs.length) : (ix hs (k : Int)).first ≤ (ix hs (m : Int)).first := by
  rcases Nat.lt_or_eq_of_le hkm with hlt | rfl
  · rw [split_ix (show k < hs.length by omega), sep_mid] at h
    have : ix hs (m : Int) ∈ hs.drop (k + 1) := by
      rw [ix_eq hm]
      have : (hs.drop (k + 1))[m - (k + 1)]'(by rw [List.length_drop]; omega) = hs[m] := by
        rw [List.getElem_drop]; congr 1; omega
      rw [← this]; exact List.getElem_mem _
    have := h.2.2.2.2.lo _ this
    omega
  · exact Int.le_refl _
def allocQ (q : List Bool) (count : Int) : List Bool × Ex × Int := if count < 1 then (q, ⟨0, 0⟩, 1) else match (List.range q.length).find? (okA q count) with
  | some i => (setR q (i : Int) count.toNat true, ⟨(i : Int), count⟩, 0)
  | none => (q, ⟨0, 0⟩, 2)
theorem ralloc_any (h : Heap) (A : Option Addr) (c : Nat) (q : List Bool) (count : Int) (ho : Own h 0 4 A c q) (hlen : q.length ≤ 4096) : FC Try.prog 12 [.slice A q.length c, .int .i64 count] h [] (APost h A (allocQ q count).1 (allocQ q count).2.1 (allocQ q count).2.2) := by
  unfold allocQ
  by_cases hc : count < 1
  · rw [if_pos hc]; exact ralloc_no h A c q count ho hc
  · rw [if_neg hc]
    cases hf : (List.range q.length).find? (okA q count) with
    | none =>
      rw [List.find?_eq_none] at hf
      exact ralloc_full h A c q count ho hlen (by omega) fun i hi => by simpa using hf i (List.mem_range.2 hi)
    | some i =>
      obtain ⟨h1, h2, h3⟩ := List.find?_range_eq_some.1 hf
      exact ralloc_c h A c q count ho hlen (by omega) i (List.mem_range.1 h2) (fun j hj => by simpa using h3 j hj) h1
/-- a map in memory, as it is told by truths -/
def MapQ (h : Heap) (base b : Nat) (A : Option Addr) (c : Nat) (q : List Bool) : Prop := ∃ hs, IsMap h base b q.length A c hs ∧ HolesOf hs q ∧ 1 ≤ q.length ∧ q.length ≤ 4096
theorem MapQ.ext {h h' : Heap} {base b : Nat} {A : Option Addr} {c : Nat} {q : List Bool} (k : MapQ h base b A c q) (x : Ext h h') : MapQ h' base b A c q := by
  obtain ⟨hs, h1, h2⟩ := k; exact ⟨hs, h1.ext x, h2⟩
theorem MapQ.chg {h h' : Heap} {base b : Nat} {A : Option Addr} {c : Nat} {q : List Bool} {M : List Nat} (k : MapQ h base b A c q) (x : Chg M h h') (hb : b ∉ M) (hA : ∀ x ∈ blk A, x ∉ M) : MapQ h' base b A c q := by
  obtain ⟨hs, h1, h2⟩ := k; exact ⟨hs, h1.chg x hb hA, h2⟩
theorem HolesOf.len {hs : List Ex} {q : List Bool} (h : HolesOf hs q) : hs.length ≤ q.length := by rw [h.eq]; exact hl_len q q.length
theorem HolesOf.sm {hs : List Ex} {q : List Bool} (h : HolesOf hs q) (hl : q.length ≤ 4096) : ∀ x ∈ hs, Sm x := fun x hx => by
  have := h.1.lo x hx; unfold Sm; omega
theorem HolesOf.fit {hs : List Ex} {q : List Bool} (h : HolesOf hs q) (hl : q.length ≤ 4096) : ∀ x ∈ hs, Fit x := fun x hx => (h.sm hl x hx).fit
def MPost (h : Heap) (base b : Nat) (A : Option Addr) (q' : List Bool) (v0 : Value) (v : Value) (h' : Heap) : Prop := v = v0 ∧ ∃ A' c', MapQ h' base b A' c' q' ∧ Moved h A A'
theorem stays {P : Program} {f : FuncId} {args : List Value} {h : Heap} {v0 : Value} {base b : Nat} {A : Option Addr} {c : Nat} {q : List Bool} (hm : MapQ h base b A c q) (k : FG P f args h v0) : FC P f args h (b :: blk A) (MPost h base b A q v0) :=
  FC.mono k (fun b hb => by simp at hb) fun v h' hC hv => ⟨hv, A, c, hm.ext hC.ext, .inl rfl⟩
theorem given_q {h : Heap} {base b : Nat} {A : Option Addr} {c : Nat} {q : List Bool} (hm : MapQ h base b A c q) : ∀ h1, Ext h h1 → FQ Try.prog 23 [.pointer (some ⟨b, 0, none⟩)] h1 (.bool true) := fun h1 hX => by
  obtain ⟨hs, h1, h2, h3, h4⟩ := hm
  exact given_y _ b _ _ (h1.1.ext hX) (by omega)
theorem alloc_any (h : Heap) (base b : Nat) (A : Option Addr) (c : Nat) (q : List Bool) (count : Int) (hm : MapQ h base b A c q) (hbase : base ≤ h.size) :
    FC Try.prog 11 [.pointer (some ⟨b, 0, none⟩), .int .i64 count] h (b :: blk A) (MPost h base b A (allocQ q count).1 (.tuple #[exV (allocQ q count).2.1, .int .i64 (allocQ q count).2.2])) := by
  have hm0 := hm
  obtain ⟨hs, h1, h2, h3, h4⟩ := hm
  have hlen := h2.len
  unfold allocQ
  by_cases hc : count < 1
  · rw [if_pos hc]
    exact stays hm0 (alloc_no h _ count true (given_q hm0) (.inr hc))
  · rw [if_neg hc]
    have hc1 : 1 ≤ count := by omega
    rcases idxF_cases (fun x : Ex => decide (count ≤ x.count)) hs with ⟨hk, hno⟩ | ⟨k, hk, hik, hy, hb⟩
    · have hf : (List.range q.length).find? (okA q count) = none := by
        rw [List.find?_eq_none]
        intro i _
        rw [okA_iff h2 hc1]
        rintro ⟨x, hx, g1, g2⟩
        have := hno x hx
        simp at this
        omega
      rw [hf]
      exact stays hm0 (alloc_full h base b _ A c hs h1 (by omega) (by omega) count hc1 hk)
    · have hxm := ix_mem (xs := hs) (i := (k : Int)) (by omega) (by omega)
      have hx := h2.1.lo _ hxm
      simp only [decide_eq_true_eq] at hy
      have hf : (List.range q.length).find? (okA q count) = some (ix hs (k : Int)).first.toNat := by
        rw [List.find?_range_eq_some]
        refine ⟨(okA_iff h2 hc1 _).2 ⟨_, hxm, by omega, by omega⟩, List.mem_range.2 (by omega), fun j hj => ?_⟩
        have : ¬ okA q count j = true := by
          rw [okA_iff h2 hc1]
          rintro ⟨y, hyy, g1, g2⟩
          obtain ⟨m, hm1, rfl⟩ := List.getElem_of_mem hyy
          have hmk : m < k := by
            rcases Nat.lt_or_ge m k with hlt | hge
            · exact hlt
            · have := ix_order h2.1 hge hm1
              rw [ix_eq hm1] at this
              omega
          have := hb m hmk
          rw [ix_eq hm1] at this
          simp at this
          omega
        simpa using this
      rw [hf]
      have e1 : (((ix hs (k : Int)).first.toNat : Nat) : Int) = (ix hs (k : Int)).first := by omega
      simp only [e1]
      refine FC.mono (alloc_c h base b _ A c hs h1 (by omega) (by omega) count ⟨hc1, by omega⟩ k hik hk (h2.fit h4 _ hxm) hbase) (fun _ hb => hb) ?_
      rintro v h' hC ⟨rfl, A', c', hM, hMv⟩
      refine ⟨rfl, A', c', ⟨_, by rw [setR_len]; exact hM, cut_holes (e := ⟨(ix hs (k : Int)).first, count⟩) h2 hk (Int.le_refl _) hc1 (by show (ix hs (k : Int)).first + count ≤ _; omega), by rw [setR_len]; exact h3, by rw [setR_len]; exact h4⟩, hMv⟩
theorem take_any (h : Heap) (base b : Nat) (A : Option Addr) (c : Nat) (q : List Bool) (e : Ex) (hm : MapQ h base b A c q) (hbase : base ≤ h.size) :
    FC Try.prog 15 [.pointer (some ⟨b, 0, none⟩), exV e] h (b :: blk A) (MPost h base b A (setQ q e true).1 (.int .i64 (setQ q e true).2)) := by
  have hm0 := hm
  obtain ⟨hs, h1, h2, h3, h4⟩ := hm
  have hlen := h2.len
  unfold setQ
  cases hmay : mayB (q.length : Int) e with
  | false =>
    refine stays hm0 (take_no h _ e fun h5 hX => ?_)
    have := may_c h5 b q.length _ e (h1.1.ext hX) (by omega)
    rwa [hmay] at this
  | true =>
    have hb := mayB_i.1 hmay
    simp only [if_true]
    rcases idxF_cases (fun x : Ex => decide (x.first ≤ e.first) && decide (e.first + e.count ≤ x.first + x.count)) hs with ⟨hk, hno⟩ | ⟨k, hk, hik, hy, hbb⟩
    · have hf : allB q e.first e.count.toNat (!true) = false := by
        rw [← Bool.not_eq_true, Bool.not_true, all_free h2 hb.1 hb.2.1 hb.2.2]
        rintro ⟨x, hx, g1, g2⟩
        have := hno x hx
        simp at this
        omega
      rw [hf]
      exact stays hm0 (take_none h base b _ A c hs h1 (by omega) (by omega) e hmay (h2.fit h4) hk)
    · have hxm := ix_mem (xs := hs) (i := (k : Int)) (by omega) (by omega)
      simp only [Bool.and_eq_true, decide_eq_true_eq] at hy
      have hf : allB q e.first e.count.toNat (!true) = true := by
        rw [Bool.not_true, all_free h2 hb.1 hb.2.1 hb.2.2]
        exact ⟨_, hxm, hy.1, hy.2⟩
      rw [hf]
      refine FC.mono (take_c h base b _ A c hs h1 (by omega) (by omega) e hmay (h2.fit h4) k hik hk hbase) (fun _ hb => hb) ?_
      rintro v h' hC ⟨rfl, A', c', hM, hMv⟩
      exact ⟨rfl, A', c', ⟨_, by simp only [if_true]; rw [setR_len]; exact hM, cut_holes h2 hk hy.1 hb.1 hy.2, by simp only [if_true]; rw [setR_len]; exact h3, by simp only [if_true]; rw [setR_len]; exact h4⟩, hMv⟩
theorem free_any (h : Heap) (base b : Nat) (A : Option Addr) (c : Nat) (q : List Bool) (e : Ex) (hm : MapQ h base b A c q) (hbase : base ≤ h.size) :
    FC Try.prog 13 [.pointer (some ⟨b, 0, none⟩), exV e] h (b :: blk A) (MPost h base b A (setQ q e false).1 (.int .i64 (setQ q e false).2)) := by
  have hm0 := hm
  obtain ⟨hs, h1, h2, h3, h4⟩ := hm
  have hlen := h2.len
  unfold setQ
  cases hmay : mayB (q.length : Int) e with
  | false =>
    refine stays hm0 (free_no h _ e fun h5 hX => ?_)
    have := may_c h5 b q.length _ e (h1.1.ext hX) (by omega)
    rwa [hmay] at this
  | true =>
    have hb := mayB_i.1 hmay
    simp only [if_true, Bool.not_false, all_taken h2 hb.1 hb.2.1 hb.2.2]
    cases ho : oF hs e with
    | true => exact stays hm0 (free_none h base b _ A c hs h1 (by omega) (by omega) e hmay (h2.fit h4) ho)
    | false =>
      simp only [Bool.not_false, if_true]
      obtain ⟨k, kI, hkI, hk, hl, hr⟩ : ∃ (k : Nat) (kI : Int), idxF (fun x : Ex => decide (e.first < x.first)) hs = kI ∧ (kI = -1 ∧ k = hs.length ∨ kI = k ∧ k < hs.length) ∧ (∀ j : Nat, j < k → ¬ e.first < (ix hs (j : Int)).first) ∧ (k < hs.length → e.first < (ix hs (k : Int)).first) := by
        rcases idxF_cases (fun x : Ex => decide (e.first < x.first)) hs with ⟨hk, hno⟩ | ⟨k, hk, hik, hy, hbb⟩
        · refine ⟨hs.length, -1, hk, .inl ⟨rfl, rfl⟩, fun j hj => ?_, fun hh => by omega⟩
          have := hno _ (ix_mem (xs := hs) (i := (j : Int)) (by omega) (by omega))
          simpa using this
        · exact ⟨k, k, hik, .inr ⟨rfl, hk⟩, fun j hj => by simpa using hbb j hj, fun _ => by simpa using hy⟩
      have key : FC Try.prog 13 [.pointer (some ⟨b, 0, none⟩), exV e] h (b :: blk A) (fun v h' => v = .int .i64 0 ∧ ∃ A' c', IsMap h' base b q.length A' c' (freeH hs k e) ∧ Moved h A A') := by
        by_cases h0 : k = 0
        · exact free_0 h base b _ A c hs h1 (by omega) (by omega) e hmay (h2.sm h4) ho k kI hkI hk hbase h0
        · by_cases hL : (ix hs ((k : Int) - 1)).first + (ix hs ((k : Int) - 1)).count = e.first
          · exact free_L h base b _ A c hs h1 (by omega) (by omega) e hmay (h2.sm h4) ho k kI hkI hk hbase h0 hL
          · exact free_N h base b _ A c hs h1 (by omega) (by omega) e hmay (h2.sm h4) ho k kI hkI hk hbase h0 hL
      refine FC.mono key (fun _ hb => hb) ?_
      rintro v h' hC ⟨rfl, A', c', hM, hMv⟩
      exact ⟨rfl, A', c', ⟨_, by rw [setR_len]; exact hM, free_holes h2 ho ⟨hb.2.1, hb.1, hb.2.2⟩ (by omega) hl hr, by rw [setR_len]; exact h3, by rw [setR_len]; exact h4⟩, hMv⟩
theorem left_any (h : Heap) (base b : Nat) (A : Option Addr) (c : Nat) (q : List Bool) (hm : MapQ h base b A c q) : FG Try.prog 21 [.pointer (some ⟨b, 0, none⟩)] h (.int .i64 (leftB q)) := by
  obtain ⟨hs, h1, h2, h3, h4⟩ := hm
  have hlen := h2.len
  rw [← h2.sum]
  exact left_c h base b _ A c hs h1 (by omega) (by omega) fun x hx => by have := h2.1.lo x hx; omega
theorem long_any (h : Heap) (base b : Nat) (A : Option Addr) (c : Nat) (q : List Bool) (hm : MapQ h base b A c q) : FG Try.prog 22 [.pointer (some ⟨b, 0, none⟩)] h (.int .i64 (maxC 0 (hl q q.length))) := by
  obtain ⟨hs, h1, h2, h3, h4⟩ := hm
  have hlen := h2.len
  rw [← h2.eq]
  exact long_c h base b _ A c hs h1 (by omega) (by omega)
theorem holes_any (h : Heap) (base b : Nat) (A : Option Addr) (c : Nat) (q : List Bool) (hm : MapQ h base b A c q) :
    FC Try.prog 18 [.pointer (some ⟨b, 0, none⟩)] h [] (fun v h' => ∃ A' c', v = .slice A' (hl q q.length).length c' ∧ Own h' h.size 35 A' c' (hl q q.length)) := by
  obtain ⟨hs, h1, h2, h3, h4⟩ := hm
  have hlen := h2.len
  rw [← h2.eq]
  exact holes_c h base b _ A c hs h1 (by omega) (by omega)
theorem copy_any (h : Heap) (base b : Nat) (A : Option Addr) (c : Nat) (q : List Bool) (hm : MapQ h base b A c q) :
    FC Try.prog 19 [.pointer (some ⟨b, 0, none⟩)] h [] (fun v h' => ∃ b' A' c', v = .pointer (some ⟨b', 0, none⟩) ∧ MapQ h' h.size b' A' c' q) := by
  obtain ⟨hs, h1, h2, h3, h4⟩ := hm
  have hlen := h2.len
  refine FC.mono (copy_c h base b _ A c hs h1 (by omega) (by omega)) (fun _ hb => hb) ?_
  rintro v h' hC ⟨b', A', c', rfl, hM⟩
  exact ⟨b', A', c', rfl, hs, hM, h2, h3, h4⟩
theorem new_any (h : Heap) (n : Int) (hn : 1 ≤ n) (hn2 : n ≤ 4096) : FC Try.prog 9 [.int .i64 n] h [] (fun v h' => ∃ b A c, v = .tuple #[.pointer (some ⟨b, 0, none⟩), .int .i64 0] ∧ MapQ h' h.size b A c (List.replicate n.toNat false)) := by
  refine FC.mono (new_c h n hn hn2) (fun _ hb => hb) ?_
  rintro v h' hC ⟨b, A, c, rfl, hM⟩
  have e1 : (((List.replicate n.toNat false).length : Nat) : Int) = n := by simp; omega
  refine ⟨b, A, c, rfl, _, by rw [e1]; exact hM, ⟨by rw [e1]; exact ⟨Int.le_refl _, hn, by show 0 + n ≤ n; omega, trivial⟩, fun i h1 h2 => ?_⟩, by simp; omega, by simp; omega⟩
  rw [e1] at h2
  have : ix (List.replicate n.toNat false) i = false := by
    have hi : i = ((i.toNat : Nat) : Int) := by omega
    rw [hi, ix_eq (by simp; omega)]; simp
  rw [this]
  exact ⟨fun _ => ⟨_, List.mem_cons_self, h1, by show i < 0 + n; omega⟩, fun _ => rfl⟩
end Go.Px.Ext_
