/- Steps of a proof: contracts of functions, walked. -/
import Derived.Test.YtiahamibfpamgaaPxTab
import Derived.Test.YtiahamibfpamgaaPxExA
import Derived.Test.YtiahamibfpamgaaProg
set_option linter.unusedVariables false
set_option linter.unusedSimpArgs false
set_option maxRecDepth 10000
namespace Go.Px.Ext_
open Go.Proofs Go.Px
theorem Own.takeN {α : Type} [Enc α] {h : Heap} {base : Nat} {t : TypeId} {A : Option Addr} {c : Nat} {xs : List α} (k : Own h base t A c xs) (n : Nat) : Own h base t A c (xs.take n) := by
  rcases k with ⟨rfl, rfl, rfl⟩ | ⟨g, cur, rfl, h1, h2, h3, h4, h5, h6⟩
  · exact .inl ⟨rfl, rfl, by simp⟩
  · refine .inr ⟨g, cur, rfl, h1, h2, ?_, h4, h5, ?_⟩
    · rw [List.length_take]; omega
    · rw [← encs_take, ← h6, List.take_take, List.length_take]
      congr 1
      rcases Nat.le_total n xs.length with h | h
      · rw [Nat.min_eq_left h, Nat.min_eq_left (Nat.mul_le_mul_right _ h)]
      · rw [Nat.min_eq_right h, Nat.min_eq_right (Nat.mul_le_mul_right _ h)]
def ovF : Nat := 42
theorem ovl (args : Array Value) (w : World) : (callFunc 42 args).run Try.prog w = ((Extern.SlicesOverlaps.overlaps #[46, 46] #[4] args).run Try.prog w).andThen (fun v w' => .ok (.value v) w') := by
  have h1 : Extern.findNext Try.f42 = none := by kernel_rfl
  have h2 : Extern.find Try.f42 = some (Extern.SlicesOverlaps.overlaps #[46, 46] #[4]) := by kernel_rfl
  have h3 : (Try.f42.name == "runtime.NumGoroutine") = false := by kernel_rfl
  have h3' : ¬ (Try.f42.name = "runtime.NumGoroutine") := by simpa using h3
  have h4 : Try.f42.body = none := by rfl
  simp [callFunc, program, Sem.run, Try.func42, h1, h2, h3', h4, mark]
/-- a row that came of a row: where it lies -/
def Moved (h : Heap) (A A' : Option Addr) : Prop := blk A' = blk A ∨ ∀ b ∈ blk A', h.size ≤ b
/-- what slices.Insert and slices.Replace hand back -/
def RowPost {α : Type} [Enc α] (h : Heap) (base : Nat) (t : TypeId) (A : Option Addr) (res : List α) (v : Value) (h' : Heap) : Prop :=
  ∃ A' c', v = .slice A' res.length c' ∧ Own h' base t A' c' res ∧ Moved h A A'
theorem clone_c (h : Heap) (A : Option Addr) (c : Nat) (xs : List Ex) (hr : Rd h A xs) (hl : xs.length ≤ 4294967296) :
    FC Try.prog 40 [.slice A xs.length c] h [] (fun v h' => ∃ A' c', v = .slice A' xs.length c' ∧ Own h' h.size 35 A' c' xs) := by
  refine FC.of_EW (fun a w => Try.call40 a w) Try.func40 rfl rfl fun s h1 hX => ?_
  have hF := ((Know.nil h1).since hX).rd (hr.ext hX)
  cases A with
  | none =>
    have hx : xs = [] := by
      cases xs with
      | nil => rfl
      | cons x xs => exact absurd (hr.1 (by simp)) (by simp)
    subst hx
    focus
      refine EW.seq ?_
      refine EW.sreg rfl ?_
      refine OX.tagc ?_
      refine OX.p rfl rfl (WantE.none rfl) ?_
      refine OX.tagn ?_
      refine qT_n ?_
      refine EW.seq ?_
      refine EW.seq ?_
      refine EW.sreg rfl ?_
      refine OX.tagc ?_
      refine OX.p rfl rfl (WantE.none rfl) ?_
      refine OX.tagc ?_
      refine OX.p rfl rfl (WantE.none rfl) ?_
      refine OX.tagn ?_
      refine qT_n ?_
      refine EW.cond_t rfl rfl ?_
      refine EW.seq ?_
      refine EW.sreg rfl ?_
      refine OX.tagc ?_
      refine OX.p rfl rfl (WantE.none rfl) ?_
      refine OX.tagn ?_
      refine qT_n ?_
      refine EW.ret ?_
      refine qT_ret ?_
      refine rQ_ret ?_
      refine Rets.one rfl ?_
      rotate_left
    exact ⟨hF.out.2.1.chg [], none, 0, rfl, Own.nil _ _ _⟩
  | some a =>
    focus
      refine EW.seq ?_
      refine EW.sreg rfl ?_
      refine OX.tagc ?_
      refine OX.p rfl rfl (WantE.none rfl) ?_
      refine OX.tagn ?_
      refine qT_n ?_
      refine EW.seq ?_
      refine EW.seq ?_
      refine EW.sreg rfl ?_
      refine OX.tagc ?_
      refine OX.p rfl rfl (WantE.none rfl) ?_
      refine OX.tagc ?_
      refine OX.p rfl rfl (WantE.none rfl) ?_
      refine OX.tagn ?_
      refine qT_n ?_
      refine EW.cond_f rfl rfl ?_
      refine EW.skip ?_
      refine qT_n ?_
      refine EW.seq ?_
      refine EW.sreg rfl ?_
      refine OX.tagc ?_
      rotate_left
    refine OX.gr rfl rfl (WantE.none rfl) (Gr.lit (xs := ([] : List Ex)) (bytes := 16) rfl rfl rfl rfl rfl rfl (by decide) ?_)
    intro b_ h_ hb_ hE hlt hO
    replace hF := hF.up hE
    focus
      refine OX.tagc ?_
      refine OX.p rfl rfl (WantE.none rfl) ?_
      refine OX.tagc ?_
      rotate_left
    refine OX.ac rfl rfl (WantE.none rfl) (Runs.append (xs := ([] : List Ex)) (ys := xs) (base := h1.size) (bytes := 16) rfl rfl rfl rfl rfl rfl hO hF.out.1 (by have := hE.1; omega) (by simp; omega) ?_)
    intro A' c' h2 hO2 hC hM
    have hX2 : Ext h h2 := Chg.fresh hF.out.2.1 hC (fun m hm => by have := hO.blk_ge m hm; have := hX.1; omega)
    focus
      refine OX.tagc ?_
      refine OX.p rfl rfl (WantE.none rfl) ?_
      refine OX.tagn ?_
      refine qT_n ?_
      refine EW.ret ?_
      refine rQ_ret ?_
      refine Rets.one rfl ?_
      rotate_left
    exact ⟨hX2.chg [], A', c', rfl, by simpa using hO2.mono hX.1⟩
theorem wlen {xs : List Ex} : (encs xs).length = xs.length * 2 := encs_len xs
theorem insert_c (h : Heap) (base : Nat) (A : Option Addr) (c : Nat) (xs : List Ex) (i : Nat) (V : Option Addr) (vc : Nat) (ys : List Ex) (own : Own h base 35 A c xs) (rd : Own h 0 35 V vc ys)
    (hne : ∀ b ∈ blk A, b ∉ blk V) (hi : i ≤ xs.length) (hbase : base ≤ h.size) (hl : xs.length + ys.length ≤ 4294967296) :
    FC Try.prog 41 [.slice A xs.length c, .int .i64 (i : Int), .slice V ys.length vc] h (blk A) (RowPost h base 35 A (xs.take i ++ ys ++ xs.drop i)) := by
  refine FC.of_EW (fun a w => Try.call41 a w) Try.func41 rfl rfl fun s h1 hX => ?_
  have hF := (((Know.nil h1).since hX).own (rd.ext hX)).own (own.ext hX)
  have hK := hF
  have hle := own.le
  have hres : (xs.take i ++ ys ++ xs.drop i).length = xs.length + ys.length := by simp; omega
  by_cases h0 : ys.length = 0
  · focus
      refine EW.seq ?_
      refine EW.sreg rfl ?_
      refine OX.tagc ?_
      refine OX.p rfl rfl (WantE.none rfl) ?_
      refine OX.tagn ?_
      refine qT_n ?_
      refine EW.seq ?_
      refine EW.sreg rfl ?_
      refine OX.tagc ?_
      refine OX.p rfl rfl (WantE.none rfl) ?_
      refine OX.tagc ?_
      refine OX.p rfl rfl (WantE.none rfl) ?_
      refine OX.tagc ?_
      refine OX.q rfl (WantE.none rfl) (Qy.cutLo rfl rfl rfl rfl rfl (by omega) (by omega)) ?_
      refine OX.tagn ?_
      refine qT_n ?_
      refine EW.seq ?_
      refine EW.sreg rfl ?_
      refine OX.tagc ?_
      refine OX.p rfl rfl (WantE.none rfl) ?_
      refine OX.tagc ?_
      refine OX.p rfl rfl (WantE.none rfl) ?_
      refine OX.tagc ?_
      refine OX.p rfl rfl (WantE.none rfl) ?_
      refine OX.tagn ?_
      refine qT_n ?_
      refine EW.seq ?_
      refine EW.seq ?_
      refine EW.sreg rfl ?_
      refine OX.tagc ?_
      refine OX.p rfl rfl (WantE.none rfl) ?_
      refine OX.tagc ?_
      refine OX.p rfl rfl (WantE.none rfl) ?_
      refine OX.tagn ?_
      refine qT_n ?_
      refine EW.cond rfl ?_ ?_
      intro hb
      have hb' := of_decide_eq_true hb
      refine EW.seq ?_
      refine EW.sreg rfl ?_
      refine OX.tagc ?_
      refine OX.p rfl rfl (WantE.none rfl) ?_
      refine OX.tagc ?_
      refine OX.p rfl rfl (WantE.none rfl) ?_
      refine OX.tagn ?_
      refine qT_n ?_
      refine EW.ret ?_
      refine qT_ret ?_
      refine rQ_ret ?_
      refine Rets.one rfl ?_
      rotate_left
      intro hb
      have hb' := of_decide_eq_false hb
      (exfalso; omega)
    have hy : ys = [] := List.eq_nil_of_length_eq_zero h0
    subst hy
    have e1 : xs.take i ++ [] ++ xs.drop i = xs := by simp
    refine ⟨hF.out.2.2.1.chg _, A, c, ?_, ?_, .inl rfl⟩
    · rw [e1]; rfl
    · rw [e1]; exact hF.out.1
  by_cases hin : i = xs.length
  · focus
      refine EW.seq ?_
      refine EW.sreg rfl ?_
      refine OX.tagc ?_
      refine OX.p rfl rfl (WantE.none rfl) ?_
      refine OX.tagn ?_
      refine qT_n ?_
      refine EW.seq ?_
      refine EW.sreg rfl ?_
      refine OX.tagc ?_
      refine OX.p rfl rfl (WantE.none rfl) ?_
      refine OX.tagc ?_
      refine OX.p rfl rfl (WantE.none rfl) ?_
      refine OX.tagc ?_
      refine OX.q rfl (WantE.none rfl) (Qy.cutLo rfl rfl rfl rfl rfl (by omega) (by omega)) ?_
      refine OX.tagn ?_
      refine qT_n ?_
      refine EW.seq ?_
      refine EW.sreg rfl ?_
      refine OX.tagc ?_
      refine OX.p rfl rfl (WantE.none rfl) ?_
      refine OX.tagc ?_
      refine OX.p rfl rfl (WantE.none rfl) ?_
      refine OX.tagc ?_
      refine OX.p rfl rfl (WantE.none rfl) ?_
      refine OX.tagn ?_
      refine qT_n ?_
      refine EW.seq ?_
      refine EW.seq ?_
      refine EW.sreg rfl ?_
      refine OX.tagc ?_
      refine OX.p rfl rfl (WantE.none rfl) ?_
      refine OX.tagc ?_
      refine OX.p rfl rfl (WantE.none rfl) ?_
      refine OX.tagn ?_
      refine qT_n ?_
      refine EW.cond rfl ?_ ?_
      intro hb
      have hb' := of_decide_eq_true hb
      (exfalso; omega)
      intro hb
      have hb' := of_decide_eq_false hb
      refine EW.skip ?_
      refine qT_n ?_
      refine EW.seq ?_
      refine EW.sreg rfl ?_
      refine OX.tagc ?_
      refine OX.p rfl rfl (WantE.none rfl) ?_
      refine OX.tagc ?_
      refine OX.p rfl rfl (WantE.none rfl) ?_
      refine OX.tagc ?_
      refine OX.p rfl rfl (WantE.none rfl) ?_
      refine OX.tagn ?_
      refine qT_n ?_
      refine EW.seq ?_
      refine EW.seq ?_
      refine EW.sreg rfl ?_
      refine OX.tagc ?_
      refine OX.p rfl rfl (WantE.none rfl) ?_
      refine OX.tagc ?_
      refine OX.p rfl rfl (WantE.none rfl) ?_
      refine OX.tagc ?_
      refine OX.p rfl rfl (WantE.none rfl) ?_
      refine OX.tagn ?_
      refine qT_n ?_
      refine EW.cond rfl ?_ ?_
      intro hb
      have hb' := of_decide_eq_true hb
      refine EW.seq ?_
      refine EW.sreg rfl ?_
      refine OX.tagc ?_
      refine OX.p rfl rfl (WantE.none rfl) ?_
      refine OX.tagc ?_
      refine OX.p rfl rfl (WantE.none rfl) ?_
      refine OX.tagc ?_
      rotate_left
      intro hb
      have hb' := of_decide_eq_false hb
      (exfalso; omega)
    refine OX.ac rfl rfl (WantE.none rfl) (Runs.append (xs := xs) (ys := ys) (base := base) (bytes := 16) rfl rfl rfl rfl rfl rfl hF.out.1 hF.out.2.1.rd (by have := hX.1; omega) (by omega) ?_)
    intro A' c' h2 hO2 hC hM
    focus
      refine OX.tagc ?_
      refine OX.p rfl rfl (WantE.none rfl) ?_
      refine OX.tagn ?_
      refine qT_n ?_
      refine EW.ret ?_
      refine qT_ret ?_
      refine rQ_ret ?_
      refine Rets.one rfl ?_
      rotate_left
    have e1 : xs.take i ++ ys ++ xs.drop i = xs ++ ys := by simp [hin]
    refine ⟨Chg.of_ext_left hF.out.2.2.1 hC, A', c', ?_, ?_, ?_⟩
    · rw [e1]; rfl
    · rw [e1]; exact hO2
    · rcases hM with hM | hM
      · exact .inl hM
      · exact .inr fun b hb => Nat.le_trans hX.1 (hM b hb)
  obtain ⟨vb, rfl⟩ : ∃ vb, V = some ⟨vb, 0, none⟩ := by
    rcases rd with ⟨_, _, rfl⟩ | ⟨g, cur, rfl, _⟩
    · exact absurd rfl h0
    · exact ⟨g, rfl⟩
  by_cases hg : c < xs.length + ys.length
  · focus
      refine EW.seq ?_
      refine EW.sreg rfl ?_
      refine OX.tagc ?_
      refine OX.p rfl rfl (WantE.none rfl) ?_
      refine OX.tagn ?_
      refine qT_n ?_
      refine EW.seq ?_
      refine EW.sreg rfl ?_
      refine OX.tagc ?_
      refine OX.p rfl rfl (WantE.none rfl) ?_
      refine OX.tagc ?_
      refine OX.p rfl rfl (WantE.none rfl) ?_
      refine OX.tagc ?_
      refine OX.q rfl (WantE.none rfl) (Qy.cutLo rfl rfl rfl rfl rfl (by omega) (by omega)) ?_
      refine OX.tagn ?_
      refine qT_n ?_
      refine EW.seq ?_
      refine EW.sreg rfl ?_
      refine OX.tagc ?_
      refine OX.p rfl rfl (WantE.none rfl) ?_
      refine OX.tagc ?_
      refine OX.p rfl rfl (WantE.none rfl) ?_
      refine OX.tagc ?_
      refine OX.p rfl rfl (WantE.none rfl) ?_
      refine OX.tagn ?_
      refine qT_n ?_
      refine EW.seq ?_
      refine EW.seq ?_
      refine EW.sreg rfl ?_
      refine OX.tagc ?_
      refine OX.p rfl rfl (WantE.none rfl) ?_
      refine OX.tagc ?_
      refine OX.p rfl rfl (WantE.none rfl) ?_
      refine OX.tagn ?_
      refine qT_n ?_
      refine EW.cond rfl ?_ ?_
      intro hb
      have hb' := of_decide_eq_true hb
      (exfalso; omega)
      intro hb
      have hb' := of_decide_eq_false hb
      refine EW.skip ?_
      refine qT_n ?_
      refine EW.seq ?_
      refine EW.sreg rfl ?_
      refine OX.tagc ?_
      refine OX.p rfl rfl (WantE.none rfl) ?_
      refine OX.tagc ?_
      refine OX.p rfl rfl (WantE.none rfl) ?_
      refine OX.tagc ?_
      refine OX.p rfl rfl (WantE.none rfl) ?_
      refine OX.tagn ?_
      refine qT_n ?_
      refine EW.seq ?_
      refine EW.seq ?_
      refine EW.sreg rfl ?_
      refine OX.tagc ?_
      refine OX.p rfl rfl (WantE.none rfl) ?_
      refine OX.tagc ?_
      refine OX.p rfl rfl (WantE.none rfl) ?_
      refine OX.tagc ?_
      refine OX.p rfl rfl (WantE.none rfl) ?_
      refine OX.tagn ?_
      refine qT_n ?_
      refine EW.cond rfl ?_ ?_
      intro hb
      have hb' := of_decide_eq_true hb
      (exfalso; omega)
      intro hb
      have hb' := of_decide_eq_false hb
      refine EW.skip ?_
      refine qT_n ?_
      refine EW.seq ?_
      refine EW.seq ?_
      refine EW.sreg rfl ?_
      refine OX.tagc ?_
      refine OX.p rfl rfl (WantE.none rfl) ?_
      refine OX.tagc ?_
      refine OX.p rfl rfl (WantE.none rfl) ?_
      refine OX.tagc ?_
      refine OX.q rfl (WantE.none rfl) (Qy.addi rfl rfl rfl (by omega)) ?_
      refine OX.tagc ?_
      refine OX.p rfl rfl (WantE.none rfl) ?_
      refine OX.tagc ?_
      refine OX.q rfl (WantE.none rfl) (Qy.cap rfl rfl rfl) ?_
      refine OX.tagc ?_
      refine OX.p rfl rfl (WantE.none rfl) ?_
      refine OX.tagn ?_
      refine qT_n ?_
      refine EW.cond rfl ?_ ?_
      intro hb
      have hb' := of_decide_eq_true hb
      refine EW.seq ?_
      refine EW.sreg rfl ?_
      refine OX.tagc ?_
      refine OX.p rfl rfl (WantE.none rfl) ?_
      refine OX.tagc ?_
      refine OX.p rfl rfl (WantE.none rfl) ?_
      refine OX.tagc ?_
      refine OX.q rfl (WantE.none rfl) (Qy.cutHi rfl rfl rfl rfl rfl (by omega)) ?_
      refine OX.tagc ?_
      refine OX.p rfl rfl (WantE.none rfl) ?_
      refine OX.tagc ?_
      refine OX.p rfl rfl (WantE.none rfl) ?_
      refine OX.tagc ?_
      refine OX.q rfl (WantE.none rfl) (Qy.addi rfl rfl rfl (by omega)) ?_
      refine OX.tagc ?_
      refine OX.p rfl rfl (WantE.none rfl) ?_
      refine OX.tagc ?_
      refine OX.q rfl (WantE.none rfl) (Qy.subi rfl rfl rfl (by omega)) ?_
      refine OX.tagc ?_
      rotate_left
      intro hb
      have hb' := of_decide_eq_false hb
      (exfalso; omega)
    refine OX.ac rfl rfl (WantE.none rfl) ?_
    refine Runs.of_Gr (Gr.appendZeros (k := 2) (bytes := 16) (olds := encs (xs.take i)) rfl rfl rfl rfl (by decide) rfl rfl (by omega) (fun hp => own.rd.1 (by have : ((i : Int).toNat) = i := rfl; omega)) (hF.out.1.rd.take i).2 ?_ (by omega) (by omega) ?_)
    · rw [encs_len, List.length_take, Nat.min_eq_left hi]; rfl
    intro b1 c1 cs h2 hb1 hE hB hc1 hcm hsz htk
    have hi' : ((i : Int).toNat) = i := rfl
    replace hF := (hF.up hE).blk hB
    have hm : (((xs.length : Int) + (ys.length : Int) - (i : Int)).toNat) = xs.length + ys.length - i := by omega
    focus
      refine OX.tagc ?_
      refine OX.p rfl rfl (WantE.none rfl) ?_
      refine OX.tagn ?_
      refine qT_n ?_
      refine EW.seq ?_
      refine EW.sreg rfl ?_
      refine OX.tagc ?_
      refine OX.p rfl rfl (WantE.none rfl) ?_
      refine OX.tagc ?_
      refine OX.p rfl rfl (WantE.none rfl) ?_
      refine OX.tagc ?_
      refine OX.q rfl (WantE.none rfl) (Qy.cutLo rfl rfl rfl rfl rfl (by omega) (by omega)) ?_
      refine OX.tagc ?_
      refine OX.p rfl rfl (WantE.none rfl) ?_
      refine OX.tagc ?_
      rotate_left
    have hkc : Enc.k Ex = 2 := rfl
    refine OX.ac rfl rfl (WantE.none rfl) (Runs.copy (g := b1) (of := i * 2) (n := ys.length) (k := 2) (bytes := 16) (cs := encs ys) (cur := cs) (t' := 35) rfl rfl rfl rfl rfl (by omega) (fun _ => cut_blk (by omega)) (fun _ => rfl) hF.out.2.2.1.rd.2 (encs_len ys) hF.out.1 (fun _ => by omega) (encs_one ys) ?_)
    intro h3 hC hB3
    rw [if_neg h0] at hB3
    have hE3 : Ext h1 h3 := Chg.fresh hE hC (by simpa using hb1)
    replace hF := (hK.up hE3).blk hB3
    focus
      refine OX.tagn ?_
      refine qT_n ?_
      refine EW.seq ?_
      (refine EW.drawT ord41 tab41 rfl (by kernel_rfl) (by kernel_rfl) (by kernel_rfl) ?_)
      refine OX.p rfl rfl (WantE.none rfl) ?_
      refine OX.p rfl rfl (WantE.none rfl) ?_
      refine OX.p rfl rfl (WantE.none rfl) ?_
      refine OX.q rfl (WantE.none rfl) (Qy.addi rfl rfl rfl (by omega)) ?_
      refine OX.q rfl (WantE.none rfl) (Qy.cutLo rfl rfl rfl rfl rfl (by omega) (by omega)) ?_
      refine OX.p rfl rfl (WantE.none rfl) ?_
      refine OX.p rfl rfl (WantE.none rfl) ?_
      refine OX.q rfl (WantE.none rfl) (Qy.cutLo rfl rfl rfl rfl rfl (by omega) (by omega)) ?_
      rotate_left
    have hsz1 : (putAt cs (i * 2) (encs ys)).size = cs.size := putAt_size _ _ _ (by rw [wlen]; omega)
    have hdl : (encs (xs.drop i)).length = (xs.length - i) * 2 := by rw [wlen, List.length_drop]
    refine OX.ac rfl rfl (WantE.none rfl) (Runs.copy (g := b1) (of := ((i : Int) + (ys.length : Int)).toNat * 2) (n := xs.length - i) (k := 2) (bytes := 16) (cs := encs (xs.drop i)) (cur := putAt cs (i * 2) (encs ys)) (t' := 35) rfl rfl rfl rfl rfl (by omega) (fun _ => cut_blk (by omega)) (fun _ => by
        rw [if_neg (by omega)]; simpa using own.rd.1 (by omega)) ?_ hdl hF.out.1 (fun _ => by omega) (encs_one _) ?_)
    · rw [if_neg (by omega)]; exact (hF.out.2.1.rd.drop i).2
    intro h4 hC4 hB4
    rw [if_neg (by omega)] at hB4
    have hE4 : Ext h1 h4 := Chg.fresh hE3 hC4 (by simpa using hb1)
    focus
      refine OX.nil ?_
      refine qT_n ?_
      refine EW.seq ?_
      refine EW.sreg rfl ?_
      refine OX.tagc ?_
      refine OX.p rfl rfl (WantE.none rfl) ?_
      refine OX.tagc ?_
      refine OX.p rfl rfl (WantE.none rfl) ?_
      refine OX.tagn ?_
      refine qT_n ?_
      refine EW.ret ?_
      refine qT_ret ?_
      refine rQ_ret ?_
      refine Rets.one rfl ?_
      rotate_left
    have hp : ((i : Int) + (ys.length : Int)).toNat * 2 = i * 2 + (encs ys).length := by rw [wlen]; omega
    refine ⟨(hX.trans hE4).chg _, some ⟨b1, 0, none⟩, c1, ?_, ?_, .inr fun b hb => by simp [blk] at hb; subst hb; exact Nat.le_trans hX.1 hb1⟩
    · show Value.slice _ _ _ = _
      congr 1
      omega
    · refine Own.mk_ hB4 (by have := hX.1; omega) (by rw [hres]; omega) hcm ?_ ?_
      · rw [putAt_size _ _ _ (by rw [hdl]; omega), hsz1, hsz]; rfl
      · rw [put_up cs (encs (xs.take i)) (encs (xs.drop i)) (encs ys) _ (i * 2) htk (by rw [wlen, List.length_take]; omega) hp.symm (by omega)]
        rw [← encs_append, ← encs_append]
        rw [← encs_len]
        exact List.take_left
  · have hnz : 0 < xs.length := by omega
    obtain ⟨g, cur, rfl, hbg, hBg0, hlc, hcm, hsz0, htk⟩ : ∃ g cur, A = some ⟨g, 0, none⟩ ∧ base ≤ g ∧ Blk h g 35 cur ∧ xs.length ≤ c ∧ c ≤ maxLen ∧ cur.size = c * Enc.k Ex ∧ cur.toList.take (xs.length * Enc.k Ex) = encs xs := by
      rcases own with ⟨_, _, h⟩ | h
      · rw [h] at hnz; simp at hnz
      · exact h
    obtain ⟨vcur, hBv0, hvs⟩ : ∃ vcur, Blk h vb 35 vcur ∧ vcur.size ≠ 0 := by
      rcases rd with ⟨h, _⟩ | ⟨g', cur', h, _, h2, h3, _, h5, _⟩
      · cases h
      · injection h with h; injection h with h; subst h
        exact ⟨cur', h2, by rw [h5]; have : 0 < vc * Enc.k Ex := Nat.mul_pos (by omega) (by decide); omega⟩
    have hgv : vb ≠ g := fun h => hne g (by simp [blk]) (by simp [blk, h])
    have hBg := hBg0.ext hX
    have hsz : cur.size = c * 2 := hsz0
    focus
      refine EW.seq ?_
      refine EW.sreg rfl ?_
      refine OX.tagc ?_
      refine OX.p rfl rfl (WantE.none rfl) ?_
      refine OX.tagn ?_
      refine qT_n ?_
      refine EW.seq ?_
      refine EW.sreg rfl ?_
      refine OX.tagc ?_
      refine OX.p rfl rfl (WantE.none rfl) ?_
      refine OX.tagc ?_
      refine OX.p rfl rfl (WantE.none rfl) ?_
      refine OX.tagc ?_
      refine OX.q rfl (WantE.none rfl) (Qy.cutLo rfl rfl rfl rfl rfl (by omega) (by omega)) ?_
      refine OX.tagn ?_
      refine qT_n ?_
      refine EW.seq ?_
      refine EW.sreg rfl ?_
      refine OX.tagc ?_
      refine OX.p rfl rfl (WantE.none rfl) ?_
      refine OX.tagc ?_
      refine OX.p rfl rfl (WantE.none rfl) ?_
      refine OX.tagc ?_
      refine OX.p rfl rfl (WantE.none rfl) ?_
      refine OX.tagn ?_
      refine qT_n ?_
      refine EW.seq ?_
      refine EW.seq ?_
      refine EW.sreg rfl ?_
      refine OX.tagc ?_
      refine OX.p rfl rfl (WantE.none rfl) ?_
      refine OX.tagc ?_
      refine OX.p rfl rfl (WantE.none rfl) ?_
      refine OX.tagn ?_
      refine qT_n ?_
      refine EW.cond rfl ?_ ?_
      intro hb
      have hb' := of_decide_eq_true hb
      (exfalso; omega)
      intro hb
      have hb' := of_decide_eq_false hb
      refine EW.skip ?_
      refine qT_n ?_
      refine EW.seq ?_
      refine EW.sreg rfl ?_
      refine OX.tagc ?_
      refine OX.p rfl rfl (WantE.none rfl) ?_
      refine OX.tagc ?_
      refine OX.p rfl rfl (WantE.none rfl) ?_
      refine OX.tagc ?_
      refine OX.p rfl rfl (WantE.none rfl) ?_
      refine OX.tagn ?_
      refine qT_n ?_
      refine EW.seq ?_
      refine EW.seq ?_
      refine EW.sreg rfl ?_
      refine OX.tagc ?_
      refine OX.p rfl rfl (WantE.none rfl) ?_
      refine OX.tagc ?_
      refine OX.p rfl rfl (WantE.none rfl) ?_
      refine OX.tagc ?_
      refine OX.p rfl rfl (WantE.none rfl) ?_
      refine OX.tagn ?_
      refine qT_n ?_
      refine EW.cond rfl ?_ ?_
      intro hb
      have hb' := of_decide_eq_true hb
      (exfalso; omega)
      intro hb
      have hb' := of_decide_eq_false hb
      refine EW.skip ?_
      refine qT_n ?_
      refine EW.seq ?_
      refine EW.seq ?_
      refine EW.sreg rfl ?_
      refine OX.tagc ?_
      refine OX.p rfl rfl (WantE.none rfl) ?_
      refine OX.tagc ?_
      refine OX.p rfl rfl (WantE.none rfl) ?_
      refine OX.tagc ?_
      refine OX.q rfl (WantE.none rfl) (Qy.addi rfl rfl rfl (by omega)) ?_
      refine OX.tagc ?_
      refine OX.p rfl rfl (WantE.none rfl) ?_
      refine OX.tagc ?_
      refine OX.q rfl (WantE.none rfl) (Qy.cap rfl rfl rfl) ?_
      refine OX.tagc ?_
      refine OX.p rfl rfl (WantE.none rfl) ?_
      refine OX.tagn ?_
      refine qT_n ?_
      refine EW.cond rfl ?_ ?_
      intro hb
      have hb' := of_decide_eq_true hb
      (exfalso; omega)
      intro hb
      have hb' := of_decide_eq_false hb
      refine EW.skip ?_
      refine qT_n ?_
      refine EW.seq ?_
      refine EW.sreg rfl ?_
      refine OX.tagc ?_
      refine OX.p rfl rfl (WantE.none rfl) ?_
      refine OX.tagc ?_
      refine OX.p rfl rfl (WantE.none rfl) ?_
      refine OX.tagc ?_
      refine OX.p rfl rfl (WantE.none rfl) ?_
      refine OX.tagc ?_
      refine OX.q rfl (WantE.none rfl) (Qy.addi rfl rfl rfl (by omega)) ?_
      refine OX.tagc ?_
      refine OX.q rfl (WantE.none rfl) (Qy.cutHi rfl rfl rfl rfl rfl (by omega)) ?_
      refine OX.tagc ?_
      refine OX.p rfl rfl (WantE.none rfl) ?_
      refine OX.tagn ?_
      refine qT_n ?_
      refine EW.seq ?_
      refine EW.seq ?_
      refine EW.sreg rfl ?_
      refine OX.tagc ?_
      refine OX.p rfl rfl (WantE.none rfl) ?_
      refine OX.tagc ?_
      refine OX.p rfl rfl (WantE.none rfl) ?_
      refine OX.tagc ?_
      refine OX.p rfl rfl (WantE.none rfl) ?_
      refine OX.tagc ?_
      refine OX.p rfl rfl (WantE.none rfl) ?_
      refine OX.tagc ?_
      refine OX.q rfl (WantE.none rfl) (Qy.addi rfl rfl rfl (by omega)) ?_
      refine OX.tagc ?_
      refine OX.q rfl (WantE.none rfl) (Qy.cutLo rfl rfl rfl rfl rfl (by omega) (by omega)) ?_
      refine OX.tagc ?_
      refine OX.q rfl (WantE.none rfl) (Qy.overlaps rfl rfl rfl ovl rfl rfl (.inr (.inr (.inr (.inr ⟨_, _, rfl, cut_blk (by omega), hgv, ⟨_, _, hBv0.ext hX⟩, ⟨_, _, hBg, by rw [hsz]; omega⟩⟩))))) ?_
      refine OX.tagc ?_
      refine OX.p rfl rfl (WantE.none rfl) ?_
      refine OX.tagn ?_
      refine qT_n ?_
      refine EW.cond_t rfl rfl ?_
      refine EW.seq ?_
      (refine EW.draw ord41 ?_ ?_ ?_; (· rfl); (· kernel_rfl))
      refine OX.p rfl rfl (WantE.none rfl) ?_
      refine OX.p rfl rfl (WantE.none rfl) ?_
      refine OX.p rfl rfl (WantE.none rfl) ?_
      refine OX.q rfl (WantE.none rfl) (Qy.addi rfl rfl rfl (by omega)) ?_
      refine OX.q rfl (WantE.none rfl) (Qy.cutLo rfl rfl rfl rfl rfl (by omega) (by omega)) ?_
      refine OX.p rfl rfl (WantE.none rfl) ?_
      refine OX.p rfl rfl (WantE.none rfl) ?_
      refine OX.q rfl (WantE.none rfl) (Qy.cutLo rfl rfl rfl rfl rfl (by omega) (by omega)) ?_
      rotate_left
    have hdl : (encs (xs.drop i)).length = (xs.length - i) * 2 := by rw [wlen, List.length_drop]
    refine OX.ac rfl rfl (WantE.none rfl) (Runs.copy (g := g) (of := ((i : Int) + (ys.length : Int)).toNat * 2) (n := xs.length - i) (k := 2) (bytes := 16) (cs := encs (xs.drop i)) (cur := cur) (t' := 35) rfl rfl rfl rfl rfl (by have : ((i : Int).toNat) = i := rfl; omega) (fun _ => cut_blk (by omega)) (fun _ => by
        rw [if_neg (by have : ((i : Int).toNat) = i := rfl; omega)]; rfl) ?_ hdl hBg (fun _ => by omega) (encs_one _) ?_)
    · rw [if_neg (by have : ((i : Int).toNat) = i := rfl; omega)]; exact (hF.out.1.rd.drop i).2
    intro h2 hC2 hB2
    rw [if_neg (by omega)] at hB2
    have hO2 : Own h2 0 35 (some ⟨vb, 0, none⟩) vc ys := hF.out.2.1.chg hC2 (by simpa [blk] using hgv)
    have hX2 : Chg [g] h h2 := Chg.of_ext_left hF.out.2.2.1 hC2
    have hF := ((Know.nil h2).own hO2).blk hB2
    focus
      refine OX.nil ?_
      refine qT_n ?_
      refine EW.seq ?_
      refine EW.sreg rfl ?_
      refine OX.tagc ?_
      refine OX.p rfl rfl (WantE.none rfl) ?_
      refine OX.tagc ?_
      refine OX.p rfl rfl (WantE.none rfl) ?_
      refine OX.tagc ?_
      refine OX.q rfl (WantE.none rfl) (Qy.cutLo rfl rfl rfl rfl rfl (by omega) (by omega)) ?_
      refine OX.tagc ?_
      refine OX.p rfl rfl (WantE.none rfl) ?_
      refine OX.tagc ?_
      rotate_left
    have hsz1 : (putAt cur (((i : Int) + (ys.length : Int)).toNat * 2) (encs (xs.drop i))).size = cur.size := putAt_size _ _ _ (by rw [hdl]; omega)
    refine OX.ac rfl rfl (WantE.none rfl) (Runs.copy (g := g) (of := i * 2) (n := ys.length) (k := 2) (bytes := 16) (cs := encs ys) (cur := putAt cur (((i : Int) + (ys.length : Int)).toNat * 2) (encs (xs.drop i))) (t' := 35) rfl rfl rfl rfl rfl (by have : ((i : Int).toNat) = i := rfl; omega) (fun _ => cut_blk (by have : ((i : Int).toNat) = i := rfl; omega)) (fun _ => rfl) hO2.rd.2 (encs_len ys) hB2 (fun _ => by omega) (encs_one ys) ?_)
    intro h3 hC3 hB3
    rw [if_neg h0] at hB3
    focus
      refine OX.tagn ?_
      refine qT_n ?_
      refine EW.seq ?_
      refine EW.sreg rfl ?_
      refine OX.tagc ?_
      refine OX.p rfl rfl (WantE.none rfl) ?_
      refine OX.tagc ?_
      refine OX.p rfl rfl (WantE.none rfl) ?_
      refine OX.tagn ?_
      refine qT_n ?_
      refine EW.ret ?_
      refine qT_ret ?_
      refine rQ_ret ?_
      refine Rets.one rfl ?_
      rotate_left
    have hp : ((i : Int) + (ys.length : Int)).toNat * 2 = i * 2 + (encs ys).length := by rw [wlen]; omega
    refine ⟨hX2.trans hC3, some ⟨g, 0, none⟩, c, ?_, ?_, .inl rfl⟩
    · show Value.slice _ _ _ = _
      congr 1
      omega
    · refine Own.mk_ hB3 hbg (by rw [hres]; omega) hcm ?_ ?_
      · rw [putAt_size _ _ _ (by rw [wlen]; omega), hsz1, hsz]; rfl
      · rw [put_down cur (encs (xs.take i)) (encs (xs.drop i)) (encs ys) _ (i * 2) (first_cells htk hi) (by rw [wlen, List.length_take]; omega) hp.symm (by omega)]
        rw [← encs_append, ← encs_append, ← encs_len]
        exact List.take_left
end Go.Px.Ext_
