/- Steps of a proof: contracts of functions, walked. -/
import Derived.Test.YtiahamibfpamgaaPxExD
set_option linter.unusedVariables false
set_option linter.unusedSimpArgs false
set_option maxRecDepth 10000
namespace Go.Px.Ext_
open Go.Proofs Go.Px
theorem given_y (h : Heap) (b : Nat) (n : Int) (v : Value) (hb : Blk h b 52 #[.int .i64 n, v]) (hn : 0 < n) : FQ Try.prog 23 [.pointer (some ⟨b, 0, none⟩)] h (.bool true) := by
  have := given_c h b n v hb
  rwa [decide_eq_true hn] at this
theorem holes_no (h : Heap) (p : Value) (hg : ∀ h1, Ext h h1 → FQ Try.prog 23 [p] h1 (.bool false)) : FQ Try.prog 18 [p] h (.slice none 0 0) := by
  refine FQ.of_EW (fun a w => Try.call18 a w) Try.func18 rfl rfl fun s h1 hX => ?_
  have hF := (Know.nil h1).since hX
  focus
    refine EW.seq ?_
    refine EW.sreg rfl ?_
    refine OX.tagc ?_
    refine OX.p rfl rfl (WantE.none rfl) ?_
    refine OX.tagn ?_
    refine qT_n ?_
    refine EW.seq ?_
    refine EW.seq ?_
    refine EW.sreg rfl ?_
    refine OX.tagc ?_
    refine OX.qa rfl (WantE.none rfl) (fun _ => Qy.copy rfl rfl) ?_
    refine OX.tagc ?_
    refine OX.q rfl (by first | exact WantE.none rfl | exact WantE.yes rfl rfl rfl (by first | assumption | rfl | exact decide_eq_true rfl)) (Qy.call rfl rfl (fun h1 hE => hg _ (hX.trans hE))) ?_
    refine OX.tagc ?_
    refine OX.p rfl rfl (WantE.none rfl) ?_
    refine OX.tagn ?_
    refine qT_n ?_
    refine EW.cond_t rfl rfl ?_
    refine EW.seq ?_
    refine EW.sreg rfl ?_
    refine OX.tagc ?_
    refine OX.p rfl rfl (WantE.none rfl) ?_
    refine OX.tagn ?_
    refine qT_n ?_
    refine EW.ret ?_
    refine qT_ret ?_
    refine rQ_ret ?_
    refine Rets.one rfl ?_
    rotate_left
  exact ⟨rfl, hF.out.1⟩
theorem holes_c (h : Heap) (base b : Nat) (n : Int) (A : Option Addr) (c : Nat) (hs : List Ex) (hm : IsMap h base b n A c hs) (hn : 0 < n) (hl : hs.length ≤ 1000000) :
    FC Try.prog 18 [.pointer (some ⟨b, 0, none⟩)] h [] (fun v h' => ∃ A' c', v = .slice A' hs.length c' ∧ Own h' h.size 35 A' c' hs) := by
  refine FC.of_EW (fun a w => Try.call18 a w) Try.func18 rfl rfl fun s h1 hX => ?_
  have hF := (((Know.nil h1).since hX).own (hm.2.1.ext hX)).blk (hm.1.ext hX)
  focus
    refine EW.seq ?_
    refine EW.sreg rfl ?_
    refine OX.tagc ?_
    refine OX.p rfl rfl (WantE.none rfl) ?_
    refine OX.tagn ?_
    refine qT_n ?_
    refine EW.seq ?_
    refine EW.seq ?_
    refine EW.sreg rfl ?_
    refine OX.tagc ?_
    refine OX.p rfl rfl (WantE.none rfl) ?_
    refine OX.tagc ?_
    refine OX.q rfl (by first | exact WantE.none rfl | exact WantE.yes rfl rfl rfl (by first | assumption | rfl | exact decide_eq_true rfl)) (Qy.call rfl rfl (fun h1 hE => given_y _ b n _ (hF.out.1.ext hE) hn)) ?_
    refine OX.tagc ?_
    refine OX.p rfl rfl (WantE.none rfl) ?_
    refine OX.tagn ?_
    refine qT_n ?_
    refine EW.cond_f rfl rfl ?_
    refine EW.skip ?_
    refine qT_n ?_
    refine EW.seq ?_
    refine EW.sreg rfl ?_
    refine OX.tagc ?_
    refine OX.p rfl rfl (WantE.none rfl) ?_
    refine OX.tagc ?_
    refine OX.p rfl rfl (WantE.none rfl) ?_
    refine OX.tagc ?_
    refine OX.p rfl rfl (WantE.none rfl) ?_
    refine OX.tagc ?_
    refine OX.q rfl (WantE.none rfl) (Qy.load1 rfl rfl rfl (Blk.cell hF.out.1 rfl rfl)) ?_
    refine OX.tagc ?_
    rotate_left
  refine OX.gr rfl rfl (WantE.none rfl) (Gr.call (R := fun h2 v h' => ∃ A' c', v = .slice A' hs.length c' ∧ Own h' h2.size 35 A' c' hs) rfl rfl (fun h2 hE => clone_c h2 A c hs (hF.out.2.1.rd.ext hE) (by omega)) ?_)
  rintro h2 v h3 hE2 hE3 ⟨A', c', rfl, hO⟩
  focus
    refine OX.tagc ?_
    refine OX.p rfl rfl (WantE.none rfl) ?_
    refine OX.tagn ?_
    refine qT_n ?_
    refine EW.ret ?_
    refine rQ_ret ?_
    refine Rets.one rfl ?_
    rotate_left
  have hX3 := (hX.trans hE2).trans hE3
  exact ⟨hX3.chg _, A', c', rfl, hO.mono (hX.trans hE2).1⟩
def sumC : List Ex → Int
  | [] => 0
  | x :: l => x.count + sumC l
def maxC (m : Int) : List Ex → Int
  | [] => m
  | x :: l => maxC (max m x.count) l
theorem sumC_app : ∀ (l k : List Ex), sumC (l ++ k) = sumC l + sumC k
  | [], k => by simp [sumC]
  | x :: l, k => by simp only [List.cons_append, sumC, sumC_app l k]; omega
theorem maxC_app : ∀ (l k : List Ex) (m : Int), maxC m (l ++ k) = maxC (maxC m l) k
  | [], k, m => rfl
  | x :: l, k, m => maxC_app l k _
theorem sumC_bd : ∀ (l : List Ex), (∀ x ∈ l, 0 ≤ x.count ∧ x.count ≤ 1000000) → 0 ≤ sumC l ∧ sumC l ≤ 1000000 * (l.length : Int)
  | [], _ => by simp [sumC]
  | x :: l, h => by
    have h1 := sumC_bd l fun y hy => h y (List.mem_cons_of_mem _ hy)
    have h2 := h x List.mem_cons_self
    simp only [sumC, List.length_cons]
    omega
theorem sumC_take {hs : List Ex} (hc : ∀ x ∈ hs, 0 ≤ x.count ∧ x.count ≤ 1000000) (i : Nat) : 0 ≤ sumC (hs.take i) ∧ sumC (hs.take i) ≤ 1000000 * (i : Int) := by
  have := sumC_bd (hs.take i) fun x hx => hc x (List.mem_of_mem_take hx)
  have h2 := List.length_take_le i hs
  omega
theorem cnt_ {hs : List Ex} (hc : ∀ x ∈ hs, 0 ≤ x.count ∧ x.count ≤ 1000000) (i : Nat) : (i : Int) < hs.length → 0 ≤ (ix hs (i : Int)).count ∧ (ix hs (i : Int)).count ≤ 1000000 := fun h => hc _ (ix_mem (by omega) h)
theorem left_no (h : Heap) (p : Value) (hg : ∀ h1, Ext h h1 → FQ Try.prog 23 [p] h1 (.bool false)) : FG Try.prog 21 [p] h (.int .i64 0) := by
  refine FC.of_EW (fun a w => Try.call21 a w) Try.func21 rfl rfl fun s h1 hX => ?_
  have hF := (Know.nil h1).since hX
  focus
    refine EW.seq ?_
    refine EW.sreg rfl ?_
    refine OX.tagc ?_
    refine OX.p rfl rfl (WantE.none rfl) ?_
    refine OX.tagn ?_
    refine qT_n ?_
    refine EW.seq ?_
    refine EW.sreg rfl ?_
    refine OX.tagc ?_
    refine OX.p rfl rfl (WantE.none rfl) ?_
    refine OX.tagn ?_
    refine qT_n ?_
    refine EW.seq ?_
    refine EW.seq ?_
    refine EW.sreg rfl ?_
    refine OX.tagc ?_
    refine OX.qa rfl (WantE.none rfl) (fun _ => Qy.copy rfl rfl) ?_
    refine OX.tagc ?_
    refine OX.q rfl (by first | exact WantE.none rfl | exact WantE.yes rfl rfl rfl (by first | assumption | rfl | exact decide_eq_true rfl)) (Qy.call rfl rfl (fun h1 hE => holes_no _ _ (fun h2 hE2 => hg _ ((hX.trans hE).trans hE2)))) ?_
    refine OX.tagc ?_
    refine OX.p rfl rfl (WantE.none rfl) ?_
    refine OX.tagc ?_
    refine OX.p rfl rfl (WantE.none rfl) ?_
    refine OX.tagn ?_
    refine qT_n ?_
    refine EW.block ?_
    rotate_left
  refine EW.loopS (fun i : Nat => [(3, .int .i64 0), (8, .int .i64 0), (9, .int .i64 0)]) (fun i h' => Ext h h') (fun i => 0) 0
    ⟨rfl, rfl, rfl, trivial⟩ hX ?_
  rintro i e h2 hX2
  have hF := (Know.nil h2).since hX2
  focus
    refine EW.seq ?_
    refine EW.sreg rfl ?_
    refine OX.tagc ?_
    refine OX.p rfl rfl (WantE.none rfl) ?_
    refine OX.tagn ?_
    refine qT_n ?_
    refine EW.seq ?_
    refine EW.cond_f rfl rfl ?_
    refine EW.exit ?_
    refine qT_exit ?_
    refine qT_exit ?_
    refine qB_hit ?_
    refine qT_n ?_
    refine EW.seq ?_
    refine EW.sreg rfl ?_
    refine OX.tagc ?_
    refine OX.p rfl rfl (WantE.none rfl) ?_
    refine OX.tagc ?_
    refine OX.p rfl rfl (WantE.none rfl) ?_
    refine OX.tagn ?_
    refine qT_n ?_
    refine EW.ret ?_
    refine rQ_ret ?_
    refine Rets.one rfl ?_
    rotate_left
  exact ⟨hX2.chg _, rfl⟩
theorem left_c (h : Heap) (base b : Nat) (n : Int) (A : Option Addr) (c : Nat) (hs : List Ex) (hm : IsMap h base b n A c hs) (hn : 0 < n) (hl : hs.length ≤ 1000000) (hc : ∀ x ∈ hs, 0 ≤ x.count ∧ x.count ≤ 1000000) : FG Try.prog 21 [.pointer (some ⟨b, 0, none⟩)] h (.int .i64 (sumC hs)) := by
  refine FC.of_EW (fun a w => Try.call21 a w) Try.func21 rfl rfl fun s h1 hX => ?_
  have hF := (Know.nil h1).since hX
  focus
    refine EW.seq ?_
    refine EW.sreg rfl ?_
    refine OX.tagc ?_
    refine OX.p rfl rfl (WantE.none rfl) ?_
    refine OX.tagn ?_
    refine qT_n ?_
    refine EW.seq ?_
    refine EW.sreg rfl ?_
    refine OX.tagc ?_
    refine OX.p rfl rfl (WantE.none rfl) ?_
    refine OX.tagn ?_
    refine qT_n ?_
    refine EW.seq ?_
    refine EW.seq ?_
    refine EW.sreg rfl ?_
    refine OX.tagc ?_
    refine OX.p rfl rfl (WantE.none rfl) ?_
    refine OX.tagc ?_
    rotate_left
  refine OX.gr rfl rfl (WantE.none rfl) (Gr.call (R := fun h2 v h' => ∃ A' c', v = .slice A' hs.length c' ∧ Own h' h2.size 35 A' c' hs) rfl rfl (fun h2 hE => holes_c h2 base b n A c hs (hm.ext (hX.trans hE)) hn hl) ?_)
  rintro h2 v h3 hE2 hE3 ⟨A', c', rfl, hO⟩
  replace hF := (hF.up (hE2.trans hE3)).rd hO.rd
  focus
    refine OX.tagc ?_
    refine OX.p rfl rfl (WantE.none rfl) ?_
    refine OX.tagc ?_
    refine OX.p rfl rfl (WantE.none rfl) ?_
    refine OX.tagn ?_
    refine qT_n ?_
    refine EW.block ?_
    rotate_left
  refine EW.loopS (fun i : Nat => [(3, .int .i64 (sumC (hs.take i))), (7, .slice A' hs.length c'), (8, .int .i64 hs.length), (9, .int .i64 i)]) (fun i h' => Ext h h' ∧ Rd h' A' hs ∧ i ≤ hs.length) (fun i => hs.length - i) 0
    ⟨rfl, rfl, rfl, rfl, trivial⟩ ⟨hF.out.2.1, hF.out.1, by omega⟩ ?_
  rintro i e h4 ⟨hX4, hR4, hi⟩
  have hF := ((Know.nil h4).since hX4).rd hR4
  have hb1 := sumC_take hc i
  have hb2 := cnt_ hc i
  focus
    refine EW.seq ?_
    refine EW.sreg rfl ?_
    refine OX.tagc ?_
    refine OX.p rfl rfl (WantE.none rfl) ?_
    refine OX.tagn ?_
    refine qT_n ?_
    refine EW.seq ?_
    refine EW.cond rfl ?_ ?_
    intro hb
    have hb' := of_decide_eq_true hb
    refine EW.skip ?_
    refine qT_n ?_
    refine EW.seq ?_
    refine EW.block ?_
    refine EW.seq ?_
    refine EW.sreg rfl ?_
    refine OX.tagc ?_
    refine OX.q rfl (WantE.none rfl) (Qy.indexRd rfl rfl rfl rfl rfl hF.out.1 rfl (by omega)) ?_
    refine OX.tagc ?_
    refine OX.q rfl (WantE.none rfl) (Qy.loadElk rfl rfl rfl rfl hF.out.1 rfl (by omega)) ?_
    refine OX.tagc ?_
    (refine OX.gr rfl rfl (WantE.none rfl) (Gr.allocF rfl rfl ?_); intro b_ h_ hb_ hE hB; have hz_ := hE.1; have hy_ := hb_; have hAlc := And.intro hb_ (And.intro hE hB); clear hE hB)
    refine OX.tagc ?_
    (refine OX.ac0 rfl rfl (WantE.none rfl) (Runs.storeF rfl rfl rfl rfl rfl hAlc.2.2 rfl rfl rfl ?_); intro h_ hC hB; replace hF := (hF.up (Chg.fresh hAlc.2.1 hC (by simpa using hAlc.1))).blk hB; clear hAlc hC hB)
    refine OX.tagn ?_
    refine qT_n ?_
    refine EW.sreg rfl ?_
    refine OX.tagc ?_
    refine OX.p rfl rfl (WantE.none rfl) ?_
    refine OX.tagc ?_
    refine OX.p rfl rfl (WantE.none rfl) ?_
    refine OX.tagc ?_
    refine OX.q rfl (WantE.none rfl) (Qy.load1 rfl rfl rfl (Blk.cell hF.out.1 rfl rfl)) ?_
    refine OX.tagc ?_
    refine OX.q rfl (WantE.none rfl) (Qy.addi rfl rfl rfl (by omega)) ?_
    refine OX.tagc ?_
    refine OX.p rfl rfl (WantE.none rfl) ?_
    refine OX.tagn ?_
    refine qB_n ?_
    refine qT_n ?_
    refine EW.sreg rfl ?_
    refine OX.tagc ?_
    refine OX.q rfl (WantE.none rfl) (Qy.addi rfl rfl rfl (by omega)) ?_
    refine OX.tagc ?_
    refine OX.p rfl rfl (WantE.none rfl) ?_
    refine OX.tagn ?_
    refine qT_n ?_
    rotate_left
    intro hb
    have hb' := of_decide_eq_false hb
    refine EW.exit ?_
    refine qT_exit ?_
    refine qT_exit ?_
    refine qB_hit ?_
    refine qT_n ?_
    refine EW.seq ?_
    refine EW.sreg rfl ?_
    refine OX.tagc ?_
    refine OX.p rfl rfl (WantE.none rfl) ?_
    refine OX.tagc ?_
    refine OX.p rfl rfl (WantE.none rfl) ?_
    refine OX.tagn ?_
    refine qT_n ?_
    refine EW.ret ?_
    refine rQ_ret ?_
    refine Rets.one rfl ?_
    rotate_left
  · refine ⟨i + 1, ⟨?_, rfl, rfl, rfl, trivial⟩, ⟨hF.out.2.2.1, hF.out.2.1, by omega⟩, by omega⟩
    rw [take_ix _ _ (by omega), sumC_app]
    show Value.int .i64 _ = Value.int .i64 _
    simp [sumC]
  · refine ⟨hX4.chg _, congrArg (Value.int .i64) ?_⟩
    rw [List.take_of_length_le (by omega)]
theorem long_no (h : Heap) (p : Value) (hg : ∀ h1, Ext h h1 → FQ Try.prog 23 [p] h1 (.bool false)) : FG Try.prog 22 [p] h (.int .i64 0) := by
  refine FC.of_EW (fun a w => Try.call22 a w) Try.func22 rfl rfl fun s h1 hX => ?_
  have hF := (Know.nil h1).since hX
  focus
    refine EW.seq ?_
    refine EW.sreg rfl ?_
    refine OX.tagc ?_
    refine OX.p rfl rfl (WantE.none rfl) ?_
    refine OX.tagn ?_
    refine qT_n ?_
    refine EW.seq ?_
    refine EW.sreg rfl ?_
    refine OX.tagc ?_
    refine OX.p rfl rfl (WantE.none rfl) ?_
    refine OX.tagn ?_
    refine qT_n ?_
    refine EW.seq ?_
    refine EW.seq ?_
    refine EW.sreg rfl ?_
    refine OX.tagc ?_
    refine OX.qa rfl (WantE.none rfl) (fun _ => Qy.copy rfl rfl) ?_
    refine OX.tagc ?_
    refine OX.q rfl (by first | exact WantE.none rfl | exact WantE.yes rfl rfl rfl (by first | assumption | rfl | exact decide_eq_true rfl)) (Qy.call rfl rfl (fun h1 hE => holes_no _ _ (fun h2 hE2 => hg _ ((hX.trans hE).trans hE2)))) ?_
    refine OX.tagc ?_
    refine OX.p rfl rfl (WantE.none rfl) ?_
    refine OX.tagc ?_
    refine OX.p rfl rfl (WantE.none rfl) ?_
    refine OX.tagn ?_
    refine qT_n ?_
    refine EW.block ?_
    rotate_left
  refine EW.loopS (fun i : Nat => [(3, .int .i64 0), (8, .int .i64 0), (9, .int .i64 0)]) (fun i h' => Ext h h') (fun i => 0) 0
    ⟨rfl, rfl, rfl, trivial⟩ hX ?_
  rintro i e h2 hX2
  have hF := (Know.nil h2).since hX2
  focus
    refine EW.seq ?_
    refine EW.sreg rfl ?_
    refine OX.tagc ?_
    refine OX.p rfl rfl (WantE.none rfl) ?_
    refine OX.tagn ?_
    refine qT_n ?_
    refine EW.seq ?_
    refine EW.cond_f rfl rfl ?_
    refine EW.exit ?_
    refine qT_exit ?_
    refine qT_exit ?_
    refine qB_hit ?_
    refine qT_n ?_
    refine EW.seq ?_
    refine EW.sreg rfl ?_
    refine OX.tagc ?_
    refine OX.p rfl rfl (WantE.none rfl) ?_
    refine OX.tagc ?_
    refine OX.p rfl rfl (WantE.none rfl) ?_
    refine OX.tagn ?_
    refine qT_n ?_
    refine EW.ret ?_
    refine rQ_ret ?_
    refine Rets.one rfl ?_
    rotate_left
  exact ⟨hX2.chg _, rfl⟩
theorem long_c (h : Heap) (base b : Nat) (n : Int) (A : Option Addr) (c : Nat) (hs : List Ex) (hm : IsMap h base b n A c hs) (hn : 0 < n) (hl : hs.length ≤ 1000000) : FG Try.prog 22 [.pointer (some ⟨b, 0, none⟩)] h (.int .i64 (maxC 0 hs)) := by
  refine FC.of_EW (fun a w => Try.call22 a w) Try.func22 rfl rfl fun s h1 hX => ?_
  have hF := (Know.nil h1).since hX
  focus
    refine EW.seq ?_
    refine EW.sreg rfl ?_
    refine OX.tagc ?_
    refine OX.p rfl rfl (WantE.none rfl) ?_
    refine OX.tagn ?_
    refine qT_n ?_
    refine EW.seq ?_
    refine EW.sreg rfl ?_
    refine OX.tagc ?_
    refine OX.p rfl rfl (WantE.none rfl) ?_
    refine OX.tagn ?_
    refine qT_n ?_
    refine EW.seq ?_
    refine EW.seq ?_
    refine EW.sreg rfl ?_
    refine OX.tagc ?_
    refine OX.p rfl rfl (WantE.none rfl) ?_
    refine OX.tagc ?_
    rotate_left
  refine OX.gr rfl rfl (WantE.none rfl) (Gr.call (R := fun h2 v h' => ∃ A' c', v = .slice A' hs.length c' ∧ Own h' h2.size 35 A' c' hs) rfl rfl (fun h2 hE => holes_c h2 base b n A c hs (hm.ext (hX.trans hE)) hn hl) ?_)
  rintro h2 v h3 hE2 hE3 ⟨A', c', rfl, hO⟩
  replace hF := (hF.up (hE2.trans hE3)).rd hO.rd
  focus
    refine OX.tagc ?_
    refine OX.p rfl rfl (WantE.none rfl) ?_
    refine OX.tagc ?_
    refine OX.p rfl rfl (WantE.none rfl) ?_
    refine OX.tagn ?_
    refine qT_n ?_
    refine EW.block ?_
    rotate_left
  refine EW.loopS (fun i : Nat => [(3, .int .i64 (maxC 0 (hs.take i))), (7, .slice A' hs.length c'), (8, .int .i64 hs.length), (9, .int .i64 i)]) (fun i h' => Ext h h' ∧ Rd h' A' hs ∧ i ≤ hs.length) (fun i => hs.length - i) 0
    ⟨rfl, rfl, rfl, rfl, trivial⟩ ⟨hF.out.2.1, hF.out.1, by omega⟩ ?_
  rintro i e h4 ⟨hX4, hR4, hi⟩
  have hF := ((Know.nil h4).since hX4).rd hR4
  focus
    refine EW.seq ?_
    refine EW.sreg rfl ?_
    refine OX.tagc ?_
    refine OX.p rfl rfl (WantE.none rfl) ?_
    refine OX.tagn ?_
    refine qT_n ?_
    refine EW.seq ?_
    refine EW.cond rfl ?_ ?_
    intro hb
    have hb' := of_decide_eq_true hb
    refine EW.skip ?_
    refine qT_n ?_
    refine EW.seq ?_
    refine EW.block ?_
    refine EW.seq ?_
    refine EW.sreg rfl ?_
    refine OX.tagc ?_
    refine OX.q rfl (WantE.none rfl) (Qy.indexRd rfl rfl rfl rfl rfl hF.out.1 rfl (by omega)) ?_
    refine OX.tagc ?_
    refine OX.q rfl (WantE.none rfl) (Qy.loadElk rfl rfl rfl rfl hF.out.1 rfl (by omega)) ?_
    refine OX.tagc ?_
    (refine OX.gr rfl rfl (WantE.none rfl) (Gr.allocF rfl rfl ?_); intro b_ h_ hb_ hE hB; have hz_ := hE.1; have hy_ := hb_; have hAlc := And.intro hb_ (And.intro hE hB); clear hE hB)
    refine OX.tagc ?_
    (refine OX.ac0 rfl rfl (WantE.none rfl) (Runs.storeF rfl rfl rfl rfl rfl hAlc.2.2 rfl rfl rfl ?_); intro h_ hC hB; replace hF := (hF.up (Chg.fresh hAlc.2.1 hC (by simpa using hAlc.1))).blk hB; clear hAlc hC hB)
    refine OX.tagn ?_
    refine qT_n ?_
    refine EW.sreg rfl ?_
    refine OX.tagc ?_
    refine OX.p rfl rfl (WantE.none rfl) ?_
    refine OX.tagc ?_
    refine OX.p rfl rfl (WantE.none rfl) ?_
    refine OX.tagc ?_
    refine OX.q rfl (WantE.none rfl) (Qy.load1 rfl rfl rfl (Blk.cell hF.out.1 rfl rfl)) ?_
    refine OX.tagc ?_
    refine OX.p rfl rfl (WantE.none rfl) ?_
    refine OX.tagc ?_
    refine OX.p rfl rfl (WantE.none rfl) ?_
    refine OX.tagn ?_
    refine qB_n ?_
    refine qT_n ?_
    refine EW.sreg rfl ?_
    refine OX.tagc ?_
    refine OX.q rfl (WantE.none rfl) (Qy.addi rfl rfl rfl (by omega)) ?_
    refine OX.tagc ?_
    refine OX.p rfl rfl (WantE.none rfl) ?_
    refine OX.tagn ?_
    refine qT_n ?_
    rotate_left
    intro hb
    have hb' := of_decide_eq_false hb
    refine EW.exit ?_
    refine qT_exit ?_
    refine qT_exit ?_
    refine qB_hit ?_
    refine qT_n ?_
    refine EW.seq ?_
    refine EW.sreg rfl ?_
    refine OX.tagc ?_
    refine OX.p rfl rfl (WantE.none rfl) ?_
    refine OX.tagc ?_
    refine OX.p rfl rfl (WantE.none rfl) ?_
    refine OX.tagn ?_
    refine qT_n ?_
    refine EW.ret ?_
    refine rQ_ret ?_
    refine Rets.one rfl ?_
    rotate_left
  · refine ⟨i + 1, ⟨?_, rfl, rfl, rfl, trivial⟩, ⟨hF.out.2.2.1, hF.out.2.1, by omega⟩, by omega⟩
    rw [take_ix _ _ (by omega), maxC_app]
    rfl
  · refine ⟨hX4.chg _, congrArg (Value.int .i64) ?_⟩
    rw [List.take_of_length_le (by omega)]
theorem copy_no (h : Heap) (p : Value) (hg : ∀ h1, Ext h h1 → FQ Try.prog 23 [p] h1 (.bool false)) : FQ Try.prog 19 [p] h (.pointer none) := by
  refine FQ.of_EW (fun a w => Try.call19 a w) Try.func19 rfl rfl fun s h1 hX => ?_
  have hF := (Know.nil h1).since hX
  focus
    refine EW.seq ?_
    refine EW.sreg rfl ?_
    refine OX.tagc ?_
    refine OX.p rfl rfl (WantE.none rfl) ?_
    refine OX.tagn ?_
    refine qT_n ?_
    refine EW.seq ?_
    refine EW.seq ?_
    refine EW.sreg rfl ?_
    refine OX.tagc ?_
    refine OX.qa rfl (WantE.none rfl) (fun _ => Qy.copy rfl rfl) ?_
    refine OX.tagc ?_
    refine OX.q rfl (by first | exact WantE.none rfl | exact WantE.yes rfl rfl rfl (by first | assumption | rfl | exact decide_eq_true rfl)) (Qy.call rfl rfl (fun h1 hE => hg _ (hX.trans hE))) ?_
    refine OX.tagc ?_
    refine OX.p rfl rfl (WantE.none rfl) ?_
    refine OX.tagn ?_
    refine qT_n ?_
    refine EW.cond_t rfl rfl ?_
    refine EW.seq ?_
    refine EW.sreg rfl ?_
    refine OX.tagc ?_
    refine OX.p rfl rfl (WantE.none rfl) ?_
    refine OX.tagn ?_
    refine qT_n ?_
    refine EW.ret ?_
    refine qT_ret ?_
    refine rQ_ret ?_
    refine Rets.one rfl ?_
    rotate_left
  exact ⟨rfl, hF.out.1⟩
theorem copy_c (h : Heap) (base b : Nat) (n : Int) (A : Option Addr) (c : Nat) (hs : List Ex) (hm : IsMap h base b n A c hs) (hn : 0 < n) (hl : hs.length ≤ 1000000) :
    FC Try.prog 19 [.pointer (some ⟨b, 0, none⟩)] h [] (fun v h' => ∃ b' A' c', v = .pointer (some ⟨b', 0, none⟩) ∧ IsMap h' h.size b' n A' c' hs) := by
  refine FC.of_EW (fun a w => Try.call19 a w) Try.func19 rfl rfl fun s h1 hX => ?_
  have hF := (((Know.nil h1).since hX).own (hm.2.1.ext hX)).blk (hm.1.ext hX)
  focus
    refine EW.seq ?_
    refine EW.sreg rfl ?_
    refine OX.tagc ?_
    refine OX.p rfl rfl (WantE.none rfl) ?_
    refine OX.tagn ?_
    refine qT_n ?_
    refine EW.seq ?_
    refine EW.seq ?_
    refine EW.sreg rfl ?_
    refine OX.tagc ?_
    refine OX.p rfl rfl (WantE.none rfl) ?_
    refine OX.tagc ?_
    refine OX.q rfl (by first | exact WantE.none rfl | exact WantE.yes rfl rfl rfl (by first | assumption | rfl | exact decide_eq_true rfl)) (Qy.call rfl rfl (fun h1 hE => given_y _ b n _ (hF.out.1.ext hE) hn)) ?_
    refine OX.tagc ?_
    refine OX.p rfl rfl (WantE.none rfl) ?_
    refine OX.tagn ?_
    refine qT_n ?_
    refine EW.cond_f rfl rfl ?_
    refine EW.skip ?_
    refine qT_n ?_
    refine EW.seq ?_
    (refine EW.drawT ord19 tab19 rfl (by kernel_rfl) (by kernel_rfl) (by kernel_rfl) ?_)
    refine OX.p rfl rfl (WantE.none rfl) ?_
    refine OX.p rfl rfl (WantE.none rfl) ?_
    refine OX.p rfl rfl (WantE.none rfl) ?_
    refine OX.q rfl (WantE.none rfl) (Qy.load1 rfl rfl rfl (Blk.cell hF.out.1 rfl rfl)) ?_
    refine OX.p rfl rfl (WantE.none rfl) ?_
    refine OX.p rfl rfl (WantE.none rfl) ?_
    refine OX.p rfl rfl (WantE.none rfl) ?_
    refine OX.q rfl (WantE.none rfl) (Qy.load1 rfl rfl rfl (Blk.cell hF.out.1 rfl rfl)) ?_
    rotate_left
  refine OX.gr rfl rfl (WantE.none rfl) (Gr.call (R := fun h2 v h' => ∃ A' c', v = .slice A' hs.length c' ∧ Own h' h2.size 35 A' c' hs) rfl rfl (fun h2 hE => clone_c h2 A c hs (hF.out.2.1.rd.ext hE) (by omega)) ?_)
  rintro h2 v h3 hE2 hE3 ⟨A', c', rfl, hO⟩
  replace hF := (hF.up (hE2.trans hE3)).own hO
  focus
    refine OX.q rfl (WantE.none rfl) (Qy.buildF rfl rfl) ?_
    (refine OX.gr rfl rfl (WantE.none rfl) (Gr.boxF rfl rfl ?_); intro b_ h_ hb_ hE hB; have hz_ := hE.1; replace hF := (hF.up hE).blk hB)
    refine OX.p rfl rfl (WantE.none rfl) ?_
    refine OX.nil ?_
    refine qT_n ?_
    refine EW.ret ?_
    refine rQ_ret ?_
    refine Rets.one rfl ?_
    rotate_left
  have h12 := hE2.1
  have h23 := hE3.1
  refine ⟨hF.out.2.2.2.2.1.chg _, _, A', c', rfl, hF.out.1, hF.out.2.1.mono (by have := hX.1; omega), ?_, by have := hX.1; omega⟩
  intro hx; have := hO.blk_lt _ hx; omega
end Go.Px.Ext_
