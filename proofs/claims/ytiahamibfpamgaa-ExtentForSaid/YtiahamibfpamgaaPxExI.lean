/- Steps of a proof: contracts of functions, walked. -/
import Derived.Test.YtiahamibfpamgaaPxTab
import Derived.Test.YtiahamibfpamgaaPxExE
set_option linter.unusedVariables false
set_option linter.unusedSimpArgs false
set_option maxRecDepth 10000
namespace Go.Px.Ext_
open Go.Proofs Go.Px
theorem rnew_no (h : Heap) (n : Int) (hn : n < 1 ∨ 4096 < n) : FQ Try.prog 10 [.int .i64 n] h (.tuple #[.slice none 0 0, .int .i64 1]) := by
  refine FQ.of_EW (fun a w => Try.call10 a w) Try.func10 rfl rfl fun s h1 hX => ?_
  have hF := (Know.nil h1).since hX
  focus
    refine EW.seq ?_
    refine EW.sreg rfl ?_
    refine OX.tagc ?_
    refine OX.p rfl rfl (WantE.none rfl) ?_
    refine OX.tagc ?_
    refine OX.p rfl rfl (WantE.none rfl) ?_
    refine OX.tagn ?_
    refine qT_n ?_
    refine EW.seq ?_
    refine EW.seq ?_
    refine EW.sreg rfl ?_
    refine OX.tagc ?_
    refine OX.p rfl rfl (WantE.none rfl) ?_
    refine OX.tagc ?_
    refine OX.p rfl rfl (WantE.none rfl) ?_
    refine OX.tagc ?_
    refine OX.p rfl rfl (WantE.none rfl) ?_
    refine OX.tagc ?_
    refine OX.gsplit rfl rfl rfl ?_ ?_
    intro hb
    have hb' := of_decide_eq_true hb
    refine OX.sk rfl (WantE.no rfl rfl rfl (by assumption)) ?_
    refine OX.tagc ?_
    refine OX.sk rfl (WantE.no rfl rfl rfl (by assumption)) ?_
    refine OX.tagc ?_
    refine OX.q rfl (WantE.none rfl) (Qy.pick_tb rfl rfl rfl (by assumption)) ?_
    refine OX.tagn ?_
    refine qT_n ?_
    refine EW.cond_t rfl rfl ?_
    refine EW.seq ?_
    refine EW.sreg rfl ?_
    refine OX.tagc ?_
    refine OX.p rfl rfl (WantE.none rfl) ?_
    refine OX.tagc ?_
    refine OX.p rfl rfl (WantE.none rfl) ?_
    refine OX.tagn ?_
    refine qT_n ?_
    refine EW.ret ?_
    refine qT_ret ?_
    refine rQ_ret ?_
    refine Rets.two rfl ?_
    rotate_left
    intro hb
    have hb' := of_decide_eq_false hb
    refine OX.p rfl rfl (WantE.yes rfl rfl rfl (by assumption)) ?_
    refine OX.tagc ?_
    refine OX.p rfl rfl (WantE.yes rfl rfl rfl (by assumption)) ?_
    refine OX.tagc ?_
    refine OX.q rfl (WantE.none rfl) (Qy.pick_fb rfl rfl rfl (by assumption)) ?_
    refine OX.tagn ?_
    refine qT_n ?_
    refine EW.cond rfl ?_ ?_
    intro hb
    have hb' := of_decide_eq_true hb
    refine EW.seq ?_
    refine EW.sreg rfl ?_
    refine OX.tagc ?_
    refine OX.p rfl rfl (WantE.none rfl) ?_
    refine OX.tagc ?_
    refine OX.p rfl rfl (WantE.none rfl) ?_
    refine OX.tagn ?_
    refine qT_n ?_
    refine EW.ret ?_
    refine qT_ret ?_
    refine rQ_ret ?_
    refine Rets.two rfl ?_
    rotate_left
    intro hb
    have hb' := of_decide_eq_false hb
    (exfalso; omega)
  all_goals exact ⟨rfl, hF.out.1⟩
theorem rnew_c (h : Heap) (n : Int) (hn : 1 ≤ n) (hn2 : n ≤ 4096) : FC Try.prog 10 [.int .i64 n] h [] (fun v h' => ∃ A c, v = .tuple #[.slice A n.toNat c, .int .i64 0] ∧ Own h' h.size 4 A c (List.replicate n.toNat false)) := by
  refine FC.of_EW (fun a w => Try.call10 a w) Try.func10 rfl rfl fun s h1 hX => ?_
  have hF := (Know.nil h1).since hX
  focus
    refine EW.seq ?_
    refine EW.sreg rfl ?_
    refine OX.tagc ?_
    refine OX.p rfl rfl (WantE.none rfl) ?_
    refine OX.tagc ?_
    refine OX.p rfl rfl (WantE.none rfl) ?_
    refine OX.tagn ?_
    refine qT_n ?_
    refine EW.seq ?_
    refine EW.seq ?_
    refine EW.sreg rfl ?_
    refine OX.tagc ?_
    refine OX.p rfl rfl (WantE.none rfl) ?_
    refine OX.tagc ?_
    refine OX.p rfl rfl (WantE.none rfl) ?_
    refine OX.tagc ?_
    refine OX.p rfl rfl (WantE.none rfl) ?_
    refine OX.tagc ?_
    refine OX.gsplit rfl rfl rfl ?_ ?_
    intro hb
    have hb' := of_decide_eq_true hb
    (exfalso; omega)
    intro hb
    have hb' := of_decide_eq_false hb
    refine OX.p rfl rfl (WantE.yes rfl rfl rfl (by assumption)) ?_
    refine OX.tagc ?_
    refine OX.p rfl rfl (WantE.yes rfl rfl rfl (by assumption)) ?_
    refine OX.tagc ?_
    refine OX.q rfl (WantE.none rfl) (Qy.pick_fb rfl rfl rfl (by assumption)) ?_
    refine OX.tagn ?_
    refine qT_n ?_
    refine EW.cond rfl ?_ ?_
    intro hb
    have hb' := of_decide_eq_true hb
    (exfalso; omega)
    intro hb
    have hb' := of_decide_eq_false hb
    refine EW.skip ?_
    refine qT_n ?_
    refine EW.seq ?_
    refine EW.sreg rfl ?_
    refine OX.tagc ?_
    refine OX.p rfl rfl (WantE.none rfl) ?_
    refine OX.tagc ?_
    rotate_left
  refine OX.gr rfl rfl (WantE.none rfl) (Gr.make (z := false) (bytes := 1) rfl rfl rfl rfl rfl rfl (by omega) ?_)
  intro A_ h_ hb_ hE hA hO
  replace hF := hF.up hE
  focus
    refine OX.tagc ?_
    refine OX.p rfl rfl (WantE.none rfl) ?_
    refine OX.tagc ?_
    refine OX.p rfl rfl (WantE.none rfl) ?_
    refine OX.tagn ?_
    refine qT_n ?_
    refine EW.ret ?_
    refine rQ_ret ?_
    refine Rets.two rfl ?_
    rotate_left
  exact ⟨hF.out.1.chg _, A_, n.toNat, by rw [List.length_replicate]; rfl, hO.mono hX.1⟩
theorem rmay_c (h : Heap) (A : Option Addr) (c : Nat) (q : List Bool) (x : Ex) (hl : q.length ≤ 4096) : FQ Try.prog 27 [.slice A q.length c, exV x] h (.bool (mayB q.length x)) := by
  refine FQ.of_EW (fun a w => Try.call27 a w) Try.func27 rfl rfl fun s h1 hX => ?_
  have hF := ((Know.nil h1).since (Ext.refl h1)).since hX
  focus
    refine EW.seq ?_
    refine EW.sreg rfl ?_
    refine OX.tagc ?_
    (refine OX.gr rfl rfl (WantE.none rfl) (Gr.boxF rfl rfl ?_); intro b_ h_ hb_ hE hB; have hz_ := hE.1; replace hF := (hF.up hE).blk hB)
    refine OX.tagc ?_
    refine OX.p rfl rfl (WantE.none rfl) ?_
    refine OX.tagn ?_
    refine qT_n ?_
    refine EW.seq ?_
    refine EW.sreg rfl ?_
    refine OX.tagc ?_
    refine OX.p rfl rfl (WantE.none rfl) ?_
    refine OX.tagc ?_
    refine OX.q rfl (WantE.none rfl) (Qy.load1 rfl rfl rfl (Blk.cell hF.out.1 rfl rfl)) ?_
    refine OX.tagc ?_
    refine OX.p rfl rfl (WantE.none rfl) ?_
    refine OX.tagc ?_
    refine OX.p rfl rfl (WantE.none rfl) ?_
    refine OX.tagc ?_
    refine OX.gsplit rfl rfl rfl ?_ ?_
    intro hb
    have hb' := of_decide_eq_true hb
    refine OX.p rfl rfl (WantE.yes rfl rfl rfl (by assumption)) ?_
    refine OX.tagc ?_
    refine OX.q rfl (WantE.yes rfl rfl rfl (by assumption)) (Qy.load1 rfl rfl rfl (Blk.cell hF.out.1 rfl rfl)) ?_
    refine OX.tagc ?_
    refine OX.p rfl rfl (WantE.yes rfl rfl rfl (by assumption)) ?_
    refine OX.tagc ?_
    refine OX.q rfl (WantE.none rfl) (Qy.pick_tb rfl rfl rfl (by assumption)) ?_
    refine OX.tagc ?_
    refine OX.p rfl rfl (WantE.none rfl) ?_
    refine OX.tagc ?_
    refine OX.gsplit rfl rfl rfl ?_ ?_
    intro hb
    have hb' := of_decide_eq_true hb
    refine OX.p rfl rfl (WantE.yes rfl rfl rfl (by assumption)) ?_
    refine OX.tagc ?_
    refine OX.q rfl (WantE.yes rfl rfl rfl (by assumption)) (Qy.load1 rfl rfl rfl (Blk.cell hF.out.1 rfl rfl)) ?_
    refine OX.tagc ?_
    refine OX.p rfl rfl (WantE.yes rfl rfl rfl (by assumption)) ?_
    refine OX.tagc ?_
    refine OX.p rfl rfl (WantE.yes rfl rfl rfl (by assumption)) ?_
    refine OX.tagc ?_
    refine OX.p rfl rfl (WantE.yes rfl rfl rfl (by assumption)) ?_
    refine OX.tagc ?_
    refine OX.q rfl (WantE.none rfl) (Qy.pick_tb rfl rfl rfl (by assumption)) ?_
    refine OX.tagc ?_
    refine OX.p rfl rfl (WantE.none rfl) ?_
    refine OX.tagc ?_
    refine OX.gsplit rfl rfl rfl ?_ ?_
    intro hb
    have hb' := of_decide_eq_true hb
    refine OX.p rfl rfl (WantE.yes rfl rfl rfl (by assumption)) ?_
    refine OX.tagc ?_
    refine OX.q rfl (WantE.yes rfl rfl rfl (by assumption)) (Qy.load1 rfl rfl rfl (Blk.cell hF.out.1 rfl rfl)) ?_
    refine OX.tagc ?_
    refine OX.p rfl rfl (WantE.yes rfl rfl rfl (by assumption)) ?_
    refine OX.tagc ?_
    refine OX.p rfl rfl (WantE.yes rfl rfl rfl (by assumption)) ?_
    refine OX.tagc ?_
    refine OX.p rfl rfl (WantE.yes rfl rfl rfl (by assumption)) ?_
    refine OX.tagc ?_
    refine OX.q rfl (WantE.yes rfl rfl rfl (by assumption)) (Qy.load1 rfl rfl rfl (Blk.cell hF.out.1 rfl rfl)) ?_
    refine OX.tagc ?_
    refine OX.q rfl (WantE.yes rfl rfl rfl (by assumption)) (Qy.subi rfl rfl rfl (by omega)) ?_
    refine OX.tagc ?_
    refine OX.p rfl rfl (WantE.yes rfl rfl rfl (by assumption)) ?_
    refine OX.tagc ?_
    refine OX.q rfl (WantE.none rfl) (Qy.pick_tb rfl rfl rfl (by assumption)) ?_
    refine OX.tagc ?_
    refine OX.p rfl rfl (WantE.none rfl) ?_
    refine OX.tagn ?_
    refine qT_n ?_
    refine EW.ret ?_
    refine rQ_ret ?_
    refine Rets.one rfl ?_
    rotate_left
    intro hb
    have hb' := of_decide_eq_false hb
    refine OX.sk rfl (WantE.no rfl rfl rfl (by assumption)) ?_
    refine OX.tagc ?_
    refine OX.sk rfl (WantE.no rfl rfl rfl (by assumption)) ?_
    refine OX.tagc ?_
    refine OX.sk rfl (WantE.no rfl rfl rfl (by assumption)) ?_
    refine OX.tagc ?_
    refine OX.sk rfl (WantE.no rfl rfl rfl (by assumption)) ?_
    refine OX.tagc ?_
    refine OX.sk rfl (WantE.no rfl rfl rfl (by assumption)) ?_
    refine OX.tagc ?_
    refine OX.sk rfl (WantE.no rfl rfl rfl (by assumption)) ?_
    refine OX.tagc ?_
    refine OX.sk rfl (WantE.no rfl rfl rfl (by assumption)) ?_
    refine OX.tagc ?_
    refine OX.sk rfl (WantE.no rfl rfl rfl (by assumption)) ?_
    refine OX.tagc ?_
    refine OX.q rfl (WantE.none rfl) (Qy.pick_fb rfl rfl rfl (by assumption)) ?_
    refine OX.tagc ?_
    refine OX.p rfl rfl (WantE.none rfl) ?_
    refine OX.tagn ?_
    refine qT_n ?_
    refine EW.ret ?_
    refine rQ_ret ?_
    refine Rets.one rfl ?_
    rotate_left
    intro hb
    have hb' := of_decide_eq_false hb
    refine OX.sk rfl (WantE.no rfl rfl rfl (by assumption)) ?_
    refine OX.tagc ?_
    refine OX.sk rfl (WantE.no rfl rfl rfl (by assumption)) ?_
    refine OX.tagc ?_
    refine OX.sk rfl (WantE.no rfl rfl rfl (by assumption)) ?_
    refine OX.tagc ?_
    refine OX.sk rfl (WantE.no rfl rfl rfl (by assumption)) ?_
    refine OX.tagc ?_
    refine OX.sk rfl (WantE.no rfl rfl rfl (by assumption)) ?_
    refine OX.tagc ?_
    refine OX.q rfl (WantE.none rfl) (Qy.pick_fb rfl rfl rfl (by assumption)) ?_
    refine OX.tagc ?_
    refine OX.p rfl rfl (WantE.none rfl) ?_
    refine OX.tagc ?_
    refine OX.sk rfl (WantE.no rfl rfl rfl rfl) ?_
    refine OX.tagc ?_
    refine OX.sk rfl (WantE.no rfl rfl rfl rfl) ?_
    refine OX.tagc ?_
    refine OX.sk rfl (WantE.no rfl rfl rfl rfl) ?_
    refine OX.tagc ?_
    refine OX.sk rfl (WantE.no rfl rfl rfl rfl) ?_
    refine OX.tagc ?_
    refine OX.sk rfl (WantE.no rfl rfl rfl rfl) ?_
    refine OX.tagc ?_
    refine OX.sk rfl (WantE.no rfl rfl rfl rfl) ?_
    refine OX.tagc ?_
    refine OX.sk rfl (WantE.no rfl rfl rfl rfl) ?_
    refine OX.tagc ?_
    refine OX.sk rfl (WantE.no rfl rfl rfl rfl) ?_
    refine OX.tagc ?_
    refine OX.q rfl (WantE.none rfl) (Qy.pick_fb rfl rfl rfl rfl) ?_
    refine OX.tagc ?_
    refine OX.p rfl rfl (WantE.none rfl) ?_
    refine OX.tagn ?_
    refine qT_n ?_
    refine EW.ret ?_
    refine rQ_ret ?_
    refine Rets.one rfl ?_
    rotate_left
    intro hb
    have hb' := of_decide_eq_false hb
    refine OX.sk rfl (WantE.no rfl rfl rfl (by assumption)) ?_
    refine OX.tagc ?_
    refine OX.sk rfl (WantE.no rfl rfl rfl (by assumption)) ?_
    refine OX.tagc ?_
    refine OX.sk rfl (WantE.no rfl rfl rfl (by assumption)) ?_
    refine OX.tagc ?_
    refine OX.q rfl (WantE.none rfl) (Qy.pick_fb rfl rfl rfl (by assumption)) ?_
    refine OX.tagc ?_
    refine OX.p rfl rfl (WantE.none rfl) ?_
    refine OX.tagc ?_
    refine OX.sk rfl (WantE.no rfl rfl rfl rfl) ?_
    refine OX.tagc ?_
    refine OX.sk rfl (WantE.no rfl rfl rfl rfl) ?_
    refine OX.tagc ?_
    refine OX.sk rfl (WantE.no rfl rfl rfl rfl) ?_
    refine OX.tagc ?_
    refine OX.sk rfl (WantE.no rfl rfl rfl rfl) ?_
    refine OX.tagc ?_
    refine OX.sk rfl (WantE.no rfl rfl rfl rfl) ?_
    refine OX.tagc ?_
    refine OX.q rfl (WantE.none rfl) (Qy.pick_fb rfl rfl rfl rfl) ?_
    refine OX.tagc ?_
    refine OX.p rfl rfl (WantE.none rfl) ?_
    refine OX.tagc ?_
    refine OX.sk rfl (WantE.no rfl rfl rfl rfl) ?_
    refine OX.tagc ?_
    refine OX.sk rfl (WantE.no rfl rfl rfl rfl) ?_
    refine OX.tagc ?_
    refine OX.sk rfl (WantE.no rfl rfl rfl rfl) ?_
    refine OX.tagc ?_
    refine OX.sk rfl (WantE.no rfl rfl rfl rfl) ?_
    refine OX.tagc ?_
    refine OX.sk rfl (WantE.no rfl rfl rfl rfl) ?_
    refine OX.tagc ?_
    refine OX.sk rfl (WantE.no rfl rfl rfl rfl) ?_
    refine OX.tagc ?_
    refine OX.sk rfl (WantE.no rfl rfl rfl rfl) ?_
    refine OX.tagc ?_
    refine OX.sk rfl (WantE.no rfl rfl rfl rfl) ?_
    refine OX.tagc ?_
    refine OX.q rfl (WantE.none rfl) (Qy.pick_fb rfl rfl rfl rfl) ?_
    refine OX.tagc ?_
    refine OX.p rfl rfl (WantE.none rfl) ?_
    refine OX.tagn ?_
    refine qT_n ?_
    refine EW.ret ?_
    refine rQ_ret ?_
    refine Rets.one rfl ?_
    rotate_left
  all_goals refine ⟨congrArg Value.bool ?_, (by first | exact hF.out.1 | exact hF.out.2.1 | exact hF.out.2.2.1 | exact hF.out.2.2.2.1 | exact hF.out.2.2.2.2.1 | exact hF.out.2.2.2.2.2.1 | exact hF.out.2.2.2.2.2.2.1 | exact hF.out.2.2.2.2.2.2.2.1 | exact hF.out.2.2.2.2.2.2.2.2.1 | assumption)⟩
  all_goals unfold mayB
  all_goals first | exact decide_eq_decide.2 (by omega) | exact (decide_eq_false (by omega)).symm | exact (decide_eq_true (by omega)).symm | rfl
def allB (q : List Bool) (first : Int) (n : Nat) (t : Bool) : Bool := (List.range n).all fun i => ix q (first + (i : Int)) == t
theorem allB_yes {q : List Bool} {f : Int} {n : Nat} {t : Bool} (h : ∀ i : Nat, i < n → ix q (f + (i : Int)) = t) : allB q f n t = true := by
  unfold allB
  rw [List.all_eq_true]
  intro i hi
  simp [h i (List.mem_range.1 hi)]
theorem allB_no {q : List Bool} {f : Int} {n : Nat} {t : Bool} (i : Nat) (hi : i < n) (h : ¬ ix q (f + (i : Int)) = t) : allB q f n t = false := by
  unfold allB
  rw [List.all_eq_false]
  exact ⟨i, List.mem_range.2 hi, by simpa using h⟩
theorem bne_ {a b : Bool} (h : (!(a == b)) = true) : ¬ a = b := by cases a <;> cases b <;> simp at h ⊢
theorem bne_f {a b : Bool} (h : (!(a == b)) = false) : a = b := by cases a <;> cases b <;> simp at h ⊢
theorem rall_c (h : Heap) (A : Option Addr) (c : Nat) (q : List Bool) (x : Ex) (t : Bool) (hr : Rd h A q) (hl : q.length ≤ 4096) (hm : mayB q.length x = true) : FQ Try.prog 28 [.slice A q.length c, exV x, .bool t] h (.bool (allB q x.first x.count.toNat t)) := by
  refine FQ.of_EW (fun a w => Try.call28 a w) Try.func28 rfl rfl fun s h1 hX => ?_
  have hF := ((Know.nil h1).since hX).rd (hr.ext hX)
  unfold mayB at hm
  have hm' := of_decide_eq_true hm
  clear hm
  focus
    refine EW.seq ?_
    refine EW.sreg rfl ?_
    refine OX.tagc ?_
    (refine OX.gr rfl rfl (WantE.none rfl) (Gr.boxF rfl rfl ?_); intro b_ h_ hb_ hE hB; have hz_ := hE.1; replace hF := (hF.up hE).blk hB)
    refine OX.tagc ?_
    refine OX.p rfl rfl (WantE.none rfl) ?_
    refine OX.tagn ?_
    refine qT_n ?_
    refine EW.seq ?_
    refine EW.seq ?_
    refine EW.sreg rfl ?_
    refine OX.tagc ?_
    refine OX.p rfl rfl (WantE.none rfl) ?_
    refine OX.tagn ?_
    refine qT_n ?_
    refine EW.block ?_
    rotate_left
  refine EW.loopS (fun i : Nat => [(0, .slice A q.length c), (2, .bool t), (4, .pointer (some ⟨b_, 0, none⟩)), (7, .int .i64 i)]) (fun i h' => Ext h_ h' ∧ i ≤ x.count.toNat ∧ ∀ j : Nat, j < i → ix q (x.first + (j : Int)) = t) (fun i => x.count.toNat - i) 0
    ⟨rfl, rfl, rfl, rfl, trivial⟩ ⟨Ext.refl _, by omega, fun j hj => by omega⟩ ?_
  rintro i e h2 ⟨hE2, hi, hpre⟩
  replace hF := hF.up hE2
  focus
    refine EW.seq ?_
    refine EW.seq ?_
    refine EW.sreg rfl ?_
    refine OX.tagc ?_
    refine OX.p rfl rfl (WantE.none rfl) ?_
    refine OX.tagc ?_
    refine OX.p rfl rfl (WantE.none rfl) ?_
    refine OX.tagc ?_
    refine OX.q rfl (WantE.none rfl) (Qy.load1 rfl rfl rfl (Blk.cell hF.out.1 rfl rfl)) ?_
    refine OX.tagc ?_
    refine OX.p rfl rfl (WantE.none rfl) ?_
    refine OX.tagn ?_
    refine qT_n ?_
    refine EW.cond rfl ?_ ?_
    intro hb
    have hb' := of_decide_eq_true hb
    refine EW.skip ?_
    refine qT_n ?_
    refine EW.seq ?_
    refine EW.block ?_
    refine EW.seq ?_
    refine EW.sreg rfl ?_
    refine OX.tagc ?_
    refine OX.p rfl rfl (WantE.none rfl) ?_
    refine OX.tagc ?_
    refine OX.p rfl rfl (WantE.none rfl) ?_
    refine OX.tagc ?_
    refine OX.q rfl (WantE.none rfl) (Qy.load1 rfl rfl rfl (Blk.cell hF.out.1 rfl rfl)) ?_
    refine OX.tagc ?_
    refine OX.p rfl rfl (WantE.none rfl) ?_
    refine OX.tagc ?_
    refine OX.q rfl (WantE.none rfl) (Qy.addi rfl rfl rfl (by omega)) ?_
    refine OX.tagc ?_
    refine OX.q rfl (WantE.none rfl) (Qy.indexRd rfl rfl rfl rfl rfl hF.out.2.1 rfl (by omega)) ?_
    refine OX.tagc ?_
    refine OX.q rfl (WantE.none rfl) (Qy.loadEl0 rfl rfl rfl hF.out.2.1 rfl (by omega) rfl) ?_
    refine OX.tagc ?_
    refine OX.p rfl rfl (WantE.none rfl) ?_
    refine OX.tagc ?_
    refine OX.p rfl rfl (WantE.none rfl) ?_
    refine OX.tagn ?_
    refine qT_n ?_
    refine EW.cond rfl ?_ ?_
    intro hb
    refine EW.seq ?_
    refine EW.sreg rfl ?_
    refine OX.tagc ?_
    refine OX.p rfl rfl (WantE.none rfl) ?_
    refine OX.tagn ?_
    refine qT_n ?_
    refine EW.ret ?_
    refine qB_ret ?_
    refine qT_ret ?_
    refine qT_ret ?_
    refine qB_ret ?_
    refine qT_ret ?_
    refine rQ_ret ?_
    refine Rets.one rfl ?_
    rotate_left
    intro hb
    refine EW.skip ?_
    refine qB_n ?_
    refine qT_n ?_
    refine EW.sreg rfl ?_
    refine OX.tagc ?_
    refine OX.p rfl rfl (WantE.none rfl) ?_
    refine OX.tagc ?_
    refine OX.q rfl (WantE.none rfl) (Qy.addi rfl rfl rfl (by omega)) ?_
    refine OX.tagc ?_
    refine OX.p rfl rfl (WantE.none rfl) ?_
    refine OX.tagn ?_
    refine qT_n ?_
    rotate_left
    intro hb
    have hb' := of_decide_eq_false hb
    refine EW.exit ?_
    refine qT_exit ?_
    refine qT_exit ?_
    refine qB_hit ?_
    refine qT_n ?_
    refine EW.seq ?_
    refine EW.sreg rfl ?_
    refine OX.tagc ?_
    refine OX.p rfl rfl (WantE.none rfl) ?_
    refine OX.tagn ?_
    refine qT_n ?_
    refine EW.ret ?_
    refine rQ_ret ?_
    refine Rets.one rfl ?_
    rotate_left
  · exact ⟨congrArg Value.bool (allB_no i (by omega) (bne_ hb)).symm, (by first | exact hF.out.1 | exact hF.out.2.1 | exact hF.out.2.2.1 | exact hF.out.2.2.2.1 | exact hF.out.2.2.2.2.1 | exact hF.out.2.2.2.2.2.1 | exact hF.out.2.2.2.2.2.2.1 | exact hF.out.2.2.2.2.2.2.2.1 | exact hF.out.2.2.2.2.2.2.2.2.1 | assumption)⟩
  · exact ⟨i + 1, ⟨rfl, rfl, rfl, rfl, trivial⟩, ⟨(by first | exact hF.out.1 | exact hF.out.2.1 | exact hF.out.2.2.1 | exact hF.out.2.2.2.1 | exact hF.out.2.2.2.2.1 | exact hF.out.2.2.2.2.2.1 | exact hF.out.2.2.2.2.2.2.1 | exact hF.out.2.2.2.2.2.2.2.1 | exact hF.out.2.2.2.2.2.2.2.2.1 | assumption), by omega, fun j hj => by
      rcases Nat.lt_or_eq_of_le (Nat.le_of_lt_succ hj) with h | rfl
      · exact hpre j h
      · exact bne_f hb⟩, by omega⟩
  · exact ⟨congrArg Value.bool (allB_yes fun j hj => hpre j (by omega)).symm, (by first | exact hF.out.1 | exact hF.out.2.1 | exact hF.out.2.2.1 | exact hF.out.2.2.2.1 | exact hF.out.2.2.2.2.1 | exact hF.out.2.2.2.2.2.1 | exact hF.out.2.2.2.2.2.2.1 | exact hF.out.2.2.2.2.2.2.2.1 | exact hF.out.2.2.2.2.2.2.2.2.1 | assumption)⟩
def setR (q : List Bool) (f : Int) : Nat → Bool → List Bool
  | 0, _ => q
  | n + 1, t => (setR q f n t).set (f + (n : Int)).toNat t
theorem setR_len (q : List Bool) (f : Int) (t : Bool) : ∀ n, (setR q f n t).length = q.length
  | 0 => rfl
  | n + 1 => by rw [setR, List.length_set]; exact setR_len q f t n
theorem rset_c (h : Heap) (A : Option Addr) (c : Nat) (q : List Bool) (x : Ex) (t : Bool) (hr : Rd h A q) (hl : q.length ≤ 4096) (hm : mayB q.length x = true) :
    FC Try.prog 29 [.slice A q.length c, exV x, .bool t] h [] (fun v h' => ∃ A' c', v = .slice A' q.length c' ∧ Own h' h.size 4 A' c' (setR q x.first x.count.toNat t)) := by
  refine FC.of_EW (fun a w => Try.call29 a w) Try.func29 rfl rfl fun s h1 hX => ?_
  have hF := ((Know.nil h1).since hX).rd (hr.ext hX)
  unfold mayB at hm
  have hm' := of_decide_eq_true hm
  clear hm
  focus
    refine EW.seq ?_
    refine EW.sreg rfl ?_
    refine OX.tagc ?_
    (refine OX.gr rfl rfl (WantE.none rfl) (Gr.boxF rfl rfl ?_); intro b_ h_ hb_ hE hB; have hz_ := hE.1; replace hF := (hF.up hE).blk hB)
    refine OX.tagc ?_
    refine OX.p rfl rfl (WantE.none rfl) ?_
    refine OX.tagn ?_
    refine qT_n ?_
    refine EW.seq ?_
    refine EW.sreg rfl ?_
    refine OX.tagc ?_
    refine OX.p rfl rfl (WantE.none rfl) ?_
    refine OX.tagn ?_
    refine qT_n ?_
    refine EW.seq ?_
    refine EW.sreg rfl ?_
    refine OX.tagc ?_
    refine OX.p rfl rfl (WantE.none rfl) ?_
    refine OX.tagc ?_
    refine OX.p rfl rfl (WantE.none rfl) ?_
    refine OX.tagc ?_
    rotate_left
  refine OX.ac rfl rfl (WantE.none rfl) (Runs.appF (h0 := h_) (xs := []) (ys := q) (bytes := 1) (Ext.refl _) rfl rfl rfl rfl rfl rfl (Own.nil _ _ _) (by first | exact hF.out.1 | exact hF.out.2.1 | exact hF.out.2.2.1 | exact hF.out.2.2.2.1 | exact hF.out.2.2.2.2.1 | exact hF.out.2.2.2.2.2.1 | exact hF.out.2.2.2.2.2.2.1 | exact hF.out.2.2.2.2.2.2.2.1 | exact hF.out.2.2.2.2.2.2.2.2.1 | assumption) (by simp; omega) ?_)
  intro A' c' h2 hE2 hO hC hM
  have hK := hF
  replace hF := hF.up hE2
  focus
    refine OX.tagc ?_
    refine OX.p rfl rfl (WantE.none rfl) ?_
    refine OX.tagn ?_
    refine qT_n ?_
    refine EW.seq ?_
    refine EW.seq ?_
    refine EW.sreg rfl ?_
    refine OX.tagc ?_
    refine OX.p rfl rfl (WantE.none rfl) ?_
    refine OX.tagn ?_
    refine qT_n ?_
    refine EW.block ?_
    rotate_left
  refine EW.loopS (fun i : Nat => [(2, .bool t), (4, .pointer (some ⟨b_, 0, none⟩)), (7, .slice A' q.length c'), (8, .int .i64 i)]) (fun i h' => Ext h_ h' ∧ i ≤ x.count.toNat ∧ Own h' h_.size 4 A' c' (setR q x.first i t)) (fun i => x.count.toNat - i) 0
    ⟨rfl, rfl, rfl, rfl, trivial⟩ ⟨hE2, by omega, hO⟩ ?_
  rintro i e h3 ⟨hE3, hi, hO3⟩
  replace hF := (hK.up hE3).rd hO3.rd
  have hsl := setR_len q x.first t i
  focus
    refine EW.seq ?_
    refine EW.seq ?_
    refine EW.sreg rfl ?_
    refine OX.tagc ?_
    refine OX.p rfl rfl (WantE.none rfl) ?_
    refine OX.tagc ?_
    refine OX.p rfl rfl (WantE.none rfl) ?_
    refine OX.tagc ?_
    refine OX.q rfl (WantE.none rfl) (Qy.load1 rfl rfl rfl (Blk.cell hF.out.2.1 rfl rfl)) ?_
    refine OX.tagc ?_
    refine OX.p rfl rfl (WantE.none rfl) ?_
    refine OX.tagn ?_
    refine qT_n ?_
    refine EW.cond rfl ?_ ?_
    intro hb
    have hb' := of_decide_eq_true hb
    refine EW.skip ?_
    refine qT_n ?_
    refine EW.seq ?_
    refine EW.block ?_
    refine EW.sreg rfl ?_
    refine OX.tagc ?_
    refine OX.p rfl rfl (WantE.none rfl) ?_
    refine OX.tagc ?_
    refine OX.p rfl rfl (WantE.none rfl) ?_
    refine OX.tagc ?_
    refine OX.q rfl (WantE.none rfl) (Qy.load1 rfl rfl rfl (Blk.cell hF.out.2.1 rfl rfl)) ?_
    refine OX.tagc ?_
    refine OX.p rfl rfl (WantE.none rfl) ?_
    refine OX.tagc ?_
    refine OX.q rfl (WantE.none rfl) (Qy.addi rfl rfl rfl (by omega)) ?_
    refine OX.tagc ?_
    refine OX.p rfl rfl (WantE.none rfl) ?_
    refine OX.tagc ?_
    refine OX.q rfl (by first | exact WantE.none rfl | exact WantE.yes rfl rfl rfl (by first | assumption | rfl | exact decide_eq_true rfl)) (Qy.indexRd rfl rfl rfl rfl rfl hO3.rd hsl.symm (by omega)) ?_
    refine OX.tagc ?_
    rotate_left
    intro hb
    have hb' := of_decide_eq_false hb
    refine EW.exit ?_
    refine qT_exit ?_
    refine qT_exit ?_
    refine qB_hit ?_
    refine qT_n ?_
    refine EW.seq ?_
    refine EW.sreg rfl ?_
    refine OX.tagc ?_
    refine OX.p rfl rfl (WantE.none rfl) ?_
    refine OX.tagc ?_
    refine OX.p rfl rfl (WantE.none rfl) ?_
    refine OX.tagn ?_
    refine qT_n ?_
    refine EW.ret ?_
    refine rQ_ret ?_
    refine Rets.one rfl ?_
    rotate_left
  · refine OX.ac0 rfl rfl (WantE.none rfl) ?_
    refine Runs.setEl (y' := t) (i := x.first + (i : Int)) rfl rfl rfl rfl hO3 rfl (by rw [hsl]; omega) ?_
    intro h4 hC4 hO4
    have hE4 := Chg.fresh hE3 hC4 hO3.blk_ge
    replace hF := hK.up hE4
    focus
      refine OX.tagn ?_
      refine qB_n ?_
      refine qT_n ?_
      refine EW.sreg rfl ?_
      refine OX.tagc ?_
      refine OX.p rfl rfl (WantE.none rfl) ?_
      refine OX.tagc ?_
      refine OX.q rfl (WantE.none rfl) (Qy.addi rfl rfl rfl (by omega)) ?_
      refine OX.tagc ?_
      refine OX.p rfl rfl (WantE.none rfl) ?_
      refine OX.tagn ?_
      refine qT_n ?_
      rotate_left
    exact ⟨i + 1, ⟨rfl, rfl, rfl, rfl, trivial⟩, ⟨hE4, by omega, hO4⟩, by omega⟩
  · have hn : i = x.count.toNat := by omega
    subst hn
    exact ⟨(hX.trans (Ext.trans hE hE3)).chg _, A', c', rfl, hO3.mono (by have := hX.1; omega)⟩
def leftB (q : List Bool) : Int := ((q.filter fun b => !b).length : Nat)
theorem leftB_snoc (q : List Bool) (b : Bool) : leftB (q ++ [b]) = leftB q + (if b then 0 else 1) := by
  unfold leftB
  rw [List.filter_append]
  cases b <;> simp
theorem leftB_le (q : List Bool) : 0 ≤ leftB q ∧ leftB q ≤ q.length := by
  unfold leftB
  have := List.length_filter_le (fun b : Bool => !b) q
  omega
theorem rleft_c (h : Heap) (A : Option Addr) (c : Nat) (q : List Bool) (hr : Rd h A q) (hl : q.length ≤ 4096) : FQ Try.prog 37 [.slice A q.length c] h (.int .i64 (leftB q)) := by
  refine FQ.of_EW (fun a w => Try.call37 a w) Try.func37 rfl rfl fun s h1 hX => ?_
  have hF := ((Know.nil h1).since hX).rd (hr.ext hX)
  focus
    refine EW.seq ?_
    refine EW.sreg rfl ?_
    refine OX.tagc ?_
    refine OX.p rfl rfl (WantE.none rfl) ?_
    refine OX.tagn ?_
    refine qT_n ?_
    refine EW.seq ?_
    refine EW.sreg rfl ?_
    refine OX.tagc ?_
    refine OX.p rfl rfl (WantE.none rfl) ?_
    refine OX.tagn ?_
    refine qT_n ?_
    refine EW.seq ?_
    refine EW.seq ?_
    refine EW.sreg rfl ?_
    refine OX.tagc ?_
    refine OX.p rfl rfl (WantE.none rfl) ?_
    refine OX.tagn ?_
    refine qT_n ?_
    refine EW.block ?_
    rotate_left
  refine EW.loopS (fun i : Nat => [(0, .slice A q.length c), (3, .int .i64 (leftB (q.take i))), (4, .int .i64 i)]) (fun i h' => h' = h1 ∧ i ≤ q.length) (fun i => q.length - i) 0
    ⟨rfl, rfl, rfl, trivial⟩ ⟨rfl, by omega⟩ ?_
  rintro i e _ ⟨rfl, hi⟩
  have hlb := leftB_le (q.take i)
  rw [List.length_take] at hlb
  focus
    refine EW.seq ?_
    refine EW.seq ?_
    refine EW.sreg rfl ?_
    refine OX.tagc ?_
    refine OX.p rfl rfl (WantE.none rfl) ?_
    refine OX.tagc ?_
    refine OX.p rfl rfl (WantE.none rfl) ?_
    refine OX.tagc ?_
    refine OX.p rfl rfl (WantE.none rfl) ?_
    refine OX.tagc ?_
    refine OX.p rfl rfl (WantE.none rfl) ?_
    refine OX.tagn ?_
    refine qT_n ?_
    refine EW.cond rfl ?_ ?_
    intro hb
    have hb' := of_decide_eq_true hb
    refine EW.skip ?_
    refine qT_n ?_
    refine EW.seq ?_
    refine EW.block ?_
    refine EW.seq ?_
    refine EW.sreg rfl ?_
    refine OX.tagc ?_
    refine OX.p rfl rfl (WantE.none rfl) ?_
    refine OX.tagc ?_
    refine OX.p rfl rfl (WantE.none rfl) ?_
    refine OX.tagc ?_
    refine OX.q rfl (WantE.none rfl) (Qy.indexRd rfl rfl rfl rfl rfl hF.out.1 rfl (by omega)) ?_
    refine OX.tagc ?_
    refine OX.q rfl (WantE.none rfl) (Qy.loadEl0 rfl rfl rfl hF.out.1 rfl (by omega) rfl) ?_
    refine OX.tagc ?_
    refine OX.p rfl rfl (WantE.none rfl) ?_
    refine OX.tagn ?_
    refine qT_n ?_
    refine EW.cond rfl ?_ ?_
    intro hb
    refine EW.sreg rfl ?_
    refine OX.tagc ?_
    refine OX.p rfl rfl (WantE.none rfl) ?_
    refine OX.tagc ?_
    refine OX.q rfl (WantE.none rfl) (Qy.addi rfl rfl rfl (by omega)) ?_
    refine OX.tagc ?_
    refine OX.p rfl rfl (WantE.none rfl) ?_
    refine OX.tagn ?_
    refine qB_n ?_
    refine qT_n ?_
    refine EW.sreg rfl ?_
    refine OX.tagc ?_
    refine OX.p rfl rfl (WantE.none rfl) ?_
    refine OX.tagc ?_
    refine OX.q rfl (WantE.none rfl) (Qy.addi rfl rfl rfl (by omega)) ?_
    refine OX.tagc ?_
    refine OX.p rfl rfl (WantE.none rfl) ?_
    refine OX.tagn ?_
    refine qT_n ?_
    rotate_left
    intro hb
    refine EW.skip ?_
    refine qB_n ?_
    refine qT_n ?_
    refine EW.sreg rfl ?_
    refine OX.tagc ?_
    refine OX.p rfl rfl (WantE.none rfl) ?_
    refine OX.tagc ?_
    refine OX.q rfl (WantE.none rfl) (Qy.addi rfl rfl rfl (by omega)) ?_
    refine OX.tagc ?_
    refine OX.p rfl rfl (WantE.none rfl) ?_
    refine OX.tagn ?_
    refine qT_n ?_
    rotate_left
    intro hb
    have hb' := of_decide_eq_false hb
    refine EW.exit ?_
    refine qT_exit ?_
    refine qT_exit ?_
    refine qB_hit ?_
    refine qT_n ?_
    refine EW.seq ?_
    refine EW.sreg rfl ?_
    refine OX.tagc ?_
    refine OX.p rfl rfl (WantE.none rfl) ?_
    refine OX.tagc ?_
    refine OX.p rfl rfl (WantE.none rfl) ?_
    refine OX.tagn ?_
    refine qT_n ?_
    refine EW.ret ?_
    refine rQ_ret ?_
    refine Rets.one rfl ?_
    rotate_left
  · have hs := leftB_snoc (q.take i) (ix q i)
    rw [← take_ix q i (by omega), show ix q (i : Int) = false by simpa using hb] at hs
    exact ⟨i + 1, ⟨rfl, congrArg (Value.int .i64) (by rw [hs]; rfl), rfl, trivial⟩, ⟨rfl, by omega⟩, by omega⟩
  · have hs := leftB_snoc (q.take i) (ix q i)
    rw [← take_ix q i (by omega), show ix q (i : Int) = true by simpa using hb] at hs
    exact ⟨i + 1, ⟨rfl, congrArg (Value.int .i64) (by rw [hs]; simp), rfl, trivial⟩, ⟨rfl, by omega⟩, by omega⟩
  · exact ⟨congrArg (Value.int .i64) (by rw [List.take_of_length_le (by omega)]), (by first | exact hF.out.1 | exact hF.out.2.1 | exact hF.out.2.2.1 | exact hF.out.2.2.2.1 | exact hF.out.2.2.2.2.1 | exact hF.out.2.2.2.2.2.1 | exact hF.out.2.2.2.2.2.2.1 | exact hF.out.2.2.2.2.2.2.2.1 | exact hF.out.2.2.2.2.2.2.2.2.1 | assumption)⟩
theorem list_ix {α : Type} [Inhabited α] {a b : List α} (hl : a.length = b.length) (h : ∀ j : Nat, j < a.length → ix a (j : Int) = ix b (j : Int)) : a = b := by
  apply List.ext_getElem hl
  intro i h1 h2
  have := h i h1
  rwa [ix_eq h1, ix_eq h2] at this
theorem exx {x y : Ex} (h : (decide (x.first = y.first) && (decide (x.count = y.count) && true)) = true) : x = y := by
  cases x; cases y; simp at h ⊢; exact h
theorem rsame_c (h : Heap) (A B : Option Addr) (c d : Nat) (xs ys : List Ex) (hr : Rd h A xs) (hr2 : Rd h B ys) (hl : xs.length ≤ 4294967296) : FQ Try.prog 20 [.slice A xs.length c, .slice B ys.length d] h (.bool (decide (xs = ys))) := by
  refine FQ.of_EW (fun a w => Try.call20 a w) Try.func20 rfl rfl fun s h1 hX => ?_
  have hF := (((Know.nil h1).since hX).rd (hr.ext hX)).rd (hr2.ext hX)
  by_cases hne : xs.length = ys.length
  · focus
      refine EW.seq ?_
      refine EW.sreg rfl ?_
      refine OX.tagc ?_
      refine OX.p rfl rfl (WantE.none rfl) ?_
      refine OX.tagn ?_
      refine qT_n ?_
      refine EW.seq ?_
      refine EW.seq ?_
      refine EW.sreg rfl ?_
      refine OX.tagc ?_
      refine OX.p rfl rfl (WantE.none rfl) ?_
      refine OX.tagc ?_
      refine OX.p rfl rfl (WantE.none rfl) ?_
      refine OX.tagc ?_
      refine OX.p rfl rfl (WantE.none rfl) ?_
      refine OX.tagc ?_
      refine OX.p rfl rfl (WantE.none rfl) ?_
      refine OX.tagc ?_
      refine OX.p rfl rfl (WantE.none rfl) ?_
      refine OX.tagn ?_
      refine qT_n ?_
      refine EW.cond rfl ?_ ?_
      intro hb
      have hb' := of_decide_eq_true hb
      (exfalso; omega)
      intro hb
      have hb' := of_decide_eq_false hb
      refine EW.skip ?_
      refine qT_n ?_
      refine EW.seq ?_
      refine EW.seq ?_
      refine EW.sreg rfl ?_
      refine OX.tagc ?_
      refine OX.p rfl rfl (WantE.none rfl) ?_
      refine OX.tagn ?_
      refine qT_n ?_
      refine EW.block ?_
      rotate_left
    refine EW.loopS (fun i : Nat => [(0, .slice A xs.length c), (1, .slice B ys.length d), (5, .int .i64 i)]) (fun i h' => h' = h1 ∧ i ≤ xs.length ∧ ∀ j : Nat, j < i → ix xs (j : Int) = ix ys (j : Int)) (fun i => xs.length - i) 0
      ⟨rfl, rfl, rfl, trivial⟩ ⟨rfl, by omega, fun j hj => by omega⟩ ?_
    rintro i e _ ⟨rfl, hi, hpre⟩
    focus
      refine EW.seq ?_
      refine EW.seq ?_
      refine EW.sreg rfl ?_
      refine OX.tagc ?_
      refine OX.p rfl rfl (WantE.none rfl) ?_
      refine OX.tagc ?_
      refine OX.p rfl rfl (WantE.none rfl) ?_
      refine OX.tagc ?_
      refine OX.p rfl rfl (WantE.none rfl) ?_
      refine OX.tagc ?_
      refine OX.p rfl rfl (WantE.none rfl) ?_
      refine OX.tagn ?_
      refine qT_n ?_
      refine EW.cond rfl ?_ ?_
      intro hb
      have hb' := of_decide_eq_true hb
      refine EW.skip ?_
      refine qT_n ?_
      refine EW.seq ?_
      refine EW.block ?_
      refine EW.seq ?_
      (refine EW.drawT ord20 tab20 rfl (by kernel_rfl) (by kernel_rfl) (by kernel_rfl) ?_)
      refine OX.p rfl rfl (WantE.none rfl) ?_
      refine OX.p rfl rfl (WantE.none rfl) ?_
      refine OX.q rfl (WantE.none rfl) (Qy.indexRd rfl rfl rfl rfl rfl hF.out.2.1 rfl (by omega)) ?_
      refine OX.q rfl (WantE.none rfl) (Qy.loadElk rfl rfl rfl rfl hF.out.2.1 rfl (by omega)) ?_
      refine OX.p rfl rfl (WantE.none rfl) ?_
      refine OX.p rfl rfl (WantE.none rfl) ?_
      refine OX.q rfl (WantE.none rfl) (Qy.indexRd rfl rfl rfl rfl rfl hF.out.1 rfl (by omega)) ?_
      refine OX.q rfl (WantE.none rfl) (Qy.loadElk rfl rfl rfl rfl hF.out.1 rfl (by omega)) ?_
      refine OX.q rfl (WantE.none rfl) (Qy.eqAgg rfl rfl rfl (by kernel_rfl) rfl rfl) ?_
      refine OX.nil ?_
      refine qT_n ?_
      refine EW.cond rfl ?_ ?_
      intro hb
      refine EW.seq ?_
      refine EW.sreg rfl ?_
      refine OX.tagc ?_
      refine OX.p rfl rfl (WantE.none rfl) ?_
      refine OX.tagn ?_
      refine qT_n ?_
      refine EW.ret ?_
      refine qB_ret ?_
      refine qT_ret ?_
      refine qT_ret ?_
      refine qB_ret ?_
      refine qT_ret ?_
      refine rQ_ret ?_
      refine Rets.one rfl ?_
      rotate_left
      intro hb
      refine EW.skip ?_
      refine qB_n ?_
      refine qT_n ?_
      refine EW.sreg rfl ?_
      refine OX.tagc ?_
      refine OX.p rfl rfl (WantE.none rfl) ?_
      refine OX.tagc ?_
      refine OX.q rfl (WantE.none rfl) (Qy.addi rfl rfl rfl (by omega)) ?_
      refine OX.tagc ?_
      refine OX.p rfl rfl (WantE.none rfl) ?_
      refine OX.tagn ?_
      refine qT_n ?_
      rotate_left
      intro hb
      have hb' := of_decide_eq_false hb
      refine EW.exit ?_
      refine qT_exit ?_
      refine qT_exit ?_
      refine qB_hit ?_
      refine qT_n ?_
      refine EW.seq ?_
      refine EW.sreg rfl ?_
      refine OX.tagc ?_
      refine OX.p rfl rfl (WantE.none rfl) ?_
      refine OX.tagn ?_
      refine qT_n ?_
      refine EW.ret ?_
      refine rQ_ret ?_
      refine Rets.one rfl ?_
      rotate_left
    · refine ⟨congrArg Value.bool (decide_eq_false fun hh => ?_).symm, (by first | exact hF.out.1 | exact hF.out.2.1 | exact hF.out.2.2.1 | exact hF.out.2.2.2.1 | exact hF.out.2.2.2.2.1 | exact hF.out.2.2.2.2.2.1 | exact hF.out.2.2.2.2.2.2.1 | exact hF.out.2.2.2.2.2.2.2.1 | exact hF.out.2.2.2.2.2.2.2.2.1 | assumption)⟩
      subst hh
      simp at hb
    · exact ⟨i + 1, ⟨rfl, rfl, rfl, trivial⟩, ⟨rfl, by omega, fun j hj => by
        rcases Nat.lt_or_eq_of_le (Nat.le_of_lt_succ hj) with h | rfl
        · exact hpre j h
        · exact exx (by simpa using hb)⟩, by omega⟩
    · exact ⟨congrArg Value.bool (decide_eq_true (list_ix hne fun j hj => hpre j (by omega))).symm, (by first | exact hF.out.1 | exact hF.out.2.1 | exact hF.out.2.2.1 | exact hF.out.2.2.2.1 | exact hF.out.2.2.2.2.1 | exact hF.out.2.2.2.2.2.1 | exact hF.out.2.2.2.2.2.2.1 | exact hF.out.2.2.2.2.2.2.2.1 | exact hF.out.2.2.2.2.2.2.2.2.1 | assumption)⟩
  · focus
      refine EW.seq ?_
      refine EW.sreg rfl ?_
      refine OX.tagc ?_
      refine OX.p rfl rfl (WantE.none rfl) ?_
      refine OX.tagn ?_
      refine qT_n ?_
      refine EW.seq ?_
      refine EW.seq ?_
      refine EW.sreg rfl ?_
      refine OX.tagc ?_
      refine OX.p rfl rfl (WantE.none rfl) ?_
      refine OX.tagc ?_
      refine OX.p rfl rfl (WantE.none rfl) ?_
      refine OX.tagc ?_
      refine OX.p rfl rfl (WantE.none rfl) ?_
      refine OX.tagc ?_
      refine OX.p rfl rfl (WantE.none rfl) ?_
      refine OX.tagc ?_
      refine OX.p rfl rfl (WantE.none rfl) ?_
      refine OX.tagn ?_
      refine qT_n ?_
      refine EW.cond rfl ?_ ?_
      intro hb
      have hb' := of_decide_eq_true hb
      refine EW.seq ?_
      refine EW.sreg rfl ?_
      refine OX.tagc ?_
      refine OX.p rfl rfl (WantE.none rfl) ?_
      refine OX.tagn ?_
      refine qT_n ?_
      refine EW.ret ?_
      refine qT_ret ?_
      refine rQ_ret ?_
      refine Rets.one rfl ?_
      rotate_left
      intro hb
      have hb' := of_decide_eq_false hb
      (exfalso; omega)
    exact ⟨congrArg Value.bool (decide_eq_false fun hh => hne (by rw [hh])).symm, (by first | exact hF.out.1 | exact hF.out.2.1 | exact hF.out.2.2.1 | exact hF.out.2.2.2.1 | exact hF.out.2.2.2.2.1 | exact hF.out.2.2.2.2.2.1 | exact hF.out.2.2.2.2.2.2.1 | exact hF.out.2.2.2.2.2.2.2.1 | exact hF.out.2.2.2.2.2.2.2.2.1 | assumption)⟩
end Go.Px.Ext_
