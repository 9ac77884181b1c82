/- Steps of a proof: contracts of functions, walked. -/
import Derived.Test.YtiahamibfpamgaaPxExS
set_option linter.unusedVariables false
set_option linter.unusedSimpArgs false
set_option maxRecDepth 10000
namespace Go.Px.Ext_
open Go.Proofs Go.Px
theorem extentFor_c (h : Heap) (x : Int) (hb : -9223372036854775808 ≤ x ∧ x ≤ 9223372036854775807) : FG Try.prog 3 [.int .i64 x] h (.bool true) := by
  refine FC.of_EW (fun a w => Try.call3 a w) Try.func3 rfl rfl fun s h1 hX => ?_
  have hF := (Know.nil h1).since (Ext.refl h1)
  by_cases hx : x < 1
  · have hc : ∀ h, FQ Try.prog 7 [.int .i64 x] h (.int .i64 0) := fun h => by
      have := for_c h x hb; unfold forB at this; rwa [if_pos hx] at this
    focus
      refine EW.seq ?_
      refine EW.sreg rfl ?_
      refine OX.tagc ?_
      refine OX.p rfl rfl (WantE.none rfl) ?_
      refine OX.tagn ?_
      refine qT_n ?_
      refine EW.seq ?_
      refine EW.sreg rfl ?_
      refine OX.tagc ?_
      refine OX.p rfl rfl (WantE.none rfl) ?_
      refine OX.tagc ?_
      refine OX.q rfl (by first | exact WantE.none rfl | exact WantE.yes rfl rfl rfl (by first | assumption | rfl | exact decide_eq_true rfl)) (Qy.call rfl rfl (fun h1 hE => hc _)) ?_
      refine OX.tagc ?_
      refine OX.p rfl rfl (WantE.none rfl) ?_
      refine OX.tagn ?_
      refine qT_n ?_
      refine EW.seq ?_
      refine EW.seq ?_
      refine EW.sreg rfl ?_
      refine OX.tagc ?_
      refine OX.p rfl rfl (WantE.none rfl) ?_
      refine OX.tagc ?_
      refine OX.p rfl rfl (WantE.none rfl) ?_
      refine OX.tagn ?_
      refine qT_n ?_
      refine EW.cond rfl ?_ ?_
      intro hb
      have hb' := of_decide_eq_true hb
      refine EW.seq ?_
      refine EW.sreg rfl ?_
      refine OX.tagc ?_
      refine OX.p rfl rfl (WantE.none rfl) ?_
      refine OX.tagc ?_
      refine OX.p rfl rfl (WantE.none rfl) ?_
      refine OX.tagc ?_
      refine OX.p rfl rfl (WantE.none rfl) ?_
      refine OX.tagc ?_
      (refine OX.gr rfl rfl (by first | exact WantE.none rfl | exact WantE.yes rfl rfl rfl (by first | assumption | rfl | exact decide_eq_true rfl)) (Gr.callG rfl rfl (fun h1 hE => awake_c _) ?_); intro h_ hE; replace hF := hF.up hE)
      refine OX.tagc ?_
      refine OX.q rfl (WantE.none rfl) (Qy.pick_tb rfl rfl rfl rfl) ?_
      refine OX.tagc ?_
      refine OX.p rfl rfl (WantE.none rfl) ?_
      refine OX.tagn ?_
      refine qT_n ?_
      refine EW.ret ?_
      refine qT_ret ?_
      refine rQ_ret ?_
      refine Rets.one rfl ?_
      rotate_left
      intro hb
      have hb' := of_decide_eq_false hb
      (exfalso; omega)
    exact ⟨Ext.chg (hX.trans (by first | exact hF.out.1 | exact hF.out.2.1 | exact hF.out.2.2.1 | exact hF.out.2.2.2.1 | exact hF.out.2.2.2.2.1 | exact hF.out.2.2.2.2.2.1 | exact hF.out.2.2.2.2.2.2.1 | exact hF.out.2.2.2.2.2.2.2.1 | exact hF.out.2.2.2.2.2.2.2.2.1 | assumption)) _, rfl⟩
  · obtain ⟨n, hn⟩ : ∃ n, n = (x - 1) / 128 := ⟨_, rfl⟩
    have hc : ∀ h, FQ Try.prog 7 [.int .i64 x] h (.int .i64 (n + 1)) := fun h => by
      have := for_c h x hb; unfold forB at this; rwa [if_neg hx, ← hn] at this
    have hn1 : 128 * n ≤ x - 1 ∧ x - 1 < 128 * n + 128 := by omega
    clear hn
    focus
      refine EW.seq ?_
      refine EW.sreg rfl ?_
      refine OX.tagc ?_
      refine OX.p rfl rfl (WantE.none rfl) ?_
      refine OX.tagn ?_
      refine qT_n ?_
      refine EW.seq ?_
      refine EW.sreg rfl ?_
      refine OX.tagc ?_
      refine OX.p rfl rfl (WantE.none rfl) ?_
      refine OX.tagc ?_
      refine OX.q rfl (by first | exact WantE.none rfl | exact WantE.yes rfl rfl rfl (by first | assumption | rfl | exact decide_eq_true rfl)) (Qy.call rfl rfl (fun h1 hE => hc _)) ?_
      refine OX.tagc ?_
      refine OX.p rfl rfl (WantE.none rfl) ?_
      refine OX.tagn ?_
      refine qT_n ?_
      refine EW.seq ?_
      refine EW.seq ?_
      refine EW.sreg rfl ?_
      refine OX.tagc ?_
      refine OX.p rfl rfl (WantE.none rfl) ?_
      refine OX.tagc ?_
      refine OX.p rfl rfl (WantE.none rfl) ?_
      refine OX.tagn ?_
      refine qT_n ?_
      refine EW.cond rfl ?_ ?_
      intro hb
      have hb' := of_decide_eq_true hb
      (exfalso; omega)
      intro hb
      have hb' := of_decide_eq_false hb
      refine EW.skip ?_
      refine qT_n ?_
      refine EW.seq ?_
      refine EW.sreg rfl ?_
      refine OX.tagc ?_
      refine OX.p rfl rfl (WantE.none rfl) ?_
      refine OX.tagc ?_
      refine OX.p rfl rfl (WantE.none rfl) ?_
      refine OX.tagc ?_
      refine OX.p rfl rfl (WantE.none rfl) ?_
      refine OX.tagc ?_
      refine OX.gsplit rfl rfl rfl ?_ ?_
      intro hb
      have hb' := of_decide_eq_true hb
      refine OX.p rfl rfl (WantE.yes rfl rfl rfl (by assumption)) ?_
      refine OX.tagc ?_
      refine OX.q rfl (WantE.yes rfl rfl rfl (by assumption)) (Qy.subi rfl rfl rfl (by omega)) ?_
      refine OX.tagc ?_
      refine OX.p rfl rfl (WantE.yes rfl rfl rfl (by assumption)) ?_
      refine OX.tagc ?_
      refine OX.q rfl (WantE.none rfl) (Qy.pick_tb rfl rfl rfl (by assumption)) ?_
      refine OX.tagc ?_
      refine OX.p rfl rfl (WantE.none rfl) ?_
      refine OX.tagc ?_
      refine OX.gsplit rfl rfl rfl ?_ ?_
      intro hb
      have hb' := of_decide_eq_true hb
      refine OX.p rfl rfl (WantE.yes rfl rfl rfl (by assumption)) ?_
      refine OX.tagc ?_
      refine OX.q rfl (WantE.yes rfl rfl rfl (by assumption)) (Qy.subi rfl rfl rfl (by omega)) ?_
      refine OX.tagc ?_
      refine OX.q rfl (WantE.yes rfl rfl rfl (by assumption)) (Qy.muli rfl rfl rfl (by omega)) ?_
      refine OX.tagc ?_
      refine OX.p rfl rfl (WantE.yes rfl rfl rfl (by assumption)) ?_
      refine OX.tagc ?_
      refine OX.p rfl rfl (WantE.yes rfl rfl rfl (by assumption)) ?_
      refine OX.tagc ?_
      refine OX.q rfl (WantE.none rfl) (Qy.pick_tb rfl rfl rfl (by assumption)) ?_
      refine OX.tagc ?_
      refine OX.p rfl rfl (WantE.none rfl) ?_
      refine OX.tagc ?_
      refine OX.gsplit rfl rfl rfl ?_ ?_
      intro hb
      have hb' := of_decide_eq_true hb
      refine OX.p rfl rfl (WantE.yes rfl rfl rfl (by assumption)) ?_
      refine OX.tagc ?_
      refine OX.p rfl rfl (WantE.yes rfl rfl rfl (by assumption)) ?_
      refine OX.tagc ?_
      refine OX.q rfl (WantE.yes rfl rfl rfl (by assumption)) (Qy.subi rfl rfl rfl (by omega)) ?_
      refine OX.tagc ?_
      refine OX.q rfl (WantE.yes rfl rfl rfl (by assumption)) (Qy.muli rfl rfl rfl (by omega)) ?_
      refine OX.tagc ?_
      refine OX.q rfl (WantE.yes rfl rfl rfl (by assumption)) (Qy.subi rfl rfl rfl (by omega)) ?_
      refine OX.tagc ?_
      refine OX.p rfl rfl (WantE.yes rfl rfl rfl (by assumption)) ?_
      refine OX.tagc ?_
      refine OX.q rfl (WantE.none rfl) (Qy.pick_tb rfl rfl rfl (by assumption)) ?_
      refine OX.tagc ?_
      refine OX.p rfl rfl (WantE.none rfl) ?_
      refine OX.tagc ?_
      refine OX.gsplit rfl rfl rfl ?_ ?_
      intro hb
      have hb' := of_decide_eq_true hb
      (refine OX.gr rfl rfl (by first | exact WantE.none rfl | exact WantE.yes rfl rfl rfl (by first | assumption | rfl | exact decide_eq_true rfl)) (Gr.callG rfl rfl (fun h1 hE => awake_c _) ?_); intro h_ hE; replace hF := hF.up hE)
      refine OX.tagc ?_
      refine OX.q rfl (WantE.none rfl) (Qy.pick_tb rfl rfl rfl (by assumption)) ?_
      refine OX.tagc ?_
      refine OX.p rfl rfl (WantE.none rfl) ?_
      refine OX.tagn ?_
      refine qT_n ?_
      refine EW.ret ?_
      refine rQ_ret ?_
      refine Rets.one rfl ?_
      rotate_left
      intro hb
      have hb' := of_decide_eq_false hb
      (exfalso; omega)
      intro hb
      have hb' := of_decide_eq_false hb
      (exfalso; omega)
      intro hb
      have hb' := of_decide_eq_false hb
      (exfalso; omega)
      intro hb
      have hb' := of_decide_eq_false hb
      (exfalso; omega)
    exact ⟨Ext.chg (hX.trans (by first | exact hF.out.1 | exact hF.out.2.1 | exact hF.out.2.2.1 | exact hF.out.2.2.2.1 | exact hF.out.2.2.2.2.1 | exact hF.out.2.2.2.2.2.1 | exact hF.out.2.2.2.2.2.2.1 | exact hF.out.2.2.2.2.2.2.2.1 | exact hF.out.2.2.2.2.2.2.2.2.1 | assumption)) _, rfl⟩
end Go.Px.Ext_
