/- Steps of a proof: contracts of functions, walked. -/
import Derived.Test.YtiahamibfpamgaaPxExS
set_option linter.unusedVariables false
set_option linter.unusedSimpArgs false
set_option maxRecDepth 10000
namespace Go.Px.Ext_
open Go.Proofs Go.Px
instance : Enc (Option Addr) := ⟨1, fun x => [.pointer x], fun _ => rfl, fun _ _ hv => by simp at hv; subst hv; rfl, by decide⟩
theorem zero_given (h : Heap) (b : Nat) (v : Value) (hb : Blk h b 52 #[.int .i64 0, v]) : FQ Try.prog 23 [.pointer (some ⟨b, 0, none⟩)] h (.bool false) := given_c h b 0 v hb
theorem zero_may (h : Heap) (b : Nat) (v : Value) (x : Ex) (hb : Blk h b 52 #[.int .i64 0, v]) : FQ Try.prog 30 [.pointer (some ⟨b, 0, none⟩), exV x] h (.bool false) := by
  have := may_c h b 0 v x hb (by omega)
  rwa [show mayB 0 x = false by unfold mayB; exact decide_eq_false (by omega)] at this
set_option maxHeartbeats 4000000 in
theorem nobody_c (h : Heap) (x : Ex) : FG Try.prog 6 [exV x] h (.bool true) := by
  refine FC.of_EW (fun a w => Try.call6 a w) Try.func6 rfl rfl fun s h1 hX => ?_
  have hF := ((Know.nil h1).since hX).since (Ext.refl h1)
  focus
    refine EW.seq ?_
    refine EW.sreg rfl ?_
    refine OX.tagc ?_
    (refine OX.gr rfl rfl (WantE.none rfl) (Gr.boxF rfl rfl ?_); intro b_ h_ hb_ hE hB; have hz_ := hE.1; replace hF := (hF.up hE).blk hB)
    refine OX.tagc ?_
    refine OX.p rfl rfl (WantE.none rfl) ?_
    refine OX.tagn ?_
    refine qT_n ?_
    refine EW.seq ?_
    refine EW.sreg rfl ?_
    refine OX.tagc ?_
    refine OX.q rfl (WantE.none rfl) (Qy.buildF rfl rfl) ?_
    refine OX.tagc ?_
    (refine OX.gr rfl rfl (WantE.none rfl) (Gr.boxF rfl rfl ?_); intro b_ h_ hb_ hE hB; have hz_ := hE.1; replace hF := (hF.up hE).blk hB)
    refine OX.tagc ?_
    rotate_left
  have hBm := hF.out.1
  have hBx := hF.out.2.1
  refine OX.gr rfl rfl (WantE.none rfl) (Gr.lit (xs := [(none : Option Addr), some ⟨b_, 0, none⟩]) (bytes := 8) rfl rfl rfl rfl rfl rfl (by decide) ?_)
  intro b2 h2 hb2 hE2 hlt2 hO2
  replace hF := (hF.up hE2).rd hO2.rd
  have hK := hF
  focus
    refine OX.tagc ?_
    refine OX.p rfl rfl (WantE.none rfl) ?_
    refine OX.tagn ?_
    refine qT_n ?_
    refine EW.seq ?_
    refine EW.seq ?_
    refine EW.sreg rfl ?_
    refine OX.tagc ?_
    refine OX.p rfl rfl (WantE.none rfl) ?_
    refine OX.tagn ?_
    refine qT_n ?_
    refine EW.block ?_
    rotate_left
  refine EW.loopS (fun i : Nat => [(1, .pointer (some ⟨_, 0, none⟩)), (3, .slice (some ⟨b2, 0, none⟩) 2 2), (4, .int .i64 i)]) (fun i h' => Ext h2 h' ∧ i ≤ 2) (fun i => 2 - i) 0
    ⟨rfl, rfl, rfl, trivial⟩ ⟨Ext.refl _, by omega⟩ ?_
  rintro i e h4 ⟨hE4, hi⟩
  replace hF := (hK.up hE4).since (Ext.refl h4)
  by_cases hlt : i < 2
  · obtain ⟨p, hp⟩ : ∃ p, p = ix [(none : Option Addr), some ⟨b_, 0, none⟩] (i : Int) := ⟨_, rfl⟩
    have hpc : p = none ∨ p = some ⟨b_, 0, none⟩ := by
      subst hp
      rcases (by omega : i = 0 ∨ i = 1) with rfl | rfl
      · exact .inl (by simp [ix])
      · exact .inr (by simp [ix])
    have hgv : ∀ h', Ext h4 h' → FQ Try.prog 23 [.pointer p] h' (.bool false) := fun h' hx => by
      rcases hpc with rfl | rfl
      · exact given_nil h'
      · exact zero_given h' b_ _ (hBm.ext (hE2.trans (hE4.trans hx)))
    have hmv : ∀ h', Ext h4 h' → FQ Try.prog 30 [.pointer p, exV x] h' (.bool false) := fun h' hx => by
      rcases hpc with rfl | rfl
      · exact may_nil h' x
      · exact zero_may h' b_ _ x (hBm.ext (hE2.trans (hE4.trans hx)))
    have hll : [(none : Option Addr), some ⟨b_, 0, none⟩].length = 2 := rfl
    subst hp
    focus
      refine EW.seq ?_
      refine EW.seq ?_
      refine EW.sreg rfl ?_
      refine OX.tagc ?_
      refine OX.p rfl rfl (WantE.none rfl) ?_
      refine OX.tagc ?_
      refine OX.p rfl rfl (WantE.none rfl) ?_
      refine OX.tagc ?_
      refine OX.p rfl rfl (WantE.none rfl) ?_
      refine OX.tagc ?_
      refine OX.p rfl rfl (WantE.none rfl) ?_
      refine OX.tagn ?_
      refine qT_n ?_
      refine EW.cond rfl ?_ ?_
      intro hb
      have hb' := of_decide_eq_true hb
      refine EW.skip ?_
      refine qT_n ?_
      refine EW.seq ?_
      refine EW.block ?_
      refine EW.seq ?_
      (refine EW.drawT ord6 tab6 rfl (by kernel_rfl) (by kernel_rfl) (by kernel_rfl) ?_)
      refine OX.p rfl rfl (WantE.none rfl) ?_
      refine OX.p rfl rfl (WantE.none rfl) ?_
      refine OX.q rfl (WantE.none rfl) (Qy.indexRd rfl rfl rfl rfl rfl hF.out.2.1 rfl (by omega)) ?_
      refine OX.q rfl (WantE.none rfl) (Qy.loadEl0 rfl rfl rfl hF.out.2.1 rfl (by omega) rfl) ?_
      refine OX.p rfl rfl (WantE.none rfl) ?_
      refine OX.q rfl (WantE.none rfl) (Qy.load1 rfl rfl rfl (Blk.cell hF.out.2.2.2.1 rfl rfl)) ?_
      refine OX.q rfl (by first | exact WantE.none rfl | exact WantE.yes rfl rfl rfl (by first | assumption | rfl | exact decide_eq_true rfl | exact decide_eq_false (fun h => h rfl))) (Qy.callG rfl rfl (fun h1 hE => alloc_no h1 _ _ false (fun h2 hE2 => hgv h2 (((by first | exact hF.out.1 | exact hF.out.2.1 | exact hF.out.2.2.1 | exact hF.out.2.2.2.1 | exact hF.out.2.2.2.2.1 | exact hF.out.2.2.2.2.2.1 | exact hF.out.2.2.2.2.2.2.1 | exact hF.out.2.2.2.2.2.2.2.1 | exact hF.out.2.2.2.2.2.2.2.2.1 | assumption) : Ext h4 _).trans (hE.trans hE2))) (.inl rfl))) ?_
      refine OX.p rfl rfl (WantE.none rfl) ?_
      refine OX.p rfl rfl (WantE.none rfl) ?_
      refine OX.p rfl rfl (WantE.none rfl) ?_
      (refine OX.gr rfl rfl (WantE.none rfl) (Gr.allocF rfl rfl ?_); intro b_ h_ hb_ hE hB; have hz_ := hE.1; have hy_ := hb_; have hAlc := And.intro hb_ (And.intro hE hB); clear hE hB)
      (refine OX.ac0 rfl rfl (WantE.none rfl) (Runs.storeF rfl rfl rfl rfl rfl hAlc.2.2 rfl rfl rfl ?_); intro h_ hC hB; replace hF := (hF.up (Chg.fresh hAlc.2.1 hC (by simpa using hAlc.1))).blk hB; clear hAlc hC hB)
      refine OX.p rfl rfl (WantE.none rfl) ?_
      refine OX.nil ?_
      refine qT_n ?_
      refine EW.seq ?_
      (refine EW.drawT ord6 tab6 rfl (by kernel_rfl) (by kernel_rfl) (by kernel_rfl) ?_)
      refine OX.q rfl (WantE.none rfl) (Qy.loadk rfl rfl rfl rfl (Blk.at0 hF.out.1)) ?_
      refine OX.q rfl (WantE.none rfl) (Qy.buildF rfl rfl) ?_
      refine OX.q rfl (WantE.none rfl) (Qy.eqAgg rfl rfl rfl (by kernel_rfl) rfl rfl) ?_
      refine OX.p rfl rfl (WantE.none rfl) ?_
      refine OX.p rfl rfl (WantE.yes rfl rfl rfl rfl) ?_
      refine OX.p rfl rfl (WantE.yes rfl rfl rfl rfl) ?_
      refine OX.q rfl (WantE.none rfl) (Qy.pick_fb rfl rfl rfl rfl) ?_
      refine OX.p rfl rfl (WantE.none rfl) ?_
      refine OX.p rfl rfl (WantE.yes rfl rfl rfl rfl) ?_
      refine OX.p rfl rfl (WantE.yes rfl rfl rfl rfl) ?_
      refine OX.q rfl (WantE.yes rfl rfl rfl rfl) (Qy.indexRd rfl rfl rfl rfl rfl hF.out.2.2.1 rfl (by omega)) ?_
      refine OX.q rfl (WantE.yes rfl rfl rfl rfl) (Qy.loadEl0 rfl rfl rfl hF.out.2.2.1 rfl (by omega) rfl) ?_
      refine OX.q rfl (WantE.yes rfl rfl rfl rfl) (Qy.loadk rfl rfl rfl rfl (Blk.at0 hF.out.2.2.2.2.1)) ?_
      refine OX.q rfl (by first | exact WantE.none rfl | exact WantE.yes rfl rfl rfl (by first | assumption | rfl | exact decide_eq_true rfl | exact decide_eq_false (fun h => h rfl))) (Qy.callG rfl rfl (fun h1 hE => take_no h1 _ x (fun h2 hE2 => hmv h2 (((by first | exact hF.out.1 | exact hF.out.2.1 | exact hF.out.2.2.1 | exact hF.out.2.2.2.1 | exact hF.out.2.2.2.2.1 | exact hF.out.2.2.2.2.2.1 | exact hF.out.2.2.2.2.2.2.1 | exact hF.out.2.2.2.2.2.2.2.1 | exact hF.out.2.2.2.2.2.2.2.2.1 | assumption) : Ext h4 _).trans (hE.trans hE2))))) ?_
      refine OX.p rfl rfl (WantE.yes rfl rfl rfl rfl) ?_
      refine OX.q rfl (WantE.none rfl) (Qy.pick_fb rfl rfl rfl rfl) ?_
      refine OX.p rfl rfl (WantE.none rfl) ?_
      refine OX.p rfl rfl (WantE.yes rfl rfl rfl rfl) ?_
      refine OX.p rfl rfl (WantE.yes rfl rfl rfl rfl) ?_
      refine OX.q rfl (WantE.yes rfl rfl rfl rfl) (Qy.indexRd rfl rfl rfl rfl rfl hF.out.2.2.1 rfl (by omega)) ?_
      refine OX.q rfl (WantE.yes rfl rfl rfl rfl) (Qy.loadEl0 rfl rfl rfl hF.out.2.2.1 rfl (by omega) rfl) ?_
      refine OX.q rfl (WantE.yes rfl rfl rfl rfl) (Qy.loadk rfl rfl rfl rfl (Blk.at0 hF.out.2.2.2.2.1)) ?_
      refine OX.q rfl (by first | exact WantE.none rfl | exact WantE.yes rfl rfl rfl (by first | assumption | rfl | exact decide_eq_true rfl | exact decide_eq_false (fun h => h rfl))) (Qy.callG rfl rfl (fun h1 hE => free_no h1 _ x (fun h2 hE2 => hmv h2 (((by first | exact hF.out.1 | exact hF.out.2.1 | exact hF.out.2.2.1 | exact hF.out.2.2.2.1 | exact hF.out.2.2.2.2.1 | exact hF.out.2.2.2.2.2.1 | exact hF.out.2.2.2.2.2.2.1 | exact hF.out.2.2.2.2.2.2.2.1 | exact hF.out.2.2.2.2.2.2.2.2.1 | assumption) : Ext h4 _).trans (hE.trans hE2))))) ?_
      refine OX.p rfl rfl (WantE.yes rfl rfl rfl rfl) ?_
      refine OX.q rfl (WantE.none rfl) (Qy.pick_fb rfl rfl rfl rfl) ?_
      refine OX.p rfl rfl (WantE.none rfl) ?_
      refine OX.p rfl rfl (WantE.yes rfl rfl rfl rfl) ?_
      refine OX.p rfl rfl (WantE.yes rfl rfl rfl rfl) ?_
      refine OX.q rfl (WantE.yes rfl rfl rfl rfl) (Qy.indexRd rfl rfl rfl rfl rfl hF.out.2.2.1 rfl (by omega)) ?_
      refine OX.q rfl (WantE.yes rfl rfl rfl rfl) (Qy.loadEl0 rfl rfl rfl hF.out.2.2.1 rfl (by omega) rfl) ?_
      refine OX.q rfl (by first | exact WantE.none rfl | exact WantE.yes rfl rfl rfl (by first | assumption | rfl | exact decide_eq_true rfl | exact decide_eq_false (fun h => h rfl))) (Qy.callG rfl rfl (fun h1 hE => left_no h1 _ (fun h2 hE2 => hgv h2 (((by first | exact hF.out.1 | exact hF.out.2.1 | exact hF.out.2.2.1 | exact hF.out.2.2.2.1 | exact hF.out.2.2.2.2.1 | exact hF.out.2.2.2.2.2.1 | exact hF.out.2.2.2.2.2.2.1 | exact hF.out.2.2.2.2.2.2.2.1 | exact hF.out.2.2.2.2.2.2.2.2.1 | assumption) : Ext h4 _).trans (hE.trans hE2))))) ?_
      refine OX.p rfl rfl (WantE.yes rfl rfl rfl rfl) ?_
      refine OX.q rfl (WantE.none rfl) (Qy.pick_fb rfl rfl rfl rfl) ?_
      refine OX.p rfl rfl (WantE.none rfl) ?_
      refine OX.p rfl rfl (WantE.yes rfl rfl rfl rfl) ?_
      refine OX.p rfl rfl (WantE.yes rfl rfl rfl rfl) ?_
      refine OX.q rfl (WantE.yes rfl rfl rfl rfl) (Qy.indexRd rfl rfl rfl rfl rfl hF.out.2.2.1 rfl (by omega)) ?_
      refine OX.q rfl (WantE.yes rfl rfl rfl rfl) (Qy.loadEl0 rfl rfl rfl hF.out.2.2.1 rfl (by omega) rfl) ?_
      refine OX.q rfl (by first | exact WantE.none rfl | exact WantE.yes rfl rfl rfl (by first | assumption | rfl | exact decide_eq_true rfl | exact decide_eq_false (fun h => h rfl))) (Qy.callG rfl rfl (fun h1 hE => long_no h1 _ (fun h2 hE2 => hgv h2 (((by first | exact hF.out.1 | exact hF.out.2.1 | exact hF.out.2.2.1 | exact hF.out.2.2.2.1 | exact hF.out.2.2.2.2.1 | exact hF.out.2.2.2.2.2.1 | exact hF.out.2.2.2.2.2.2.1 | exact hF.out.2.2.2.2.2.2.2.1 | exact hF.out.2.2.2.2.2.2.2.2.1 | assumption) : Ext h4 _).trans (hE.trans hE2))))) ?_
      refine OX.p rfl rfl (WantE.yes rfl rfl rfl rfl) ?_
      refine OX.q rfl (WantE.none rfl) (Qy.pick_fb rfl rfl rfl rfl) ?_
      refine OX.p rfl rfl (WantE.none rfl) ?_
      refine OX.p rfl rfl (WantE.yes rfl rfl rfl rfl) ?_
      refine OX.p rfl rfl (WantE.yes rfl rfl rfl rfl) ?_
      refine OX.q rfl (WantE.yes rfl rfl rfl rfl) (Qy.indexRd rfl rfl rfl rfl rfl hF.out.2.2.1 rfl (by omega)) ?_
      refine OX.q rfl (WantE.yes rfl rfl rfl rfl) (Qy.loadEl0 rfl rfl rfl hF.out.2.2.1 rfl (by omega) rfl) ?_
      refine OX.q rfl (by first | exact WantE.none rfl | exact WantE.yes rfl rfl rfl (by first | assumption | rfl | exact decide_eq_true rfl | exact decide_eq_false (fun h => h rfl))) (Qy.call rfl rfl (fun h1 hE => holes_no h1 _ (fun h2 hE2 => hgv h2 (((by first | exact hF.out.1 | exact hF.out.2.1 | exact hF.out.2.2.1 | exact hF.out.2.2.2.1 | exact hF.out.2.2.2.2.1 | exact hF.out.2.2.2.2.2.1 | exact hF.out.2.2.2.2.2.2.1 | exact hF.out.2.2.2.2.2.2.2.1 | exact hF.out.2.2.2.2.2.2.2.2.1 | assumption) : Ext h4 _).trans (hE.trans hE2))))) ?_
      refine OX.p rfl rfl (WantE.yes rfl rfl rfl rfl) ?_
      refine OX.p rfl rfl (WantE.yes rfl rfl rfl rfl) ?_
      refine OX.q rfl (WantE.none rfl) (Qy.pick_fb rfl rfl rfl rfl) ?_
      refine OX.p rfl rfl (WantE.none rfl) ?_
      refine OX.p rfl rfl (WantE.yes rfl rfl rfl rfl) ?_
      refine OX.p rfl rfl (WantE.yes rfl rfl rfl rfl) ?_
      refine OX.q rfl (WantE.yes rfl rfl rfl rfl) (Qy.indexRd rfl rfl rfl rfl rfl hF.out.2.2.1 rfl (by omega)) ?_
      refine OX.q rfl (WantE.yes rfl rfl rfl rfl) (Qy.loadEl0 rfl rfl rfl hF.out.2.2.1 rfl (by omega) rfl) ?_
      refine OX.q rfl (by first | exact WantE.none rfl | exact WantE.yes rfl rfl rfl (by first | assumption | rfl | exact decide_eq_true rfl | exact decide_eq_false (fun h => h rfl))) (Qy.call rfl rfl (fun h1 hE => copy_no h1 _ (fun h2 hE2 => hgv h2 (((by first | exact hF.out.1 | exact hF.out.2.1 | exact hF.out.2.2.1 | exact hF.out.2.2.2.1 | exact hF.out.2.2.2.2.1 | exact hF.out.2.2.2.2.2.1 | exact hF.out.2.2.2.2.2.2.1 | exact hF.out.2.2.2.2.2.2.2.1 | exact hF.out.2.2.2.2.2.2.2.2.1 | assumption) : Ext h4 _).trans (hE.trans hE2))))) ?_
      refine OX.p rfl rfl (WantE.yes rfl rfl rfl rfl) ?_
      refine OX.q rfl (WantE.none rfl) (Qy.pick_fb rfl rfl rfl rfl) ?_
      refine OX.nil ?_
      refine qT_n ?_
      refine EW.cond_f rfl rfl ?_
      refine EW.skip ?_
      refine qB_n ?_
      refine qT_n ?_
      refine EW.sreg rfl ?_
      refine OX.tagc ?_
      refine OX.p rfl rfl (WantE.none rfl) ?_
      refine OX.tagc ?_
      refine OX.q rfl (WantE.none rfl) (Qy.addi rfl rfl rfl (by omega)) ?_
      refine OX.tagc ?_
      refine OX.p rfl rfl (WantE.none rfl) ?_
      refine OX.tagn ?_
      refine qT_n ?_
      rotate_left
      intro hb
      have hb' := of_decide_eq_false hb
      (exfalso; omega)
    exact ⟨i + 1, ⟨rfl, rfl, rfl, trivial⟩, ⟨hE4.trans (by first | exact hF.out.1 | exact hF.out.2.1 | exact hF.out.2.2.1 | exact hF.out.2.2.2.1 | exact hF.out.2.2.2.2.1 | exact hF.out.2.2.2.2.2.1 | exact hF.out.2.2.2.2.2.2.1 | exact hF.out.2.2.2.2.2.2.2.1 | exact hF.out.2.2.2.2.2.2.2.2.1 | assumption), by omega⟩, by omega⟩
  · focus
      refine EW.seq ?_
      refine EW.seq ?_
      refine EW.sreg rfl ?_
      refine OX.tagc ?_
      refine OX.p rfl rfl (WantE.none rfl) ?_
      refine OX.tagc ?_
      refine OX.p rfl rfl (WantE.none rfl) ?_
      refine OX.tagc ?_
      refine OX.p rfl rfl (WantE.none rfl) ?_
      refine OX.tagc ?_
      refine OX.p rfl rfl (WantE.none rfl) ?_
      refine OX.tagn ?_
      refine qT_n ?_
      refine EW.cond rfl ?_ ?_
      intro hb
      have hb' := of_decide_eq_true hb
      (exfalso; omega)
      intro hb
      have hb' := of_decide_eq_false hb
      refine EW.exit ?_
      refine qT_exit ?_
      refine qT_exit ?_
      refine qB_hit ?_
      refine qT_n ?_
      refine EW.seq ?_
      refine EW.sreg rfl ?_
      refine OX.tagc ?_
      refine OX.q rfl (by first | exact WantE.none rfl | exact WantE.yes rfl rfl rfl (by first | assumption | rfl | exact decide_eq_true rfl | exact decide_eq_false (fun h => h rfl))) (Qy.callG rfl rfl (fun h1 hE => awake_c _)) ?_
      refine OX.tagc ?_
      refine OX.p rfl rfl (WantE.none rfl) ?_
      refine OX.tagn ?_
      refine qT_n ?_
      refine EW.ret ?_
      refine rQ_ret ?_
      refine Rets.one rfl ?_
      rotate_left
    exact ⟨Ext.chg (by first | exact hF.out.1 | exact hF.out.2.1 | exact hF.out.2.2.1 | exact hF.out.2.2.2.1 | exact hF.out.2.2.2.2.1 | exact hF.out.2.2.2.2.2.1 | exact hF.out.2.2.2.2.2.2.1 | exact hF.out.2.2.2.2.2.2.2.1 | exact hF.out.2.2.2.2.2.2.2.2.1 | assumption) _, rfl⟩
end Go.Px.Ext_
