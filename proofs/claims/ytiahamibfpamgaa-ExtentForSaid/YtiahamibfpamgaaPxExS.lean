/- Steps of a proof: contracts of functions, walked. -/
import Derived.Test.YtiahamibfpamgaaPxExR
set_option linter.unusedVariables false
set_option linter.unusedSimpArgs false
set_option maxRecDepth 10000
namespace Go.Px.Ext_
open Go.Proofs Go.Px
theorem MapQ.ge {h : Heap} {base b : Nat} {A : Option Addr} {c : Nat} {q : List Bool} (k : MapQ h base b A c q) : ∀ m ∈ b :: blk A, base ≤ m := by
  obtain ⟨hs, h1, _⟩ := k
  intro m hm
  rcases List.mem_cons.1 hm with rfl | hm
  · exact h1.2.2.2
  · exact h1.2.1.blk_ge m hm
theorem MapQ.lt {h : Heap} {base b : Nat} {A : Option Addr} {c : Nat} {q : List Bool} (k : MapQ h base b A c q) : ∀ m ∈ b :: blk A, m < h.size := by
  obtain ⟨hs, h1, _⟩ := k
  intro m hm
  rcases List.mem_cons.1 hm with rfl | hm
  · exact h1.1.lt
  · exact h1.2.1.blk_lt m hm
theorem MapQ.mono {h : Heap} {base base' b : Nat} {A : Option Addr} {c : Nat} {q : List Bool} (k : MapQ h base b A c q) (hb : base' ≤ base) : MapQ h base' b A c q := by
  obtain ⟨hs, h1, h2⟩ := k
  exact ⟨hs, ⟨h1.1, h1.2.1.mono hb, h1.2.2.1, Nat.le_trans hb h1.2.2.2⟩, h2⟩
section
variable {P : Program} {ρ : Operand → Value} {o : Oper} {s : World} {h : Heap}
/-- a call that turns a map, which is new since h0 -/
theorem Runs.mapOp {g : FuncId} {as_ : Array Operand} {ts : Array TypeId} {h0 : Heap} {b : Nat} {A : Option Addr} {c : Nat} {q q' : List Bool} {v0 : Value} {K : Value → Heap → Prop} (hE : Ext h0 h) (hm : MapQ h h0.size b A c q) (ho : o.op = .call ⟨.value (.func g), as_, ts⟩) (hρ : ρ (.func g) = .func (.func g) #[] #[])
    (hc : ∀ h1, Ext h h1 → FC P g (as_.toList.map ρ) h1 (b :: blk A) (MPost h1 h0.size b A q' v0))
    (k : ∀ h1 A' c' h', Ext h h1 → Chg (b :: blk A) h1 h' → Ext h0 h' → MapQ h' h0.size b A' c' q' → Moved h1 A A' → K v0 h') : Runs P ρ o s h K :=
  Runs.call (M := b :: blk A) (R := fun h1 v h' => MPost h1 h0.size b A q' v0 v h') ho hρ hc fun h1 v h' x1 x2 ⟨hv, A', c', hM, hMv⟩ => by
    subst hv
    exact k h1 A' c' h' x1 x2 (Chg.fresh (hE.trans x1) x2 (hm.ge)) hM hMv
end
set_option maxHeartbeats 4000000 in
theorem awake_c (h : Heap) : FG Try.prog 8 [] h (.bool true) := by
  have e1 : allocQ [false, false, false, false] 2 = ([true, true, false, false], ⟨0, 2⟩, 0) := by kernel_rfl
  have e2 : allocQ [true, true, false, false] 1 = ([true, true, true, false], ⟨2, 1⟩, 0) := by kernel_rfl
  have e3 : setQ [true, true, true, false] ⟨0, 2⟩ false = ([false, false, true, false], 0) := by kernel_rfl
  have e4 : leftB [false, false, true, false] = 3 := by kernel_rfl
  have e5 : maxC 0 (hl [false, false, true, false] 4) = 2 := by kernel_rfl
  have e6 : (hl [false, false, true, false] 4) = [⟨0, 2⟩, ⟨3, 1⟩] := by kernel_rfl
  refine FC.of_EW (fun a w => Try.call8 a w) Try.func8 rfl rfl fun s h1 hX => ?_
  have hF := (Know.nil h1).since (Ext.refl h1)
  focus
    refine EW.seq ?_
    refine EW.sreg rfl ?_
    refine OX.tagc ?_
    refine OX.p rfl rfl (WantE.none rfl) ?_
    refine OX.tagn ?_
    refine qT_n ?_
    refine EW.seq ?_
    refine EW.sreg rfl ?_
    refine OX.tagc ?_
    rotate_left
  refine OX.gr rfl rfl (WantE.none rfl) (Gr.call (R := fun h2 v h' => ∃ b A c, v = .tuple #[.pointer (some ⟨b, 0, none⟩), .int .i64 0] ∧ MapQ h' h2.size b A c [false, false, false, false]) rfl rfl (fun h2 hE => new_any h2 4 (by decide) (by decide)) ?_)
  rintro h2 v h3 hE2 hE3 ⟨b, A, c, rfl, hM⟩
  replace hM := hM.mono hE2.1
  replace hF := hF.up (hE2.trans hE3)
  focus
    refine OX.tagc ?_
    refine OX.p rfl rfl (WantE.none rfl) ?_
    refine OX.tagc ?_
    refine OX.p rfl rfl (WantE.none rfl) ?_
    refine OX.tagc ?_
    refine OX.p rfl rfl (WantE.none rfl) ?_
    refine OX.tagc ?_
    refine OX.p rfl rfl (WantE.none rfl) ?_
    refine OX.tagc ?_
    refine OX.p rfl rfl (WantE.none rfl) ?_
    refine OX.tagn ?_
    refine qT_n ?_
    refine EW.seq ?_
    refine EW.seq ?_
    refine EW.sreg rfl ?_
    refine OX.tagc ?_
    refine OX.p rfl rfl (WantE.none rfl) ?_
    refine OX.tagc ?_
    refine OX.p rfl rfl (WantE.none rfl) ?_
    refine OX.tagc ?_
    refine OX.p rfl rfl (WantE.none rfl) ?_
    refine OX.tagc ?_
    refine OX.p rfl rfl (WantE.yes rfl rfl rfl rfl) ?_
    refine OX.tagc ?_
    refine OX.p rfl rfl (WantE.yes rfl rfl rfl rfl) ?_
    refine OX.tagc ?_
    refine OX.q rfl (WantE.none rfl) (Qy.pick_fb rfl rfl rfl rfl) ?_
    refine OX.tagn ?_
    refine qT_n ?_
    refine EW.cond_f rfl rfl ?_
    refine EW.skip ?_
    refine qT_n ?_
    refine EW.seq ?_
    refine EW.sreg rfl ?_
    refine OX.tagc ?_
    refine OX.p rfl rfl (WantE.none rfl) ?_
    refine OX.tagc ?_
    rotate_left
  refine OX.ac rfl rfl (WantE.none rfl) (Runs.mapOp ((by first | exact hF.out.1 | exact hF.out.2.1 | exact hF.out.2.2.1 | exact hF.out.2.2.2.1 | exact hF.out.2.2.2.2.1 | exact hF.out.2.2.2.2.2.1 | exact hF.out.2.2.2.2.2.2.1 | exact hF.out.2.2.2.2.2.2.2.1 | exact hF.out.2.2.2.2.2.2.2.2.1 | assumption)) hM rfl rfl (fun h2 hE => by have := alloc_any h2 h1.size b A c _ 2 (hM.ext hE) ((hE2.trans (hE3.trans hE)).1); simp only [e1] at this; exact this) ?_)
  intro g4 A4 c4 h4 hG4 hC4 hE4 hM4 hV4
  have hs4 := hG4.1
  have ht4 := hC4.1
  replace hF := ((Know.nil h1).since (Ext.refl h1)).up hE4
  replace hF := hF.since (Ext.refl h4)
  focus
    refine OX.tagc ?_
    refine OX.p rfl rfl (WantE.none rfl) ?_
    refine OX.tagc ?_
    refine OX.p rfl rfl (WantE.none rfl) ?_
    refine OX.tagc ?_
    refine OX.p rfl rfl (WantE.none rfl) ?_
    refine OX.tagc ?_
    (refine OX.gr rfl rfl (WantE.none rfl) (Gr.allocF rfl rfl ?_); intro b_ h_ hb_ hE hB; have hz_ := hE.1; have hy_ := hb_; have hAlc := And.intro hb_ (And.intro hE hB); clear hE hB)
    refine OX.tagc ?_
    (refine OX.ac0 rfl rfl (WantE.none rfl) (Runs.storeF rfl rfl rfl rfl rfl hAlc.2.2 rfl rfl rfl ?_); intro h_ hC hB; replace hF := (hF.up (Chg.fresh hAlc.2.1 hC (by simpa using hAlc.1))).blk hB; clear hAlc hC hB)
    refine OX.tagc ?_
    refine OX.p rfl rfl (WantE.none rfl) ?_
    refine OX.tagn ?_
    refine qT_n ?_
    refine EW.seq ?_
    refine EW.sreg rfl ?_
    refine OX.tagc ?_
    refine OX.p rfl rfl (WantE.none rfl) ?_
    refine OX.tagc ?_
    rotate_left
  have hx4 : Ext h4 _ := (by first | exact hF.out.1 | exact hF.out.2.1 | exact hF.out.2.2.1 | exact hF.out.2.2.2.1 | exact hF.out.2.2.2.2.1 | exact hF.out.2.2.2.2.2.1 | exact hF.out.2.2.2.2.2.2.1 | exact hF.out.2.2.2.2.2.2.2.1 | exact hF.out.2.2.2.2.2.2.2.2.1 | assumption)
  refine OX.ac rfl rfl (WantE.none rfl) (Runs.mapOp ((by first | exact hF.out.1 | exact hF.out.2.1 | exact hF.out.2.2.1 | exact hF.out.2.2.2.1 | exact hF.out.2.2.2.2.1 | exact hF.out.2.2.2.2.2.1 | exact hF.out.2.2.2.2.2.2.1 | exact hF.out.2.2.2.2.2.2.2.1 | exact hF.out.2.2.2.2.2.2.2.2.1 | assumption)) (hM4.ext hx4) rfl rfl (fun h2 hE => by have := alloc_any h2 h1.size b A4 c4 _ 1 (hM4.ext (hx4.trans hE)) ((hE4.trans (hx4.trans hE)).1); simp only [e2] at this; exact this) ?_)
  intro g5 A5 c5 h5 hG5 hC5 hE5 hM5 hV5
  have hs5 := hG5.1
  have ht5 := hC5.1
  have hB3 := (hF.out.1.ext hG5).chg hC5 (fun hm => by have := hM4.lt _ hm; omega)
  replace hF := ((((Know.nil h1).since (Ext.refl h1)).up hE5).blk hB3).since (Ext.refl h5)
  focus
    refine OX.tagc ?_
    refine OX.p rfl rfl (WantE.none rfl) ?_
    refine OX.tagc ?_
    refine OX.p rfl rfl (WantE.none rfl) ?_
    refine OX.tagc ?_
    refine OX.p rfl rfl (WantE.none rfl) ?_
    refine OX.tagc ?_
    (refine OX.gr rfl rfl (WantE.none rfl) (Gr.allocF rfl rfl ?_); intro b_ h_ hb_ hE hB; have hz_ := hE.1; have hy_ := hb_; have hAlc := And.intro hb_ (And.intro hE hB); clear hE hB)
    refine OX.tagc ?_
    (refine OX.ac0 rfl rfl (WantE.none rfl) (Runs.storeF rfl rfl rfl rfl rfl hAlc.2.2 rfl rfl rfl ?_); intro h_ hC hB; replace hF := (hF.up (Chg.fresh hAlc.2.1 hC (by simpa using hAlc.1))).blk hB; clear hAlc hC hB)
    refine OX.tagc ?_
    refine OX.p rfl rfl (WantE.none rfl) ?_
    refine OX.tagn ?_
    refine qT_n ?_
    refine EW.seq ?_
    refine EW.seq ?_
    refine EW.sreg rfl ?_
    refine OX.tagc ?_
    refine OX.q rfl (WantE.none rfl) (Qy.loadk rfl rfl rfl rfl (Blk.at0 hF.out.2.2.1)) ?_
    refine OX.tagc ?_
    refine OX.q rfl (WantE.none rfl) (Qy.buildF rfl rfl) ?_
    refine OX.tagc ?_
    refine OX.q rfl (WantE.none rfl) (Qy.eqAgg rfl rfl rfl (by kernel_rfl) rfl rfl) ?_
    refine OX.tagc ?_
    refine OX.p rfl rfl (WantE.none rfl) ?_
    refine OX.tagc ?_
    refine OX.p rfl rfl (WantE.yes rfl rfl rfl rfl) ?_
    refine OX.tagc ?_
    refine OX.p rfl rfl (WantE.yes rfl rfl rfl rfl) ?_
    refine OX.tagc ?_
    refine OX.q rfl (WantE.none rfl) (Qy.pick_fb rfl rfl rfl rfl) ?_
    refine OX.tagc ?_
    refine OX.p rfl rfl (WantE.none rfl) ?_
    refine OX.tagc ?_
    refine OX.q rfl (WantE.yes rfl rfl rfl rfl) (Qy.loadk rfl rfl rfl rfl (Blk.at0 hF.out.1)) ?_
    refine OX.tagc ?_
    refine OX.q rfl (WantE.yes rfl rfl rfl rfl) (Qy.buildF rfl rfl) ?_
    refine OX.tagc ?_
    refine OX.q rfl (WantE.yes rfl rfl rfl rfl) (Qy.eqAgg rfl rfl rfl (by kernel_rfl) rfl rfl) ?_
    refine OX.tagc ?_
    refine OX.q rfl (WantE.none rfl) (Qy.pick_fb rfl rfl rfl rfl) ?_
    refine OX.tagc ?_
    refine OX.p rfl rfl (WantE.none rfl) ?_
    refine OX.tagc ?_
    refine OX.p rfl rfl (WantE.yes rfl rfl rfl rfl) ?_
    refine OX.tagc ?_
    refine OX.p rfl rfl (WantE.yes rfl rfl rfl rfl) ?_
    refine OX.tagc ?_
    refine OX.q rfl (WantE.none rfl) (Qy.pick_fb rfl rfl rfl rfl) ?_
    refine OX.tagc ?_
    refine OX.p rfl rfl (WantE.none rfl) ?_
    refine OX.tagc ?_
    refine OX.p rfl rfl (WantE.yes rfl rfl rfl rfl) ?_
    refine OX.tagc ?_
    refine OX.q rfl (WantE.yes rfl rfl rfl rfl) (Qy.loadk rfl rfl rfl rfl (Blk.at0 hF.out.2.2.1)) ?_
    refine OX.tagc ?_
    rotate_left
  have hx5 : Ext h5 _ := (by first | exact hF.out.1 | exact hF.out.2.1 | exact hF.out.2.2.1 | exact hF.out.2.2.2.1 | exact hF.out.2.2.2.2.1 | exact hF.out.2.2.2.2.2.1 | exact hF.out.2.2.2.2.2.2.1 | exact hF.out.2.2.2.2.2.2.2.1 | exact hF.out.2.2.2.2.2.2.2.2.1 | assumption)
  refine OX.ac rfl rfl (WantE.yes rfl rfl rfl rfl) (Runs.mapOp ((by first | exact hF.out.1 | exact hF.out.2.1 | exact hF.out.2.2.1 | exact hF.out.2.2.2.1 | exact hF.out.2.2.2.2.1 | exact hF.out.2.2.2.2.2.1 | exact hF.out.2.2.2.2.2.2.1 | exact hF.out.2.2.2.2.2.2.2.1 | exact hF.out.2.2.2.2.2.2.2.2.1 | assumption)) (hM5.ext hx5) rfl rfl (fun h2 hE => by have := free_any h2 h1.size b A5 c5 _ ⟨0, 2⟩ (hM5.ext (hx5.trans hE)) ((hE5.trans (hx5.trans hE)).1); simp only [e3] at this; exact this) ?_)
  intro g6 A6 c6 h6 hG6 hC6 hE6 hM6 hV6
  have hs6 := hG6.1
  have ht6 := hC6.1
  replace hF := (((Know.nil h1).since (Ext.refl h1)).up hE6).since (Ext.refl h6)
  have cL : ∀ h', Ext h6 h' → FG Try.prog 21 [.pointer (some ⟨b, 0, none⟩)] h' (.int .i64 3) := fun h' hE => by
    have := left_any h' _ b A6 c6 _ (hM6.ext hE); rwa [e4] at this
  have cN : ∀ h', Ext h6 h' → FG Try.prog 22 [.pointer (some ⟨b, 0, none⟩)] h' (.int .i64 2) := fun h' hE => by
    have := long_any h' _ b A6 c6 _ (hM6.ext hE); rwa [show maxC 0 (hl [false, false, true, false] [false, false, true, false].length) = 2 from e5] at this
  focus
    refine OX.tagc ?_
    refine OX.p rfl rfl (WantE.yes rfl rfl rfl rfl) ?_
    refine OX.tagc ?_
    refine OX.q rfl (WantE.none rfl) (Qy.pick_fb rfl rfl rfl rfl) ?_
    refine OX.tagn ?_
    refine qT_n ?_
    refine EW.cond_f rfl rfl ?_
    refine EW.skip ?_
    refine qT_n ?_
    refine EW.seq ?_
    refine EW.sreg rfl ?_
    refine OX.tagc ?_
    refine OX.p rfl rfl (WantE.none rfl) ?_
    refine OX.tagc ?_
    (refine OX.gr rfl rfl (by first | exact WantE.none rfl | exact WantE.yes rfl rfl rfl (by first | assumption | rfl | exact decide_eq_true rfl)) (Gr.callG rfl rfl (fun h1 hE => cL h1 (((by first | exact hF.out.1 | exact hF.out.2.1 | exact hF.out.2.2.1 | exact hF.out.2.2.2.1 | exact hF.out.2.2.2.2.1 | exact hF.out.2.2.2.2.2.1 | exact hF.out.2.2.2.2.2.2.1 | exact hF.out.2.2.2.2.2.2.2.1 | exact hF.out.2.2.2.2.2.2.2.2.1 | assumption) : Ext h6 _).trans hE)) ?_); intro h_ hE; replace hF := hF.up hE)
    refine OX.tagc ?_
    refine OX.p rfl rfl (WantE.none rfl) ?_
    refine OX.tagc ?_
    refine OX.p rfl rfl (WantE.none rfl) ?_
    refine OX.tagc ?_
    refine OX.p rfl rfl (WantE.yes rfl rfl rfl rfl) ?_
    refine OX.tagc ?_
    (refine OX.gr rfl rfl (by first | exact WantE.none rfl | exact WantE.yes rfl rfl rfl (by first | assumption | rfl | exact decide_eq_true rfl)) (Gr.callG rfl rfl (fun h1 hE => cN h1 (((by first | exact hF.out.1 | exact hF.out.2.1 | exact hF.out.2.2.1 | exact hF.out.2.2.2.1 | exact hF.out.2.2.2.2.1 | exact hF.out.2.2.2.2.2.1 | exact hF.out.2.2.2.2.2.2.1 | exact hF.out.2.2.2.2.2.2.2.1 | exact hF.out.2.2.2.2.2.2.2.2.1 | assumption) : Ext h6 _).trans hE)) ?_); intro h_ hE; replace hF := hF.up hE)
    refine OX.tagc ?_
    refine OX.p rfl rfl (WantE.yes rfl rfl rfl rfl) ?_
    refine OX.tagc ?_
    refine OX.q rfl (WantE.none rfl) (Qy.pick_tb rfl rfl rfl rfl) ?_
    refine OX.tagc ?_
    refine OX.p rfl rfl (WantE.none rfl) ?_
    refine OX.tagc ?_
    refine OX.p rfl rfl (WantE.yes rfl rfl rfl rfl) ?_
    refine OX.tagc ?_
    rotate_left
  refine OX.gr rfl rfl (WantE.yes rfl rfl rfl rfl) (Gr.call (R := fun h2 v h' => ∃ A' c', v = .slice A' 2 c') rfl rfl (fun h2 hE => FC.mono (holes_any h2 _ b A6 c6 _ (hM6.ext (((by first | exact hF.out.1 | exact hF.out.2.1 | exact hF.out.2.2.1 | exact hF.out.2.2.2.1 | exact hF.out.2.2.2.2.1 | exact hF.out.2.2.2.2.2.1 | exact hF.out.2.2.2.2.2.2.1 | exact hF.out.2.2.2.2.2.2.2.1 | exact hF.out.2.2.2.2.2.2.2.2.1 | assumption) : Ext h6 _).trans hE))) (fun _ hb => hb) fun v h' _ ⟨A', c', hv, _⟩ => ⟨A', c', by rw [hv, show hl [false, false, true, false] [false, false, true, false].length = _ from e6]; rfl⟩) ?_)
  rintro h7 v h8 hE7 hE8 ⟨A7, c7, rfl⟩
  replace hF := hF.up (hE7.trans hE8)
  focus
    refine OX.tagc ?_
    refine OX.p rfl rfl (WantE.yes rfl rfl rfl rfl) ?_
    refine OX.tagc ?_
    refine OX.p rfl rfl (WantE.yes rfl rfl rfl rfl) ?_
    refine OX.tagc ?_
    refine OX.q rfl (WantE.none rfl) (Qy.pick_tb rfl rfl rfl rfl) ?_
    refine OX.tagc ?_
    refine OX.p rfl rfl (WantE.none rfl) ?_
    refine OX.tagc ?_
    refine OX.q rfl (by first | exact WantE.none rfl | exact WantE.yes rfl rfl rfl (by first | assumption | rfl | exact decide_eq_true rfl)) (Qy.call rfl rfl (fun h1 hE => for_c _ 129 (by decide))) ?_
    refine OX.tagc ?_
    refine OX.p rfl rfl (WantE.yes rfl rfl rfl rfl) ?_
    refine OX.tagc ?_
    refine OX.q rfl (WantE.none rfl) (Qy.pick_tb rfl rfl rfl rfl) ?_
    refine OX.tagc ?_
    refine OX.p rfl rfl (WantE.none rfl) ?_
    refine OX.tagn ?_
    refine qT_n ?_
    refine EW.ret ?_
    refine rQ_ret ?_
    refine Rets.one rfl ?_
    rotate_left
  exact ⟨Ext.chg (hX.trans (by first | exact hF.out.1 | exact hF.out.2.1 | exact hF.out.2.2.1 | exact hF.out.2.2.2.1 | exact hF.out.2.2.2.2.1 | exact hF.out.2.2.2.2.2.1 | exact hF.out.2.2.2.2.2.2.1 | exact hF.out.2.2.2.2.2.2.2.1 | exact hF.out.2.2.2.2.2.2.2.2.1 | assumption)) _, rfl⟩
end Go.Px.Ext_
