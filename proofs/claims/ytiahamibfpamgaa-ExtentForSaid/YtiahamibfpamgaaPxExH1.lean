/- Steps of a proof: contracts of functions, walked. -/
import Derived.Test.YtiahamibfpamgaaPxExH0
set_option linter.unusedVariables false
set_option linter.unusedSimpArgs false
set_option maxRecDepth 10000
namespace Go.Px.Ext_
open Go.Proofs Go.Px
set_option maxHeartbeats 4000000 in
theorem free_0 (h : Heap) (base b : Nat) (n : Int) (A : Option Addr) (c : Nat) (hs : List Ex) (hm : IsMap h base b n A c hs) (hn : 0 ≤ n ∧ n ≤ 4096) (hl : hs.length ≤ 1000000) (e : Ex) (he : mayB n e = true) (hfit : ∀ x ∈ hs, Sm x) (hf : oF hs e = false) (k : Nat)
    (kI : Int) (hkI : idxF (fun x : Ex => decide (e.first < x.first)) hs = kI) (hk : kI = -1 ∧ k = hs.length ∨ kI = k ∧ k < hs.length) (hbase : base ≤ h.size) (h0 : k = 0) :
    FC Try.prog 13 [.pointer (some ⟨b, 0, none⟩), exV e] h (b :: blk A) (fun v h' => v = .int .i64 0 ∧ ∃ A' c', IsMap h' base b n A' c' (freeH hs k e) ∧ Moved h A A') := by
  refine FC.of_EW (fun a w => Try.call13 a w) Try.func13 rfl rfl fun s h1 hX => ?_
  have hF := ((((Know.nil h1).since (Ext.refl h1)).since hX).rd (hm.2.1.rd.ext hX)).blk (hm.1.ext hX)
  have hK := hF
  have heb := mayB_fit hn he
  have hfit' : ∀ x ∈ hs, Fit x := fun x hx => (hfit x hx).fit
  have hs0 := hX.1
  have hkle : k ≤ hs.length := by omega
  have hbL : 0 < k → Sm (ix hs ((k : Int) - 1)) := fun h0 => hfit _ (ix_mem (by omega) (by omega))
  have hbR : k < hs.length → Sm (ix hs (k : Int)) := fun h0 => hfit _ (ix_mem (by omega) (by omega))
  have hE0 : Fit e := ⟨by omega, by omega⟩
  have hml : mL hs k e = e := if_neg (by omega)
  have hi0 : frL hs k e = k := if_neg (by omega)
  by_cases hR : k < hs.length ∧ e.first + e.count = (ix hs (k : Int)).first
  · have hR2 := hR.2
    have hR1 := hbR hR.1
    unfold Sm at hR1
    rcases hk with ⟨rfl, hk⟩ | ⟨rfl, hk⟩
    · omega
    focus
      refine EW.seq ?_
      refine EW.sreg rfl ?_
      refine OX.tagc ?_
      (refine OX.gr rfl rfl (WantE.none rfl) (Gr.boxF rfl rfl ?_); intro b_ h_ hb_ hE hB; have hz_ := hE.1; replace hF := (hF.up hE).blk hB)
      refine OX.tagc ?_
      refine OX.p rfl rfl (WantE.none rfl) ?_
      refine OX.tagn ?_
      refine qT_n ?_
      refine EW.seq ?_
      refine EW.seq ?_
      refine EW.sreg rfl ?_
      refine OX.tagc ?_
      refine OX.p rfl rfl (WantE.none rfl) ?_
      refine OX.tagc ?_
      refine OX.q rfl (WantE.none rfl) (Qy.loadk rfl rfl rfl rfl (Blk.at0 hF.out.1)) ?_
      refine OX.tagc ?_
      refine OX.q rfl (by first | exact WantE.none rfl | exact WantE.yes rfl rfl rfl (by first | assumption | rfl | exact decide_eq_true rfl)) (Qy.call rfl rfl (fun h1 hE => may_y _ b n _ e true (Blk.ext (by first | exact hF.out.1 | exact hF.out.2.1 | exact hF.out.2.2.1 | exact hF.out.2.2.2.1 | exact hF.out.2.2.2.2.1 | exact hF.out.2.2.2.2.2.1 | exact hF.out.2.2.2.2.2.2.1 | exact hF.out.2.2.2.2.2.2.2.1 | exact hF.out.2.2.2.2.2.2.2.2.1 | assumption) hE) (by omega) he)) ?_
      refine OX.tagc ?_
      refine OX.p rfl rfl (WantE.none rfl) ?_
      refine OX.tagn ?_
      refine qT_n ?_
      refine EW.cond_f rfl rfl ?_
      refine EW.skip ?_
      refine qT_n ?_
      refine EW.seq ?_
      refine EW.seq ?_
      refine EW.sreg rfl ?_
      refine OX.tagc ?_
      refine OX.p rfl rfl (WantE.none rfl) ?_
      refine OX.tagc ?_
      refine OX.p rfl rfl (WantE.none rfl) ?_
      refine OX.tagc ?_
      refine OX.p rfl rfl (WantE.none rfl) ?_
      refine OX.tagc ?_
      refine OX.q rfl (WantE.none rfl) (Qy.load1 rfl rfl rfl (Blk.cell hF.out.2.1 rfl rfl)) ?_
      refine OX.tagc ?_
      refine OX.q rfl (WantE.none rfl) (Qy.makeFuncF rfl rfl) ?_
      refine OX.tagc ?_
      refine OX.q rfl (by first | exact WantE.none rfl | exact WantE.yes rfl rfl rfl (by first | assumption | rfl | exact decide_eq_true rfl)) (Qy.call rfl rfl (fun h1 hE => con_c A c hs e hl hfit' hE0 false hf _ _ (Rd.ext (by first | exact hF.out.1 | exact hF.out.2.1 | exact hF.out.2.2.1 | exact hF.out.2.2.2.1 | exact hF.out.2.2.2.2.1 | exact hF.out.2.2.2.2.2.1 | exact hF.out.2.2.2.2.2.2.1 | exact hF.out.2.2.2.2.2.2.2.1 | exact hF.out.2.2.2.2.2.2.2.2.1 | assumption) hE) (Blk.ext (by first | exact hF.out.1 | exact hF.out.2.1 | exact hF.out.2.2.1 | exact hF.out.2.2.2.1 | exact hF.out.2.2.2.2.1 | exact hF.out.2.2.2.2.2.1 | exact hF.out.2.2.2.2.2.2.1 | exact hF.out.2.2.2.2.2.2.2.1 | exact hF.out.2.2.2.2.2.2.2.2.1 | assumption) hE))) ?_
      refine OX.tagn ?_
      refine qT_n ?_
      refine EW.cond_f rfl rfl ?_
      refine EW.skip ?_
      refine qT_n ?_
      refine EW.seq ?_
      refine EW.sreg rfl ?_
      refine OX.tagc ?_
      refine OX.p rfl rfl (WantE.none rfl) ?_
      refine OX.tagc ?_
      refine OX.p rfl rfl (WantE.none rfl) ?_
      refine OX.tagc ?_
      refine OX.p rfl rfl (WantE.none rfl) ?_
      refine OX.tagc ?_
      refine OX.q rfl (WantE.none rfl) (Qy.load1 rfl rfl rfl (Blk.cell hF.out.2.1 rfl rfl)) ?_
      refine OX.tagc ?_
      refine OX.q rfl (WantE.none rfl) (Qy.makeFuncF rfl rfl) ?_
      refine OX.tagc ?_
      refine OX.q rfl (by first | exact WantE.none rfl | exact WantE.yes rfl rfl rfl (by first | assumption | rfl | exact decide_eq_true rfl)) (Qy.call rfl rfl (fun h1 hE => idx2_c A c hs e hl _ hkI _ _ (Rd.ext (by first | exact hF.out.1 | exact hF.out.2.1 | exact hF.out.2.2.1 | exact hF.out.2.2.2.1 | exact hF.out.2.2.2.2.1 | exact hF.out.2.2.2.2.2.1 | exact hF.out.2.2.2.2.2.2.1 | exact hF.out.2.2.2.2.2.2.2.1 | exact hF.out.2.2.2.2.2.2.2.2.1 | assumption) hE) (Blk.ext (by first | exact hF.out.1 | exact hF.out.2.1 | exact hF.out.2.2.1 | exact hF.out.2.2.2.1 | exact hF.out.2.2.2.2.1 | exact hF.out.2.2.2.2.2.1 | exact hF.out.2.2.2.2.2.2.1 | exact hF.out.2.2.2.2.2.2.2.1 | exact hF.out.2.2.2.2.2.2.2.2.1 | assumption) hE))) ?_
      refine OX.tagc ?_
      refine OX.p rfl rfl (WantE.none rfl) ?_
      refine OX.tagn ?_
      refine qT_n ?_
      refine EW.seq ?_
      refine EW.seq ?_
      refine EW.sreg rfl ?_
      refine OX.tagc ?_
      refine OX.p rfl rfl (WantE.none rfl) ?_
      refine OX.tagc ?_
      refine OX.p rfl rfl (WantE.none rfl) ?_
      refine OX.tagn ?_
      refine qT_n ?_
      refine EW.cond_f rfl rfl ?_
      refine EW.skip ?_
      refine qT_n ?_
      refine EW.seq ?_
      refine EW.sreg rfl ?_
      refine OX.tagc ?_
      refine OX.p rfl rfl (WantE.none rfl) ?_
      refine OX.tagc ?_
      refine OX.p rfl rfl (WantE.none rfl) ?_
      refine OX.tagc ?_
      refine OX.p rfl rfl (WantE.none rfl) ?_
      refine OX.tagc ?_
      refine OX.p rfl rfl (WantE.none rfl) ?_
      refine OX.tagn ?_
      refine qT_n ?_
      refine EW.seq ?_
      refine EW.seq ?_
      (refine EW.drawT ord13 tab13 rfl (by kernel_rfl) (by kernel_rfl) (by kernel_rfl) ?_)
      refine OX.p rfl rfl (WantE.none rfl) ?_
      refine OX.p rfl rfl (WantE.none rfl) ?_
      refine OX.p rfl rfl (WantE.none rfl) ?_
      refine OX.gsplit rfl rfl rfl ?_ ?_
      intro hb
      have hb' := of_decide_eq_true hb
      (exfalso; omega)
      intro hb
      have hb' := of_decide_eq_false hb
      refine OX.sk rfl (WantE.no rfl rfl rfl (by assumption)) ?_
      refine OX.sk rfl (WantE.no rfl rfl rfl (by assumption)) ?_
      refine OX.sk rfl (WantE.no rfl rfl rfl (by assumption)) ?_
      refine OX.sk rfl (WantE.no rfl rfl rfl (by assumption)) ?_
      refine OX.sk rfl (WantE.no rfl rfl rfl (by assumption)) ?_
      refine OX.sk rfl (WantE.no rfl rfl rfl (by assumption)) ?_
      refine OX.sk rfl (WantE.no rfl rfl rfl (by assumption)) ?_
      refine OX.sk rfl (WantE.no rfl rfl rfl (by assumption)) ?_
      refine OX.sk rfl (WantE.no rfl rfl rfl (by assumption)) ?_
      refine OX.sk rfl (WantE.no rfl rfl rfl (by assumption)) ?_
      refine OX.sk rfl (WantE.no rfl rfl rfl (by assumption)) ?_
      refine OX.sk rfl (WantE.no rfl rfl rfl (by assumption)) ?_
      refine OX.q rfl (WantE.none rfl) (Qy.pick_fb rfl rfl rfl (by assumption)) ?_
      refine OX.nil ?_
      refine qT_n ?_
      refine EW.cond_f rfl rfl ?_
      refine EW.skip ?_
      refine qT_n ?_
      refine EW.seq ?_
      refine EW.seq ?_
      (refine EW.drawT ord13 tab13 rfl (by kernel_rfl) (by kernel_rfl) (by kernel_rfl) ?_)
      refine OX.p rfl rfl (WantE.none rfl) ?_
      refine OX.p rfl rfl (WantE.none rfl) ?_
      refine OX.p rfl rfl (WantE.none rfl) ?_
      refine OX.p rfl rfl (WantE.none rfl) ?_
      refine OX.q rfl (WantE.none rfl) (Qy.load1 rfl rfl rfl (Blk.cell hF.out.2.1 rfl rfl)) ?_
      refine OX.p rfl rfl (WantE.none rfl) ?_
      refine OX.p rfl rfl (WantE.none rfl) ?_
      refine OX.p rfl rfl (WantE.none rfl) ?_
      refine OX.gsplit rfl rfl rfl ?_ ?_
      intro hb
      have hb' := of_decide_eq_true hb
      refine OX.q rfl (WantE.yes rfl rfl rfl (by assumption)) (Qy.loadk rfl rfl rfl rfl (Blk.at0 hF.out.1)) ?_
      refine OX.p rfl rfl (WantE.yes rfl rfl rfl (by assumption)) ?_
      refine OX.p rfl rfl (WantE.yes rfl rfl rfl (by assumption)) ?_
      refine OX.p rfl rfl (WantE.yes rfl rfl rfl (by assumption)) ?_
      refine OX.q rfl (WantE.yes rfl rfl rfl (by assumption)) (Qy.load1 rfl rfl rfl (Blk.cell hF.out.2.1 rfl rfl)) ?_
      refine OX.p rfl rfl (WantE.yes rfl rfl rfl (by assumption)) ?_
      refine OX.q rfl (WantE.yes rfl rfl rfl (by assumption)) (Qy.indexRd rfl rfl rfl rfl rfl hF.out.2.2.1 rfl (by omega)) ?_
      refine OX.p rfl rfl (WantE.yes rfl rfl rfl (by assumption)) ?_
      refine OX.q rfl (WantE.yes rfl rfl rfl (by assumption)) (Qy.loadEl rfl rfl rfl hF.out.2.2.1 rfl (by omega) rfl) ?_
      refine OX.q rfl (by first | exact WantE.none rfl | exact WantE.yes rfl rfl rfl (by first | assumption | rfl | exact decide_eq_true rfl)) (Qy.call rfl rfl (fun h1 hE => ec_ _ e hE0.1 hE0.2)) ?_
      refine OX.p rfl rfl (WantE.yes rfl rfl rfl (by assumption)) ?_
      refine OX.q rfl (WantE.none rfl) (Qy.pick_tb rfl rfl rfl (by assumption)) ?_
      refine OX.nil ?_
      refine qT_n ?_
      refine EW.cond rfl ?_ ?_
      intro hb
      have hb' := of_decide_eq_true hb
      refine EW.seq ?_
      refine EW.sreg rfl ?_
      refine OX.tagc ?_
      refine OX.p rfl rfl (WantE.none rfl) ?_
      refine OX.tagc ?_
      refine OX.q rfl (WantE.none rfl) (Qy.addi rfl rfl rfl (by omega)) ?_
      refine OX.tagc ?_
      refine OX.p rfl rfl (WantE.none rfl) ?_
      refine OX.tagn ?_
      refine qT_n ?_
      (refine EW.drawT ord13 tab13 rfl (by kernel_rfl) (by kernel_rfl) (by kernel_rfl) ?_)
      refine OX.p rfl rfl (WantE.none rfl) ?_
      refine OX.q rfl (WantE.none rfl) (Qy.load1 rfl rfl rfl (Blk.cell hF.out.1 rfl rfl)) ?_
      refine OX.p rfl rfl (WantE.none rfl) ?_
      refine OX.p rfl rfl (WantE.none rfl) ?_
      refine OX.p rfl rfl (WantE.none rfl) ?_
      refine OX.q rfl (WantE.none rfl) (Qy.load1 rfl rfl rfl (Blk.cell hF.out.2.1 rfl rfl)) ?_
      refine OX.p rfl rfl (WantE.none rfl) ?_
      refine OX.q rfl (WantE.none rfl) (Qy.indexRd rfl rfl rfl rfl rfl hF.out.2.2.1 rfl (by omega)) ?_
      refine OX.p rfl rfl (WantE.none rfl) ?_
      refine OX.q rfl (WantE.none rfl) (Qy.loadEl rfl rfl rfl hF.out.2.2.1 rfl (by omega) rfl) ?_
      refine OX.q rfl (WantE.none rfl) (Qy.addi rfl rfl rfl (by omega)) ?_
      refine OX.p rfl rfl (WantE.none rfl) ?_
      rotate_left
      intro hb
      have hb' := of_decide_eq_false hb
      (exfalso; omega)
      intro hb
      have hb' := of_decide_eq_false hb
      (exfalso; omega)
    refine OX.ac0 rfl rfl (WantE.none rfl) (Runs.storeF rfl rfl rfl rfl rfl hF.out.1 rfl rfl rfl ?_)
    intro h5 hC5 hB5
    have hX5 : Ext h1 h5 := Chg.fresh (by first | exact hF.out.1 | exact hF.out.2.1 | exact hF.out.2.2.1 | exact hF.out.2.2.2.1 | exact hF.out.2.2.2.2.1 | exact hF.out.2.2.2.2.2.1 | exact hF.out.2.2.2.2.2.2.1 | exact hF.out.2.2.2.2.2.2.2.1 | exact hF.out.2.2.2.2.2.2.2.2.1 | assumption) hC5 (by intro m hm; rw [List.mem_singleton] at hm; subst hm; omega)
    replace hF := (hK.up hX5).blk hB5
    focus
      refine OX.nil ?_
      refine qT_n ?_
      refine EW.seq ?_
      (refine EW.drawT ord13 tab13 rfl (by kernel_rfl) (by kernel_rfl) (by kernel_rfl) ?_)
      refine OX.p rfl rfl (WantE.none rfl) ?_
      refine OX.p rfl rfl (WantE.none rfl) ?_
      refine OX.p rfl rfl (WantE.none rfl) ?_
      refine OX.p rfl rfl (WantE.none rfl) ?_
      refine OX.q rfl (WantE.none rfl) (Qy.load1 rfl rfl rfl (Blk.cell hF.out.2.1 rfl rfl)) ?_
      refine OX.p rfl rfl (WantE.none rfl) ?_
      refine OX.p rfl rfl (WantE.none rfl) ?_
      refine OX.q rfl (WantE.none rfl) (Qy.loadk rfl rfl rfl rfl (Blk.at0 hF.out.1)) ?_
      rotate_left
    refine OX.gr rfl rfl (WantE.none rfl) (Gr.lit (xs := [(⟨e.first, e.count + (ix hs (k : Int)).count⟩ : Ex)]) (bytes := 16) rfl rfl rfl rfl rfl rfl (by decide) ?_)
    intro b1 h6 hb1 hE1 hlt1 hO1
    have hX6 : Ext h1 h6 := ((by first | exact hF.out.1 | exact hF.out.2.1 | exact hF.out.2.2.1 | exact hF.out.2.2.2.1 | exact hF.out.2.2.2.2.1 | exact hF.out.2.2.2.2.2.1 | exact hF.out.2.2.2.2.2.2.1 | exact hF.out.2.2.2.2.2.2.2.1 | exact hF.out.2.2.2.2.2.2.2.2.1 | assumption) : Ext h1 _).trans hE1
    have hz6 := hX6.1
    have hz7 := ((by first | exact hF.out.1 | exact hF.out.2.1 | exact hF.out.2.2.1 | exact hF.out.2.2.2.1 | exact hF.out.2.2.2.2.1 | exact hF.out.2.2.2.2.2.1 | exact hF.out.2.2.2.2.2.2.1 | exact hF.out.2.2.2.2.2.2.2.1 | exact hF.out.2.2.2.2.2.2.2.2.1 | assumption) : Ext h1 _).1
    replace hF := (hK.up hX6).own hO1
    focus
      rotate_left
    refine OX.ac rfl rfl (WantE.none rfl) (Runs.call (M := blk A) (R := fun h2 => RowPost h2 base 35 A (hs.take k ++ [(⟨e.first, e.count + (ix hs (k : Int)).count⟩ : Ex)] ++ hs.drop (k + 1))) rfl rfl (fun h2 hE => replace_i h2 base A c hs k (k + 1) _ _ _ _ [(⟨e.first, e.count + (ix hs (k : Int)).count⟩ : Ex)] (by omega) (by omega) (hm.2.1.ext ((hX.trans hX6).trans hE)) ((hO1.mono (Nat.zero_le _)).ext hE) ?_ (by omega) (by omega) (by have := hE.1; omega) ?_) ?_)
    · intro x hx hx2; have := hm.2.1.blk_lt x hx; have := hO1.blk_ge x hx2; omega
    · simp only [List.length_cons, List.length_nil]; omega
    rintro h7 v h8 hE7 hC8 ⟨A', c', rfl, hO8, hM8⟩
    have hX7 : Ext h h7 := (hX.trans hX6).trans hE7
    have hB8 := (hm.1.ext hX7).chg hC8 hm.2.2.1
    focus
      refine OX.p rfl rfl (WantE.none rfl) ?_
      refine OX.p rfl rfl (WantE.none rfl) ?_
      rotate_left
    refine OX.ac0 rfl rfl (WantE.none rfl) (Runs.storeF rfl rfl rfl rfl rfl hB8 rfl rfl rfl ?_)
    intro h9 hC9 hB9
    replace hF := Know.nil h9
    focus
      refine OX.nil ?_
      refine qT_n ?_
      refine EW.seq ?_
      refine EW.sreg rfl ?_
      refine OX.tagc ?_
      refine OX.p rfl rfl (WantE.none rfl) ?_
      refine OX.tagn ?_
      refine qT_n ?_
      refine EW.ret ?_
      refine rQ_ret ?_
      refine Rets.one rfl ?_
      rotate_left
    refine ⟨Chg.of_ext_left hX7 ((hC8.mono (fun x _ hx => List.mem_cons_of_mem _ hx)).trans (hC9.mono (fun x _ hx => by simp only [List.mem_singleton] at hx; subst hx; exact List.mem_cons_self))), rfl, A', c', doneF hi0.symm (by rw [hml]; exact (if_pos hR).symm) (by rw [hml]; exact (if_pos hR).symm) ⟨hB9, hO8.chg hC9 ?_, ?_, hm.2.2.2⟩, ?_⟩
    · intro x hx hx2
      have hxb : x = b := by simpa using hx2
      subst hxb
      rcases hM8 with hM8 | hM8
      · rw [hM8] at hx; exact hm.2.2.1 hx
      · have := hM8 x hx; have := hX7.1; have := hm.1.lt; omega
    · intro hx
      rcases hM8 with hM8 | hM8
      · rw [hM8] at hx; exact hm.2.2.1 hx
      · have := hM8 b hx; have := hX7.1; have := hm.1.lt; omega
    · rcases hM8 with hM8 | hM8
      · exact .inl hM8
      · exact .inr fun x hx => Nat.le_trans hX7.1 (hM8 x hx)
  · rcases hk with ⟨rfl, hk⟩ | ⟨rfl, hk⟩
    · focus
        refine EW.seq ?_
        refine EW.sreg rfl ?_
        refine OX.tagc ?_
        (refine OX.gr rfl rfl (WantE.none rfl) (Gr.boxF rfl rfl ?_); intro b_ h_ hb_ hE hB; have hz_ := hE.1; replace hF := (hF.up hE).blk hB)
        refine OX.tagc ?_
        refine OX.p rfl rfl (WantE.none rfl) ?_
        refine OX.tagn ?_
        refine qT_n ?_
        refine EW.seq ?_
        refine EW.seq ?_
        refine EW.sreg rfl ?_
        refine OX.tagc ?_
        refine OX.p rfl rfl (WantE.none rfl) ?_
        refine OX.tagc ?_
        refine OX.q rfl (WantE.none rfl) (Qy.loadk rfl rfl rfl rfl (Blk.at0 hF.out.1)) ?_
        refine OX.tagc ?_
        refine OX.q rfl (by first | exact WantE.none rfl | exact WantE.yes rfl rfl rfl (by first | assumption | rfl | exact decide_eq_true rfl)) (Qy.call rfl rfl (fun h1 hE => may_y _ b n _ e true (Blk.ext (by first | exact hF.out.1 | exact hF.out.2.1 | exact hF.out.2.2.1 | exact hF.out.2.2.2.1 | exact hF.out.2.2.2.2.1 | exact hF.out.2.2.2.2.2.1 | exact hF.out.2.2.2.2.2.2.1 | exact hF.out.2.2.2.2.2.2.2.1 | exact hF.out.2.2.2.2.2.2.2.2.1 | assumption) hE) (by omega) he)) ?_
        refine OX.tagc ?_
        refine OX.p rfl rfl (WantE.none rfl) ?_
        refine OX.tagn ?_
        refine qT_n ?_
        refine EW.cond_f rfl rfl ?_
        refine EW.skip ?_
        refine qT_n ?_
        refine EW.seq ?_
        refine EW.seq ?_
        refine EW.sreg rfl ?_
        refine OX.tagc ?_
        refine OX.p rfl rfl (WantE.none rfl) ?_
        refine OX.tagc ?_
        refine OX.p rfl rfl (WantE.none rfl) ?_
        refine OX.tagc ?_
        refine OX.p rfl rfl (WantE.none rfl) ?_
        refine OX.tagc ?_
        refine OX.q rfl (WantE.none rfl) (Qy.load1 rfl rfl rfl (Blk.cell hF.out.2.1 rfl rfl)) ?_
        refine OX.tagc ?_
        refine OX.q rfl (WantE.none rfl) (Qy.makeFuncF rfl rfl) ?_
        refine OX.tagc ?_
        refine OX.q rfl (by first | exact WantE.none rfl | exact WantE.yes rfl rfl rfl (by first | assumption | rfl | exact decide_eq_true rfl)) (Qy.call rfl rfl (fun h1 hE => con_c A c hs e hl hfit' hE0 false hf _ _ (Rd.ext (by first | exact hF.out.1 | exact hF.out.2.1 | exact hF.out.2.2.1 | exact hF.out.2.2.2.1 | exact hF.out.2.2.2.2.1 | exact hF.out.2.2.2.2.2.1 | exact hF.out.2.2.2.2.2.2.1 | exact hF.out.2.2.2.2.2.2.2.1 | exact hF.out.2.2.2.2.2.2.2.2.1 | assumption) hE) (Blk.ext (by first | exact hF.out.1 | exact hF.out.2.1 | exact hF.out.2.2.1 | exact hF.out.2.2.2.1 | exact hF.out.2.2.2.2.1 | exact hF.out.2.2.2.2.2.1 | exact hF.out.2.2.2.2.2.2.1 | exact hF.out.2.2.2.2.2.2.2.1 | exact hF.out.2.2.2.2.2.2.2.2.1 | assumption) hE))) ?_
        refine OX.tagn ?_
        refine qT_n ?_
        refine EW.cond_f rfl rfl ?_
        refine EW.skip ?_
        refine qT_n ?_
        refine EW.seq ?_
        refine EW.sreg rfl ?_
        refine OX.tagc ?_
        refine OX.p rfl rfl (WantE.none rfl) ?_
        refine OX.tagc ?_
        refine OX.p rfl rfl (WantE.none rfl) ?_
        refine OX.tagc ?_
        refine OX.p rfl rfl (WantE.none rfl) ?_
        refine OX.tagc ?_
        refine OX.q rfl (WantE.none rfl) (Qy.load1 rfl rfl rfl (Blk.cell hF.out.2.1 rfl rfl)) ?_
        refine OX.tagc ?_
        refine OX.q rfl (WantE.none rfl) (Qy.makeFuncF rfl rfl) ?_
        refine OX.tagc ?_
        refine OX.q rfl (by first | exact WantE.none rfl | exact WantE.yes rfl rfl rfl (by first | assumption | rfl | exact decide_eq_true rfl)) (Qy.call rfl rfl (fun h1 hE => idx2_c A c hs e hl _ hkI _ _ (Rd.ext (by first | exact hF.out.1 | exact hF.out.2.1 | exact hF.out.2.2.1 | exact hF.out.2.2.2.1 | exact hF.out.2.2.2.2.1 | exact hF.out.2.2.2.2.2.1 | exact hF.out.2.2.2.2.2.2.1 | exact hF.out.2.2.2.2.2.2.2.1 | exact hF.out.2.2.2.2.2.2.2.2.1 | assumption) hE) (Blk.ext (by first | exact hF.out.1 | exact hF.out.2.1 | exact hF.out.2.2.1 | exact hF.out.2.2.2.1 | exact hF.out.2.2.2.2.1 | exact hF.out.2.2.2.2.2.1 | exact hF.out.2.2.2.2.2.2.1 | exact hF.out.2.2.2.2.2.2.2.1 | exact hF.out.2.2.2.2.2.2.2.2.1 | assumption) hE))) ?_
        refine OX.tagc ?_
        refine OX.p rfl rfl (WantE.none rfl) ?_
        refine OX.tagn ?_
        refine qT_n ?_
        refine EW.seq ?_
        refine EW.seq ?_
        refine EW.sreg rfl ?_
        refine OX.tagc ?_
        refine OX.p rfl rfl (WantE.none rfl) ?_
        refine OX.tagc ?_
        refine OX.p rfl rfl (WantE.none rfl) ?_
        refine OX.tagn ?_
        refine qT_n ?_
        refine EW.cond_t rfl rfl ?_
        refine EW.sreg rfl ?_
        refine OX.tagc ?_
        refine OX.p rfl rfl (WantE.none rfl) ?_
        refine OX.tagc ?_
        refine OX.p rfl rfl (WantE.none rfl) ?_
        refine OX.tagc ?_
        refine OX.p rfl rfl (WantE.none rfl) ?_
        refine OX.tagc ?_
        refine OX.q rfl (WantE.none rfl) (Qy.load1 rfl rfl rfl (Blk.cell hF.out.2.1 rfl rfl)) ?_
        refine OX.tagc ?_
        refine OX.p rfl rfl (WantE.none rfl) ?_
        refine OX.tagc ?_
        refine OX.p rfl rfl (WantE.none rfl) ?_
        refine OX.tagn ?_
        refine qT_n ?_
        refine EW.seq ?_
        refine EW.sreg rfl ?_
        refine OX.tagc ?_
        refine OX.p rfl rfl (WantE.none rfl) ?_
        refine OX.tagc ?_
        refine OX.p rfl rfl (WantE.none rfl) ?_
        refine OX.tagc ?_
        refine OX.p rfl rfl (WantE.none rfl) ?_
        refine OX.tagc ?_
        refine OX.p rfl rfl (WantE.none rfl) ?_
        refine OX.tagn ?_
        refine qT_n ?_
        refine EW.seq ?_
        refine EW.seq ?_
        (refine EW.drawT ord13 tab13 rfl (by kernel_rfl) (by kernel_rfl) (by kernel_rfl) ?_)
        refine OX.p rfl rfl (WantE.none rfl) ?_
        refine OX.p rfl rfl (WantE.none rfl) ?_
        refine OX.p rfl rfl (WantE.none rfl) ?_
        refine OX.gsplit rfl rfl rfl ?_ ?_
        intro hb
        have hb' := of_decide_eq_true hb
        (exfalso; omega)
        intro hb
        have hb' := of_decide_eq_false hb
        refine OX.sk rfl (WantE.no rfl rfl rfl (by assumption)) ?_
        refine OX.sk rfl (WantE.no rfl rfl rfl (by assumption)) ?_
        refine OX.sk rfl (WantE.no rfl rfl rfl (by assumption)) ?_
        refine OX.sk rfl (WantE.no rfl rfl rfl (by assumption)) ?_
        refine OX.sk rfl (WantE.no rfl rfl rfl (by assumption)) ?_
        refine OX.sk rfl (WantE.no rfl rfl rfl (by assumption)) ?_
        refine OX.sk rfl (WantE.no rfl rfl rfl (by assumption)) ?_
        refine OX.sk rfl (WantE.no rfl rfl rfl (by assumption)) ?_
        refine OX.sk rfl (WantE.no rfl rfl rfl (by assumption)) ?_
        refine OX.sk rfl (WantE.no rfl rfl rfl (by assumption)) ?_
        refine OX.sk rfl (WantE.no rfl rfl rfl (by assumption)) ?_
        refine OX.sk rfl (WantE.no rfl rfl rfl (by assumption)) ?_
        refine OX.q rfl (WantE.none rfl) (Qy.pick_fb rfl rfl rfl (by assumption)) ?_
        refine OX.nil ?_
        refine qT_n ?_
        refine EW.cond_f rfl rfl ?_
        refine EW.skip ?_
        refine qT_n ?_
        refine EW.seq ?_
        refine EW.seq ?_
        (refine EW.drawT ord13 tab13 rfl (by kernel_rfl) (by kernel_rfl) (by kernel_rfl) ?_)
        refine OX.p rfl rfl (WantE.none rfl) ?_
        refine OX.p rfl rfl (WantE.none rfl) ?_
        refine OX.p rfl rfl (WantE.none rfl) ?_
        refine OX.p rfl rfl (WantE.none rfl) ?_
        refine OX.q rfl (WantE.none rfl) (Qy.load1 rfl rfl rfl (Blk.cell hF.out.2.1 rfl rfl)) ?_
        refine OX.p rfl rfl (WantE.none rfl) ?_
        refine OX.p rfl rfl (WantE.none rfl) ?_
        refine OX.p rfl rfl (WantE.none rfl) ?_
        refine OX.gsplit rfl rfl rfl ?_ ?_
        intro hb
        have hb' := of_decide_eq_true hb
        (exfalso; omega)
        intro hb
        have hb' := of_decide_eq_false hb
        refine OX.sk rfl (WantE.no rfl rfl rfl (by assumption)) ?_
        refine OX.sk rfl (WantE.no rfl rfl rfl (by assumption)) ?_
        refine OX.sk rfl (WantE.no rfl rfl rfl (by assumption)) ?_
        refine OX.sk rfl (WantE.no rfl rfl rfl (by assumption)) ?_
        refine OX.sk rfl (WantE.no rfl rfl rfl (by assumption)) ?_
        refine OX.sk rfl (WantE.no rfl rfl rfl (by assumption)) ?_
        refine OX.sk rfl (WantE.no rfl rfl rfl (by assumption)) ?_
        refine OX.sk rfl (WantE.no rfl rfl rfl (by assumption)) ?_
        refine OX.sk rfl (WantE.no rfl rfl rfl (by assumption)) ?_
        refine OX.sk rfl (WantE.no rfl rfl rfl (by assumption)) ?_
        refine OX.sk rfl (WantE.no rfl rfl rfl (by assumption)) ?_
        refine OX.q rfl (WantE.none rfl) (Qy.pick_fb rfl rfl rfl (by assumption)) ?_
        refine OX.nil ?_
        refine qT_n ?_
        refine EW.cond_f rfl rfl ?_
        refine EW.skip ?_
        refine qT_n ?_
        refine EW.seq ?_
        (refine EW.drawT ord13 tab13 rfl (by kernel_rfl) (by kernel_rfl) (by kernel_rfl) ?_)
        refine OX.p rfl rfl (WantE.none rfl) ?_
        refine OX.p rfl rfl (WantE.none rfl) ?_
        refine OX.p rfl rfl (WantE.none rfl) ?_
        refine OX.p rfl rfl (WantE.none rfl) ?_
        refine OX.q rfl (WantE.none rfl) (Qy.load1 rfl rfl rfl (Blk.cell hF.out.2.1 rfl rfl)) ?_
        refine OX.p rfl rfl (WantE.none rfl) ?_
        refine OX.p rfl rfl (WantE.none rfl) ?_
        refine OX.q rfl (WantE.none rfl) (Qy.loadk rfl rfl rfl rfl (Blk.at0 hF.out.1)) ?_
        rotate_left
      refine OX.gr rfl rfl (WantE.none rfl) (Gr.lit (xs := [e]) (bytes := 16) rfl rfl rfl rfl rfl rfl (by decide) ?_)
      intro b1 h6 hb1 hE1 hlt1 hO1
      have hX6 : Ext h1 h6 := ((by first | exact hF.out.1 | exact hF.out.2.1 | exact hF.out.2.2.1 | exact hF.out.2.2.2.1 | exact hF.out.2.2.2.2.1 | exact hF.out.2.2.2.2.2.1 | exact hF.out.2.2.2.2.2.2.1 | exact hF.out.2.2.2.2.2.2.2.1 | exact hF.out.2.2.2.2.2.2.2.2.1 | assumption) : Ext h1 _).trans hE1
      have hz6 := hX6.1
      have hz7 := ((by first | exact hF.out.1 | exact hF.out.2.1 | exact hF.out.2.2.1 | exact hF.out.2.2.2.1 | exact hF.out.2.2.2.2.1 | exact hF.out.2.2.2.2.2.1 | exact hF.out.2.2.2.2.2.2.1 | exact hF.out.2.2.2.2.2.2.2.1 | exact hF.out.2.2.2.2.2.2.2.2.1 | assumption) : Ext h1 _).1
      replace hF := (hK.up hX6).own hO1
      focus
        rotate_left
      refine OX.ac rfl rfl (WantE.none rfl) (Runs.call (M := blk A) (R := fun h2 => RowPost h2 base 35 A (hs.take k ++ [e] ++ hs.drop k)) rfl rfl (fun h2 hE => replace_i h2 base A c hs k k _ _ _ _ [e] (by omega) (by omega) (hm.2.1.ext ((hX.trans hX6).trans hE)) ((hO1.mono (Nat.zero_le _)).ext hE) ?_ (by omega) (by omega) (by have := hE.1; omega) ?_) ?_)
      · intro x hx hx2; have := hm.2.1.blk_lt x hx; have := hO1.blk_ge x hx2; omega
      · simp only [List.length_cons, List.length_nil]; omega
      rintro h7 v h8 hE7 hC8 ⟨A', c', rfl, hO8, hM8⟩
      have hX7 : Ext h h7 := (hX.trans hX6).trans hE7
      have hB8 := (hm.1.ext hX7).chg hC8 hm.2.2.1
      focus
        refine OX.p rfl rfl (WantE.none rfl) ?_
        refine OX.p rfl rfl (WantE.none rfl) ?_
        rotate_left
      refine OX.ac0 rfl rfl (WantE.none rfl) (Runs.storeF rfl rfl rfl rfl rfl hB8 rfl rfl rfl ?_)
      intro h9 hC9 hB9
      replace hF := Know.nil h9
      focus
        refine OX.nil ?_
        refine qT_n ?_
        refine EW.seq ?_
        refine EW.sreg rfl ?_
        refine OX.tagc ?_
        refine OX.p rfl rfl (WantE.none rfl) ?_
        refine OX.tagn ?_
        refine qT_n ?_
        refine EW.ret ?_
        refine rQ_ret ?_
        refine Rets.one rfl ?_
        rotate_left
      refine ⟨Chg.of_ext_left hX7 ((hC8.mono (fun x _ hx => List.mem_cons_of_mem _ hx)).trans (hC9.mono (fun x _ hx => by simp only [List.mem_singleton] at hx; subst hx; exact List.mem_cons_self))), rfl, A', c', doneF hi0.symm (by rw [hml]; exact (if_neg hR).symm) (by rw [hml]; exact (if_neg hR).symm) ⟨hB9, hO8.chg hC9 ?_, ?_, hm.2.2.2⟩, ?_⟩
      · intro x hx hx2
        have hxb : x = b := by simpa using hx2
        subst hxb
        rcases hM8 with hM8 | hM8
        · rw [hM8] at hx; exact hm.2.2.1 hx
        · have := hM8 x hx; have := hX7.1; have := hm.1.lt; omega
      · intro hx
        rcases hM8 with hM8 | hM8
        · rw [hM8] at hx; exact hm.2.2.1 hx
        · have := hM8 b hx; have := hX7.1; have := hm.1.lt; omega
      · rcases hM8 with hM8 | hM8
        · exact .inl hM8
        · exact .inr fun x hx => Nat.le_trans hX7.1 (hM8 x hx)
    · focus
        refine EW.seq ?_
        refine EW.sreg rfl ?_
        refine OX.tagc ?_
        (refine OX.gr rfl rfl (WantE.none rfl) (Gr.boxF rfl rfl ?_); intro b_ h_ hb_ hE hB; have hz_ := hE.1; replace hF := (hF.up hE).blk hB)
        refine OX.tagc ?_
        refine OX.p rfl rfl (WantE.none rfl) ?_
        refine OX.tagn ?_
        refine qT_n ?_
        refine EW.seq ?_
        refine EW.seq ?_
        refine EW.sreg rfl ?_
        refine OX.tagc ?_
        refine OX.p rfl rfl (WantE.none rfl) ?_
        refine OX.tagc ?_
        refine OX.q rfl (WantE.none rfl) (Qy.loadk rfl rfl rfl rfl (Blk.at0 hF.out.1)) ?_
        refine OX.tagc ?_
        refine OX.q rfl (by first | exact WantE.none rfl | exact WantE.yes rfl rfl rfl (by first | assumption | rfl | exact decide_eq_true rfl)) (Qy.call rfl rfl (fun h1 hE => may_y _ b n _ e true (Blk.ext (by first | exact hF.out.1 | exact hF.out.2.1 | exact hF.out.2.2.1 | exact hF.out.2.2.2.1 | exact hF.out.2.2.2.2.1 | exact hF.out.2.2.2.2.2.1 | exact hF.out.2.2.2.2.2.2.1 | exact hF.out.2.2.2.2.2.2.2.1 | exact hF.out.2.2.2.2.2.2.2.2.1 | assumption) hE) (by omega) he)) ?_
        refine OX.tagc ?_
        refine OX.p rfl rfl (WantE.none rfl) ?_
        refine OX.tagn ?_
        refine qT_n ?_
        refine EW.cond_f rfl rfl ?_
        refine EW.skip ?_
        refine qT_n ?_
        refine EW.seq ?_
        refine EW.seq ?_
        refine EW.sreg rfl ?_
        refine OX.tagc ?_
        refine OX.p rfl rfl (WantE.none rfl) ?_
        refine OX.tagc ?_
        refine OX.p rfl rfl (WantE.none rfl) ?_
        refine OX.tagc ?_
        refine OX.p rfl rfl (WantE.none rfl) ?_
        refine OX.tagc ?_
        refine OX.q rfl (WantE.none rfl) (Qy.load1 rfl rfl rfl (Blk.cell hF.out.2.1 rfl rfl)) ?_
        refine OX.tagc ?_
        refine OX.q rfl (WantE.none rfl) (Qy.makeFuncF rfl rfl) ?_
        refine OX.tagc ?_
        refine OX.q rfl (by first | exact WantE.none rfl | exact WantE.yes rfl rfl rfl (by first | assumption | rfl | exact decide_eq_true rfl)) (Qy.call rfl rfl (fun h1 hE => con_c A c hs e hl hfit' hE0 false hf _ _ (Rd.ext (by first | exact hF.out.1 | exact hF.out.2.1 | exact hF.out.2.2.1 | exact hF.out.2.2.2.1 | exact hF.out.2.2.2.2.1 | exact hF.out.2.2.2.2.2.1 | exact hF.out.2.2.2.2.2.2.1 | exact hF.out.2.2.2.2.2.2.2.1 | exact hF.out.2.2.2.2.2.2.2.2.1 | assumption) hE) (Blk.ext (by first | exact hF.out.1 | exact hF.out.2.1 | exact hF.out.2.2.1 | exact hF.out.2.2.2.1 | exact hF.out.2.2.2.2.1 | exact hF.out.2.2.2.2.2.1 | exact hF.out.2.2.2.2.2.2.1 | exact hF.out.2.2.2.2.2.2.2.1 | exact hF.out.2.2.2.2.2.2.2.2.1 | assumption) hE))) ?_
        refine OX.tagn ?_
        refine qT_n ?_
        refine EW.cond_f rfl rfl ?_
        refine EW.skip ?_
        refine qT_n ?_
        refine EW.seq ?_
        refine EW.sreg rfl ?_
        refine OX.tagc ?_
        refine OX.p rfl rfl (WantE.none rfl) ?_
        refine OX.tagc ?_
        refine OX.p rfl rfl (WantE.none rfl) ?_
        refine OX.tagc ?_
        refine OX.p rfl rfl (WantE.none rfl) ?_
        refine OX.tagc ?_
        refine OX.q rfl (WantE.none rfl) (Qy.load1 rfl rfl rfl (Blk.cell hF.out.2.1 rfl rfl)) ?_
        refine OX.tagc ?_
        refine OX.q rfl (WantE.none rfl) (Qy.makeFuncF rfl rfl) ?_
        refine OX.tagc ?_
        refine OX.q rfl (by first | exact WantE.none rfl | exact WantE.yes rfl rfl rfl (by first | assumption | rfl | exact decide_eq_true rfl)) (Qy.call rfl rfl (fun h1 hE => idx2_c A c hs e hl _ hkI _ _ (Rd.ext (by first | exact hF.out.1 | exact hF.out.2.1 | exact hF.out.2.2.1 | exact hF.out.2.2.2.1 | exact hF.out.2.2.2.2.1 | exact hF.out.2.2.2.2.2.1 | exact hF.out.2.2.2.2.2.2.1 | exact hF.out.2.2.2.2.2.2.2.1 | exact hF.out.2.2.2.2.2.2.2.2.1 | assumption) hE) (Blk.ext (by first | exact hF.out.1 | exact hF.out.2.1 | exact hF.out.2.2.1 | exact hF.out.2.2.2.1 | exact hF.out.2.2.2.2.1 | exact hF.out.2.2.2.2.2.1 | exact hF.out.2.2.2.2.2.2.1 | exact hF.out.2.2.2.2.2.2.2.1 | exact hF.out.2.2.2.2.2.2.2.2.1 | assumption) hE))) ?_
        refine OX.tagc ?_
        refine OX.p rfl rfl (WantE.none rfl) ?_
        refine OX.tagn ?_
        refine qT_n ?_
        refine EW.seq ?_
        refine EW.seq ?_
        refine EW.sreg rfl ?_
        refine OX.tagc ?_
        refine OX.p rfl rfl (WantE.none rfl) ?_
        refine OX.tagc ?_
        refine OX.p rfl rfl (WantE.none rfl) ?_
        refine OX.tagn ?_
        refine qT_n ?_
        refine EW.cond_f rfl rfl ?_
        refine EW.skip ?_
        refine qT_n ?_
        refine EW.seq ?_
        refine EW.sreg rfl ?_
        refine OX.tagc ?_
        refine OX.p rfl rfl (WantE.none rfl) ?_
        refine OX.tagc ?_
        refine OX.p rfl rfl (WantE.none rfl) ?_
        refine OX.tagc ?_
        refine OX.p rfl rfl (WantE.none rfl) ?_
        refine OX.tagc ?_
        refine OX.p rfl rfl (WantE.none rfl) ?_
        refine OX.tagn ?_
        refine qT_n ?_
        refine EW.seq ?_
        refine EW.seq ?_
        (refine EW.drawT ord13 tab13 rfl (by kernel_rfl) (by kernel_rfl) (by kernel_rfl) ?_)
        refine OX.p rfl rfl (WantE.none rfl) ?_
        refine OX.p rfl rfl (WantE.none rfl) ?_
        refine OX.p rfl rfl (WantE.none rfl) ?_
        refine OX.gsplit rfl rfl rfl ?_ ?_
        intro hb
        have hb' := of_decide_eq_true hb
        (exfalso; omega)
        intro hb
        have hb' := of_decide_eq_false hb
        refine OX.sk rfl (WantE.no rfl rfl rfl (by assumption)) ?_
        refine OX.sk rfl (WantE.no rfl rfl rfl (by assumption)) ?_
        refine OX.sk rfl (WantE.no rfl rfl rfl (by assumption)) ?_
        refine OX.sk rfl (WantE.no rfl rfl rfl (by assumption)) ?_
        refine OX.sk rfl (WantE.no rfl rfl rfl (by assumption)) ?_
        refine OX.sk rfl (WantE.no rfl rfl rfl (by assumption)) ?_
        refine OX.sk rfl (WantE.no rfl rfl rfl (by assumption)) ?_
        refine OX.sk rfl (WantE.no rfl rfl rfl (by assumption)) ?_
        refine OX.sk rfl (WantE.no rfl rfl rfl (by assumption)) ?_
        refine OX.sk rfl (WantE.no rfl rfl rfl (by assumption)) ?_
        refine OX.sk rfl (WantE.no rfl rfl rfl (by assumption)) ?_
        refine OX.sk rfl (WantE.no rfl rfl rfl (by assumption)) ?_
        refine OX.q rfl (WantE.none rfl) (Qy.pick_fb rfl rfl rfl (by assumption)) ?_
        refine OX.nil ?_
        refine qT_n ?_
        refine EW.cond_f rfl rfl ?_
        refine EW.skip ?_
        refine qT_n ?_
        refine EW.seq ?_
        refine EW.seq ?_
        (refine EW.drawT ord13 tab13 rfl (by kernel_rfl) (by kernel_rfl) (by kernel_rfl) ?_)
        refine OX.p rfl rfl (WantE.none rfl) ?_
        refine OX.p rfl rfl (WantE.none rfl) ?_
        refine OX.p rfl rfl (WantE.none rfl) ?_
        refine OX.p rfl rfl (WantE.none rfl) ?_
        refine OX.q rfl (WantE.none rfl) (Qy.load1 rfl rfl rfl (Blk.cell hF.out.2.1 rfl rfl)) ?_
        refine OX.p rfl rfl (WantE.none rfl) ?_
        refine OX.p rfl rfl (WantE.none rfl) ?_
        refine OX.p rfl rfl (WantE.none rfl) ?_
        refine OX.gsplit rfl rfl rfl ?_ ?_
        intro hb
        have hb' := of_decide_eq_true hb
        refine OX.q rfl (WantE.yes rfl rfl rfl (by assumption)) (Qy.loadk rfl rfl rfl rfl (Blk.at0 hF.out.1)) ?_
        refine OX.p rfl rfl (WantE.yes rfl rfl rfl (by assumption)) ?_
        refine OX.p rfl rfl (WantE.yes rfl rfl rfl (by assumption)) ?_
        refine OX.p rfl rfl (WantE.yes rfl rfl rfl (by assumption)) ?_
        refine OX.q rfl (WantE.yes rfl rfl rfl (by assumption)) (Qy.load1 rfl rfl rfl (Blk.cell hF.out.2.1 rfl rfl)) ?_
        refine OX.p rfl rfl (WantE.yes rfl rfl rfl (by assumption)) ?_
        refine OX.q rfl (WantE.yes rfl rfl rfl (by assumption)) (Qy.indexRd rfl rfl rfl rfl rfl hF.out.2.2.1 rfl (by omega)) ?_
        refine OX.p rfl rfl (WantE.yes rfl rfl rfl (by assumption)) ?_
        refine OX.q rfl (WantE.yes rfl rfl rfl (by assumption)) (Qy.loadEl rfl rfl rfl hF.out.2.2.1 rfl (by omega) rfl) ?_
        refine OX.q rfl (by first | exact WantE.none rfl | exact WantE.yes rfl rfl rfl (by first | assumption | rfl | exact decide_eq_true rfl)) (Qy.call rfl rfl (fun h1 hE => ec_ _ e hE0.1 hE0.2)) ?_
        refine OX.p rfl rfl (WantE.yes rfl rfl rfl (by assumption)) ?_
        refine OX.q rfl (WantE.none rfl) (Qy.pick_tb rfl rfl rfl (by assumption)) ?_
        refine OX.nil ?_
        refine qT_n ?_
        refine EW.cond rfl ?_ ?_
        intro hb
        have hb' := of_decide_eq_true hb
        (exfalso; omega)
        intro hb
        have hb' := of_decide_eq_false hb
        refine EW.skip ?_
        refine qT_n ?_
        refine EW.seq ?_
        (refine EW.drawT ord13 tab13 rfl (by kernel_rfl) (by kernel_rfl) (by kernel_rfl) ?_)
        refine OX.p rfl rfl (WantE.none rfl) ?_
        refine OX.p rfl rfl (WantE.none rfl) ?_
        refine OX.p rfl rfl (WantE.none rfl) ?_
        refine OX.p rfl rfl (WantE.none rfl) ?_
        refine OX.q rfl (WantE.none rfl) (Qy.load1 rfl rfl rfl (Blk.cell hF.out.2.1 rfl rfl)) ?_
        refine OX.p rfl rfl (WantE.none rfl) ?_
        refine OX.p rfl rfl (WantE.none rfl) ?_
        refine OX.q rfl (WantE.none rfl) (Qy.loadk rfl rfl rfl rfl (Blk.at0 hF.out.1)) ?_
        rotate_left
        intro hb
        have hb' := of_decide_eq_false hb
        (exfalso; omega)
      refine OX.gr rfl rfl (WantE.none rfl) (Gr.lit (xs := [e]) (bytes := 16) rfl rfl rfl rfl rfl rfl (by decide) ?_)
      intro b1 h6 hb1 hE1 hlt1 hO1
      have hX6 : Ext h1 h6 := ((by first | exact hF.out.1 | exact hF.out.2.1 | exact hF.out.2.2.1 | exact hF.out.2.2.2.1 | exact hF.out.2.2.2.2.1 | exact hF.out.2.2.2.2.2.1 | exact hF.out.2.2.2.2.2.2.1 | exact hF.out.2.2.2.2.2.2.2.1 | exact hF.out.2.2.2.2.2.2.2.2.1 | assumption) : Ext h1 _).trans hE1
      have hz6 := hX6.1
      have hz7 := ((by first | exact hF.out.1 | exact hF.out.2.1 | exact hF.out.2.2.1 | exact hF.out.2.2.2.1 | exact hF.out.2.2.2.2.1 | exact hF.out.2.2.2.2.2.1 | exact hF.out.2.2.2.2.2.2.1 | exact hF.out.2.2.2.2.2.2.2.1 | exact hF.out.2.2.2.2.2.2.2.2.1 | assumption) : Ext h1 _).1
      replace hF := (hK.up hX6).own hO1
      focus
        rotate_left
      refine OX.ac rfl rfl (WantE.none rfl) (Runs.call (M := blk A) (R := fun h2 => RowPost h2 base 35 A (hs.take k ++ [e] ++ hs.drop k)) rfl rfl (fun h2 hE => replace_i h2 base A c hs k k _ _ _ _ [e] (by omega) (by omega) (hm.2.1.ext ((hX.trans hX6).trans hE)) ((hO1.mono (Nat.zero_le _)).ext hE) ?_ (by omega) (by omega) (by have := hE.1; omega) ?_) ?_)
      · intro x hx hx2; have := hm.2.1.blk_lt x hx; have := hO1.blk_ge x hx2; omega
      · simp only [List.length_cons, List.length_nil]; omega
      rintro h7 v h8 hE7 hC8 ⟨A', c', rfl, hO8, hM8⟩
      have hX7 : Ext h h7 := (hX.trans hX6).trans hE7
      have hB8 := (hm.1.ext hX7).chg hC8 hm.2.2.1
      focus
        refine OX.p rfl rfl (WantE.none rfl) ?_
        refine OX.p rfl rfl (WantE.none rfl) ?_
        rotate_left
      refine OX.ac0 rfl rfl (WantE.none rfl) (Runs.storeF rfl rfl rfl rfl rfl hB8 rfl rfl rfl ?_)
      intro h9 hC9 hB9
      replace hF := Know.nil h9
      focus
        refine OX.nil ?_
        refine qT_n ?_
        refine EW.seq ?_
        refine EW.sreg rfl ?_
        refine OX.tagc ?_
        refine OX.p rfl rfl (WantE.none rfl) ?_
        refine OX.tagn ?_
        refine qT_n ?_
        refine EW.ret ?_
        refine rQ_ret ?_
        refine Rets.one rfl ?_
        rotate_left
      refine ⟨Chg.of_ext_left hX7 ((hC8.mono (fun x _ hx => List.mem_cons_of_mem _ hx)).trans (hC9.mono (fun x _ hx => by simp only [List.mem_singleton] at hx; subst hx; exact List.mem_cons_self))), rfl, A', c', doneF hi0.symm (by rw [hml]; exact (if_neg hR).symm) (by rw [hml]; exact (if_neg hR).symm) ⟨hB9, hO8.chg hC9 ?_, ?_, hm.2.2.2⟩, ?_⟩
      · intro x hx hx2
        have hxb : x = b := by simpa using hx2
        subst hxb
        rcases hM8 with hM8 | hM8
        · rw [hM8] at hx; exact hm.2.2.1 hx
        · have := hM8 x hx; have := hX7.1; have := hm.1.lt; omega
      · intro hx
        rcases hM8 with hM8 | hM8
        · rw [hM8] at hx; exact hm.2.2.1 hx
        · have := hM8 b hx; have := hX7.1; have := hm.1.lt; omega
      · rcases hM8 with hM8 | hM8
        · exact .inl hM8
        · exact .inr fun x hx => Nat.le_trans hX7.1 (hM8 x hx)
end Go.Px.Ext_
