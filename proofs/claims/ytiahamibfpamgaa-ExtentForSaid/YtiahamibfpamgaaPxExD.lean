/- Steps of a proof: contracts of functions, walked. -/
import Derived.Test.YtiahamibfpamgaaPxExC
set_option linter.unusedVariables false
set_option linter.unusedSimpArgs false
set_option maxRecDepth 10000
namespace Go.Px.Ext_
open Go.Proofs Go.Px
def forB (x : Int) : Int := if x < 1 then 0 else (x - 1) / 128 + 1
theorem for_c (h : Heap) (x : Int) (hb : -9223372036854775808 ≤ x ∧ x ≤ 9223372036854775807) : FQ Try.prog 7 [.int .i64 x] h (.int .i64 (forB x)) := by
  refine FQ.of_EW (fun a w => Try.call7 a w) Try.func7 rfl rfl fun s h1 hX => ?_
  have hF := (Know.nil h1).since hX
  focus
    refine EW.seq ?_
    refine EW.sreg rfl ?_
    refine OX.tagc ?_
    refine OX.p rfl rfl (WantE.none rfl) ?_
    refine OX.tagn ?_
    refine qT_n ?_
    refine EW.seq ?_
    refine EW.seq ?_
    refine EW.sreg rfl ?_
    refine OX.tagc ?_
    refine OX.p rfl rfl (WantE.none rfl) ?_
    refine OX.tagc ?_
    refine OX.p rfl rfl (WantE.none rfl) ?_
    refine OX.tagn ?_
    refine qT_n ?_
    refine EW.cond rfl ?_ ?_
    intro hb
    have hb' := of_decide_eq_true hb
    refine EW.seq ?_
    refine EW.sreg rfl ?_
    refine OX.tagc ?_
    refine OX.p rfl rfl (WantE.none rfl) ?_
    refine OX.tagn ?_
    refine qT_n ?_
    refine EW.ret ?_
    refine qT_ret ?_
    refine rQ_ret ?_
    refine Rets.one rfl ?_
    rotate_left
    intro hb
    have hb' := of_decide_eq_false hb
    refine EW.skip ?_
    refine qT_n ?_
    refine EW.seq ?_
    refine EW.sreg rfl ?_
    refine OX.tagc ?_
    refine OX.p rfl rfl (WantE.none rfl) ?_
    refine OX.tagc ?_
    refine OX.q rfl (WantE.none rfl) (Qy.subi rfl rfl rfl (by omega)) ?_
    refine OX.tagc ?_
    refine OX.q rfl (WantE.none rfl) (Qy.quoi rfl rfl rfl (by omega)) ?_
    refine OX.tagc ?_
    refine OX.q rfl (WantE.none rfl) (Qy.addi rfl rfl rfl (by omega)) ?_
    refine OX.tagc ?_
    refine OX.p rfl rfl (WantE.none rfl) ?_
    refine OX.tagn ?_
    refine qT_n ?_
    refine EW.ret ?_
    refine rQ_ret ?_
    refine Rets.one rfl ?_
    rotate_left
  · exact ⟨congrArg (Value.int .i64) (by unfold forB; rw [if_pos hb']), hF.out.1⟩
  · exact ⟨congrArg (Value.int .i64) (by unfold forB; rw [if_neg hb']), hF.out.1⟩
theorem new_no (h : Heap) (n : Int) (hn : n < 1 ∨ 4096 < n) : FQ Try.prog 9 [.int .i64 n] h (.tuple #[.pointer none, .int .i64 1]) := by
  refine FQ.of_EW (fun a w => Try.call9 a w) Try.func9 rfl rfl fun s h1 hX => ?_
  have hF := (Know.nil h1).since hX
  focus
    refine EW.seq ?_
    refine EW.sreg rfl ?_
    refine OX.tagc ?_
    refine OX.p rfl rfl (WantE.none rfl) ?_
    refine OX.tagc ?_
    refine OX.p rfl rfl (WantE.none rfl) ?_
    refine OX.tagn ?_
    refine qT_n ?_
    refine EW.seq ?_
    refine EW.seq ?_
    refine EW.sreg rfl ?_
    refine OX.tagc ?_
    refine OX.p rfl rfl (WantE.none rfl) ?_
    refine OX.tagc ?_
    refine OX.p rfl rfl (WantE.none rfl) ?_
    refine OX.tagc ?_
    refine OX.p rfl rfl (WantE.none rfl) ?_
    refine OX.tagc ?_
    refine OX.gsplit rfl rfl rfl ?_ ?_
    intro hb
    have hb' := of_decide_eq_true hb
    refine OX.sk rfl (WantE.no rfl rfl rfl (by assumption)) ?_
    refine OX.tagc ?_
    refine OX.sk rfl (WantE.no rfl rfl rfl (by assumption)) ?_
    refine OX.tagc ?_
    refine OX.q rfl (WantE.none rfl) (Qy.pick_tb rfl rfl rfl (by assumption)) ?_
    refine OX.tagn ?_
    refine qT_n ?_
    refine EW.cond_t rfl rfl ?_
    refine EW.seq ?_
    refine EW.sreg rfl ?_
    refine OX.tagc ?_
    refine OX.p rfl rfl (WantE.none rfl) ?_
    refine OX.tagc ?_
    refine OX.p rfl rfl (WantE.none rfl) ?_
    refine OX.tagn ?_
    refine qT_n ?_
    refine EW.ret ?_
    refine qT_ret ?_
    refine rQ_ret ?_
    refine Rets.two rfl ?_
    rotate_left
    intro hb
    have hb' := of_decide_eq_false hb
    refine OX.p rfl rfl (WantE.yes rfl rfl rfl (by assumption)) ?_
    refine OX.tagc ?_
    refine OX.p rfl rfl (WantE.yes rfl rfl rfl (by assumption)) ?_
    refine OX.tagc ?_
    refine OX.q rfl (WantE.none rfl) (Qy.pick_fb rfl rfl rfl (by assumption)) ?_
    refine OX.tagn ?_
    refine qT_n ?_
    refine EW.cond rfl ?_ ?_
    intro hb
    have hb' := of_decide_eq_true hb
    refine EW.seq ?_
    refine EW.sreg rfl ?_
    refine OX.tagc ?_
    refine OX.p rfl rfl (WantE.none rfl) ?_
    refine OX.tagc ?_
    refine OX.p rfl rfl (WantE.none rfl) ?_
    refine OX.tagn ?_
    refine qT_n ?_
    refine EW.ret ?_
    refine qT_ret ?_
    refine rQ_ret ?_
    refine Rets.two rfl ?_
    rotate_left
    intro hb
    have hb' := of_decide_eq_false hb
    (exfalso; omega)
  all_goals exact ⟨rfl, hF.out.1⟩
theorem new_c (h : Heap) (n : Int) (hn : 1 ≤ n) (hn2 : n ≤ 4096) : FC Try.prog 9 [.int .i64 n] h [] (fun v h' => ∃ b A c, v = .tuple #[.pointer (some ⟨b, 0, none⟩), .int .i64 0] ∧ IsMap h' h.size b n A c [⟨0, n⟩]) := by
  refine FC.of_EW (fun a w => Try.call9 a w) Try.func9 rfl rfl fun s h1 hX => ?_
  have hF := (Know.nil h1).since hX
  focus
    refine EW.seq ?_
    refine EW.sreg rfl ?_
    refine OX.tagc ?_
    refine OX.p rfl rfl (WantE.none rfl) ?_
    refine OX.tagc ?_
    refine OX.p rfl rfl (WantE.none rfl) ?_
    refine OX.tagn ?_
    refine qT_n ?_
    refine EW.seq ?_
    refine EW.seq ?_
    refine EW.sreg rfl ?_
    refine OX.tagc ?_
    refine OX.p rfl rfl (WantE.none rfl) ?_
    refine OX.tagc ?_
    refine OX.p rfl rfl (WantE.none rfl) ?_
    refine OX.tagc ?_
    refine OX.p rfl rfl (WantE.none rfl) ?_
    refine OX.tagc ?_
    refine OX.gsplit rfl rfl rfl ?_ ?_
    intro hb
    have hb' := of_decide_eq_true hb
    (exfalso; omega)
    intro hb
    have hb' := of_decide_eq_false hb
    refine OX.p rfl rfl (WantE.yes rfl rfl rfl (by assumption)) ?_
    refine OX.tagc ?_
    refine OX.p rfl rfl (WantE.yes rfl rfl rfl (by assumption)) ?_
    refine OX.tagc ?_
    refine OX.q rfl (WantE.none rfl) (Qy.pick_fb rfl rfl rfl (by assumption)) ?_
    refine OX.tagn ?_
    refine qT_n ?_
    refine EW.cond rfl ?_ ?_
    intro hb
    have hb' := of_decide_eq_true hb
    (exfalso; omega)
    intro hb
    have hb' := of_decide_eq_false hb
    refine EW.skip ?_
    refine qT_n ?_
    refine EW.seq ?_
    refine EW.sreg rfl ?_
    refine OX.tagc ?_
    refine OX.p rfl rfl (WantE.none rfl) ?_
    refine OX.tagc ?_
    refine OX.p rfl rfl (WantE.none rfl) ?_
    refine OX.tagc ?_
    refine OX.q rfl (WantE.none rfl) (Qy.buildF rfl rfl) ?_
    refine OX.tagc ?_
    rotate_left
  refine OX.gr rfl rfl (WantE.none rfl) (Gr.lit (xs := [(⟨0, n⟩ : Ex)]) (bytes := 16) rfl rfl rfl rfl rfl rfl (by decide) ?_)
  intro b1 h2 hb1 hE1 hlt1 hO
  replace hF := (hF.up hE1).own hO
  focus
    refine OX.tagc ?_
    refine OX.q rfl (WantE.none rfl) (Qy.buildF rfl rfl) ?_
    refine OX.tagc ?_
    (refine OX.gr rfl rfl (WantE.none rfl) (Gr.boxF rfl rfl ?_); intro b_ h_ hb_ hE hB; have hz_ := hE.1; replace hF := (hF.up hE).blk hB)
    refine OX.tagc ?_
    refine OX.p rfl rfl (WantE.none rfl) ?_
    refine OX.tagc ?_
    refine OX.p rfl rfl (WantE.none rfl) ?_
    refine OX.tagn ?_
    refine qT_n ?_
    refine EW.ret ?_
    refine rQ_ret ?_
    refine Rets.two rfl ?_
    rotate_left
  have hO1 := hF.out.2.1
  refine ⟨hF.out.2.2.1.chg [], _, _, _, rfl, hF.out.1, hO1.mono (by have := hX.1; omega), ?_, ?_⟩
  · simp only [blk, List.mem_singleton]; omega
  · have := hX.1; have := hE1.1; omega
theorem ac1_c (h : Heap) (pb : Nat) (x : Ex) (k : Int) (hb : Blk h pb 3 #[.int .i64 k]) : FQ Try.prog 25 [exV x, .pointer (some ⟨pb, 0, none⟩)] h (.bool (decide (k ≤ x.count))) := by
  refine FQ.of_EW (fun a w => Try.call25 a w) Try.func25 rfl rfl fun s h1 hX => ?_
  have hF := ((Know.nil h1).since hX).blk (hb.ext hX)
  focus
    refine EW.seq ?_
    refine EW.sreg rfl ?_
    refine OX.tagc ?_
    (refine OX.gr rfl rfl (WantE.none rfl) (Gr.boxF rfl rfl ?_); intro b_ h_ hb_ hE hB; have hz_ := hE.1; replace hF := (hF.up hE).blk hB)
    refine OX.tagc ?_
    refine OX.p rfl rfl (WantE.none rfl) ?_
    refine OX.tagn ?_
    refine qT_n ?_
    refine EW.seq ?_
    refine EW.sreg rfl ?_
    refine OX.tagc ?_
    refine OX.p rfl rfl (WantE.none rfl) ?_
    refine OX.tagc ?_
    refine OX.q rfl (WantE.none rfl) (Qy.load1 rfl rfl rfl (Blk.cell hF.out.1 rfl rfl)) ?_
    refine OX.tagc ?_
    refine OX.q rfl (WantE.none rfl) (Qy.load1 rfl rfl rfl (Blk.cell hF.out.2.1 rfl rfl)) ?_
    refine OX.tagc ?_
    refine OX.p rfl rfl (WantE.none rfl) ?_
    refine OX.tagc ?_
    refine OX.p rfl rfl (WantE.none rfl) ?_
    refine OX.tagn ?_
    refine qT_n ?_
    refine EW.ret ?_
    refine rQ_ret ?_
    refine Rets.one rfl ?_
    rotate_left
  exact ⟨rfl, hF.out.2.2.1⟩
theorem ec_ (h : Heap) (x : Ex) (hx : -1000000 ≤ x.first ∧ x.first ≤ 1000000) (hy : -1000000 ≤ x.count ∧ x.count ≤ 1000000) : FQ Try.prog 33 [exV x] h (.int .i64 (x.first + x.count)) := end_c h x.first x.count (by omega)
def Fit (x : Ex) : Prop := (-1000000 ≤ x.first ∧ x.first ≤ 1000000) ∧ (-1000000 ≤ x.count ∧ x.count ≤ 1000000)
theorem tc1_c (h : Heap) (pb : Nat) (x e : Ex) (hb : Blk h pb 35 #[.int .i64 e.first, .int .i64 e.count]) (hx : Fit x) (he : Fit e) : FQ Try.prog 36 [exV x, .pointer (some ⟨pb, 0, none⟩)] h (.bool (decide (x.first ≤ e.first) && decide (e.first + e.count ≤ x.first + x.count))) := by
  refine FQ.of_EW (fun a w => Try.call36 a w) Try.func36 rfl rfl fun s h1 hX => ?_
  have hF := ((Know.nil h1).since hX).blk (hb.ext hX)
  focus
    refine EW.seq ?_
    refine EW.sreg rfl ?_
    refine OX.tagc ?_
    (refine OX.gr rfl rfl (WantE.none rfl) (Gr.boxF rfl rfl ?_); intro b_ h_ hb_ hE hB; have hz_ := hE.1; replace hF := (hF.up hE).blk hB)
    refine OX.tagc ?_
    refine OX.p rfl rfl (WantE.none rfl) ?_
    refine OX.tagn ?_
    refine qT_n ?_
    refine EW.seq ?_
    (refine EW.drawT ord36 tab36 rfl (by kernel_rfl) (by kernel_rfl) (by kernel_rfl) ?_)
    refine OX.p rfl rfl (WantE.none rfl) ?_
    refine OX.q rfl (WantE.none rfl) (Qy.load1 rfl rfl rfl (Blk.cell hF.out.1 rfl rfl)) ?_
    refine OX.p rfl rfl (WantE.none rfl) ?_
    refine OX.q rfl (WantE.none rfl) (Qy.load1 rfl rfl rfl (Blk.cell hF.out.2.1 rfl rfl)) ?_
    refine OX.p rfl rfl (WantE.none rfl) ?_
    refine OX.p rfl rfl (WantE.none rfl) ?_
    refine OX.gsplit rfl rfl rfl ?_ ?_
    intro hb
    have hb' := of_decide_eq_true hb
    refine OX.q rfl (WantE.yes rfl rfl rfl (by assumption)) (Qy.loadk rfl rfl rfl rfl (Blk.at0 hF.out.2.1)) ?_
    refine OX.q rfl (WantE.yes rfl rfl rfl (by assumption)) (Qy.loadk rfl rfl rfl rfl (Blk.at0 hF.out.1)) ?_
    refine OX.q rfl (by first | exact WantE.none rfl | exact WantE.yes rfl rfl rfl (by first | assumption | rfl | exact decide_eq_true rfl)) (Qy.call rfl rfl (fun h1 hE => ec_ _ e he.1 he.2)) ?_
    refine OX.q rfl (by first | exact WantE.none rfl | exact WantE.yes rfl rfl rfl (by first | assumption | rfl | exact decide_eq_true rfl)) (Qy.call rfl rfl (fun h1 hE => ec_ _ x hx.1 hx.2)) ?_
    refine OX.p rfl rfl (WantE.yes rfl rfl rfl (by assumption)) ?_
    refine OX.q rfl (WantE.none rfl) (Qy.pick_tb rfl rfl rfl (by assumption)) ?_
    refine OX.p rfl rfl (WantE.none rfl) ?_
    refine OX.nil ?_
    refine qT_n ?_
    refine EW.ret ?_
    refine rQ_ret ?_
    refine Rets.one rfl ?_
    rotate_left
    intro hb
    have hb' := of_decide_eq_false hb
    refine OX.sk rfl (WantE.no rfl rfl rfl (by assumption)) ?_
    refine OX.sk rfl (WantE.no rfl rfl rfl (by assumption)) ?_
    refine OX.sk rfl (WantE.no rfl rfl rfl (by assumption)) ?_
    refine OX.sk rfl (WantE.no rfl rfl rfl (by assumption)) ?_
    refine OX.sk rfl (WantE.no rfl rfl rfl (by assumption)) ?_
    refine OX.q rfl (WantE.none rfl) (Qy.pick_fb rfl rfl rfl (by assumption)) ?_
    refine OX.p rfl rfl (WantE.none rfl) ?_
    refine OX.nil ?_
    refine qT_n ?_
    refine EW.ret ?_
    refine rQ_ret ?_
    refine Rets.one rfl ?_
    rotate_left
  all_goals refine ⟨congrArg Value.bool ?_, hF.out.2.2.1⟩
  all_goals simp [hb']
theorem fc1_c (h : Heap) (pb : Nat) (x e : Ex) (hb : Blk h pb 35 #[.int .i64 e.first, .int .i64 e.count]) (hx : Fit x) (he : Fit e) : FQ Try.prog 32 [exV x, .pointer (some ⟨pb, 0, none⟩)] h (.bool (decide (x.first < e.first + e.count) && decide (e.first < x.first + x.count))) := by
  refine FQ.of_EW (fun a w => Try.call32 a w) Try.func32 rfl rfl fun s h1 hX => ?_
  have hF := ((Know.nil h1).since hX).blk (hb.ext hX)
  focus
    refine EW.seq ?_
    refine EW.sreg rfl ?_
    refine OX.tagc ?_
    (refine OX.gr rfl rfl (WantE.none rfl) (Gr.boxF rfl rfl ?_); intro b_ h_ hb_ hE hB; have hz_ := hE.1; replace hF := (hF.up hE).blk hB)
    refine OX.tagc ?_
    refine OX.p rfl rfl (WantE.none rfl) ?_
    refine OX.tagn ?_
    refine qT_n ?_
    refine EW.seq ?_
    (refine EW.drawT ord32 tab32 rfl (by kernel_rfl) (by kernel_rfl) (by kernel_rfl) ?_)
    refine OX.p rfl rfl (WantE.none rfl) ?_
    refine OX.q rfl (WantE.none rfl) (Qy.load1 rfl rfl rfl (Blk.cell hF.out.1 rfl rfl)) ?_
    refine OX.q rfl (WantE.none rfl) (Qy.loadk rfl rfl rfl rfl (Blk.at0 hF.out.2.1)) ?_
    refine OX.q rfl (by first | exact WantE.none rfl | exact WantE.yes rfl rfl rfl (by first | assumption | rfl | exact decide_eq_true rfl)) (Qy.call rfl rfl (fun h1 hE => ec_ _ e he.1 he.2)) ?_
    refine OX.p rfl rfl (WantE.none rfl) ?_
    refine OX.p rfl rfl (WantE.none rfl) ?_
    refine OX.gsplit rfl rfl rfl ?_ ?_
    intro hb
    have hb' := of_decide_eq_true hb
    refine OX.p rfl rfl (WantE.yes rfl rfl rfl (by assumption)) ?_
    refine OX.q rfl (WantE.yes rfl rfl rfl (by assumption)) (Qy.load1 rfl rfl rfl (Blk.cell hF.out.2.1 rfl rfl)) ?_
    refine OX.q rfl (WantE.yes rfl rfl rfl (by assumption)) (Qy.loadk rfl rfl rfl rfl (Blk.at0 hF.out.1)) ?_
    refine OX.q rfl (by first | exact WantE.none rfl | exact WantE.yes rfl rfl rfl (by first | assumption | rfl | exact decide_eq_true rfl)) (Qy.call rfl rfl (fun h1 hE => ec_ _ x hx.1 hx.2)) ?_
    refine OX.p rfl rfl (WantE.yes rfl rfl rfl (by assumption)) ?_
    refine OX.q rfl (WantE.none rfl) (Qy.pick_tb rfl rfl rfl (by assumption)) ?_
    refine OX.p rfl rfl (WantE.none rfl) ?_
    refine OX.nil ?_
    refine qT_n ?_
    refine EW.ret ?_
    refine rQ_ret ?_
    refine Rets.one rfl ?_
    rotate_left
    intro hb
    have hb' := of_decide_eq_false hb
    refine OX.sk rfl (WantE.no rfl rfl rfl (by assumption)) ?_
    refine OX.sk rfl (WantE.no rfl rfl rfl (by assumption)) ?_
    refine OX.sk rfl (WantE.no rfl rfl rfl (by assumption)) ?_
    refine OX.sk rfl (WantE.no rfl rfl rfl (by assumption)) ?_
    refine OX.sk rfl (WantE.no rfl rfl rfl (by assumption)) ?_
    refine OX.q rfl (WantE.none rfl) (Qy.pick_fb rfl rfl rfl (by assumption)) ?_
    refine OX.p rfl rfl (WantE.none rfl) ?_
    refine OX.nil ?_
    refine qT_n ?_
    refine EW.ret ?_
    refine rQ_ret ?_
    refine Rets.one rfl ?_
    rotate_left
  all_goals refine ⟨congrArg Value.bool ?_, hF.out.2.2.1⟩
  all_goals simp [hb']
theorem fc2_c (h : Heap) (pb : Nat) (x e : Ex) (hb : Blk h pb 35 #[.int .i64 e.first, .int .i64 e.count]) : FQ Try.prog 34 [exV x, .pointer (some ⟨pb, 0, none⟩)] h (.bool (decide (e.first < x.first))) := by
  refine FQ.of_EW (fun a w => Try.call34 a w) Try.func34 rfl rfl fun s h1 hX => ?_
  have hF := ((Know.nil h1).since hX).blk (hb.ext hX)
  focus
    refine EW.seq ?_
    refine EW.sreg rfl ?_
    refine OX.tagc ?_
    (refine OX.gr rfl rfl (WantE.none rfl) (Gr.boxF rfl rfl ?_); intro b_ h_ hb_ hE hB; have hz_ := hE.1; replace hF := (hF.up hE).blk hB)
    refine OX.tagc ?_
    refine OX.p rfl rfl (WantE.none rfl) ?_
    refine OX.tagn ?_
    refine qT_n ?_
    refine EW.seq ?_
    refine EW.sreg rfl ?_
    refine OX.tagc ?_
    refine OX.p rfl rfl (WantE.none rfl) ?_
    refine OX.tagc ?_
    refine OX.q rfl (WantE.none rfl) (Qy.load1 rfl rfl rfl (Blk.cell hF.out.1 rfl rfl)) ?_
    refine OX.tagc ?_
    refine OX.p rfl rfl (WantE.none rfl) ?_
    refine OX.tagc ?_
    refine OX.q rfl (WantE.none rfl) (Qy.load1 rfl rfl rfl (Blk.cell hF.out.2.1 rfl rfl)) ?_
    refine OX.tagc ?_
    refine OX.p rfl rfl (WantE.none rfl) ?_
    refine OX.tagc ?_
    refine OX.p rfl rfl (WantE.none rfl) ?_
    refine OX.tagn ?_
    refine qT_n ?_
    refine EW.ret ?_
    refine rQ_ret ?_
    refine Rets.one rfl ?_
    rotate_left
  exact ⟨rfl, hF.out.2.2.1⟩
def cutR (x e : Ex) : List Ex := (if x.first < e.first then [⟨x.first, e.first - x.first⟩] else []) ++ (if e.first + e.count < x.first + x.count then [⟨e.first + e.count, x.first + x.count - (e.first + e.count)⟩] else [])
def cutH (hs : List Ex) (k : Nat) (e : Ex) : List Ex := hs.take k ++ cutR (ix hs k) e ++ hs.drop (k + 1)
theorem done_ {h : Heap} {base b : Nat} {n : Int} {A : Option Addr} {c : Nat} {hs : List Ex} {k : Nat} {e : Ex} {R : List Ex} (hR : R = cutR (ix hs k) e) (hm : IsMap h base b n A c (hs.take k ++ R ++ hs.drop (k + 1))) : IsMap h base b n A c (cutH hs k e) := by
  subst hR; exact hm
set_option maxHeartbeats 4000000 in
theorem cuts_c (h : Heap) (base b : Nat) (n : Int) (A : Option Addr) (c : Nat) (hs : List Ex) (k : Nat) (e : Ex) (hm : IsMap h base b n A c hs) (hk : k < hs.length) (hx : Fit (ix hs k)) (he : Fit e) (hbase : base ≤ h.size) (hl : hs.length ≤ 1000000) :
    FC Try.prog 26 [.pointer (some ⟨b, 0, none⟩), .int .i64 (k : Int), exV e] h (b :: blk A) (fun v h' => ∃ A' c', IsMap h' base b n A' c' (cutH hs k e) ∧ Moved h A A') := by
  refine FC.of_EW (fun a w => Try.call26 a w) Try.func26 rfl rfl fun s h1 hX => ?_
  obtain ⟨hm1, hm2, hm3, hm4⟩ := hm
  have hx0 := hx
  have he0 := he
  obtain ⟨⟨hx1, hx2⟩, hx3, hx4⟩ := hx
  obtain ⟨⟨he1, he2⟩, he3, he4⟩ := he
  have hF := ((((Know.nil h1).since (Ext.refl h1)).own (hm2.ext hX)).rd (hm2.rd.ext hX)).blk (hm1.ext hX)
  have hK := hF
  focus
    refine EW.seq ?_
    refine EW.sreg rfl ?_
    refine OX.tagc ?_
    (refine OX.gr rfl rfl (WantE.none rfl) (Gr.boxF rfl rfl ?_); intro b_ h_ hb_ hE hB; have hz_ := hE.1; replace hF := (hF.up hE).blk hB)
    refine OX.tagn ?_
    refine qT_n ?_
    refine EW.seq ?_
    refine EW.sreg rfl ?_
    refine OX.tagc ?_
    refine OX.p rfl rfl (WantE.none rfl) ?_
    refine OX.tagc ?_
    refine OX.p rfl rfl (WantE.none rfl) ?_
    refine OX.tagc ?_
    refine OX.p rfl rfl (WantE.none rfl) ?_
    refine OX.tagc ?_
    refine OX.q rfl (WantE.none rfl) (Qy.load1 rfl rfl rfl (Blk.cell hF.out.2.1 rfl rfl)) ?_
    refine OX.tagc ?_
    refine OX.p rfl rfl (WantE.none rfl) ?_
    refine OX.tagc ?_
    refine OX.q rfl (WantE.none rfl) (Qy.indexRd rfl rfl rfl rfl rfl hF.out.2.2.1 rfl (by omega)) ?_
    refine OX.tagc ?_
    refine OX.q rfl (WantE.none rfl) (Qy.loadElk rfl rfl rfl rfl hF.out.2.2.1 rfl (by omega)) ?_
    refine OX.tagc ?_
    (refine OX.gr rfl rfl (WantE.none rfl) (Gr.allocF rfl rfl ?_); intro b_ h_ hb_ hE hB; have hz_ := hE.1; have hy_ := hb_; have hAlc := And.intro hb_ (And.intro hE hB); clear hE hB)
    refine OX.tagc ?_
    (refine OX.ac0 rfl rfl (WantE.none rfl) (Runs.storeF rfl rfl rfl rfl rfl hAlc.2.2 rfl rfl rfl ?_); intro h_ hC hB; replace hF := (hF.up (Chg.fresh hAlc.2.1 hC (by simpa using hAlc.1))).blk hB; clear hAlc hC hB)
    refine OX.tagn ?_
    refine qT_n ?_
    refine EW.seq ?_
    refine EW.sreg rfl ?_
    refine OX.tagc ?_
    refine OX.p rfl rfl (WantE.none rfl) ?_
    refine OX.tagn ?_
    refine qT_n ?_
    refine EW.seq ?_
    refine EW.seq ?_
    refine EW.sreg rfl ?_
    refine OX.tagc ?_
    refine OX.p rfl rfl (WantE.none rfl) ?_
    refine OX.tagc ?_
    refine OX.q rfl (WantE.none rfl) (Qy.load1 rfl rfl rfl (Blk.cell hF.out.1 rfl rfl)) ?_
    refine OX.tagc ?_
    refine OX.p rfl rfl (WantE.none rfl) ?_
    refine OX.tagc ?_
    refine OX.q rfl (WantE.none rfl) (Qy.load1 rfl rfl rfl (Blk.cell hF.out.2.1 rfl rfl)) ?_
    refine OX.tagc ?_
    refine OX.p rfl rfl (WantE.none rfl) ?_
    refine OX.tagn ?_
    refine qT_n ?_
    refine EW.cond rfl ?_ ?_
    intro hb
    have hb' := of_decide_eq_true hb
    refine EW.sreg rfl ?_
    refine OX.tagc ?_
    refine OX.p rfl rfl (WantE.none rfl) ?_
    refine OX.tagc ?_
    refine OX.p rfl rfl (WantE.none rfl) ?_
    refine OX.tagc ?_
    refine OX.q rfl (WantE.none rfl) (Qy.load1 rfl rfl rfl (Blk.cell hF.out.1 rfl rfl)) ?_
    refine OX.tagc ?_
    refine OX.p rfl rfl (WantE.none rfl) ?_
    refine OX.tagc ?_
    refine OX.q rfl (WantE.none rfl) (Qy.load1 rfl rfl rfl (Blk.cell hF.out.2.1 rfl rfl)) ?_
    refine OX.tagc ?_
    refine OX.p rfl rfl (WantE.none rfl) ?_
    refine OX.tagc ?_
    refine OX.q rfl (WantE.none rfl) (Qy.load1 rfl rfl rfl (Blk.cell hF.out.1 rfl rfl)) ?_
    refine OX.tagc ?_
    refine OX.q rfl (WantE.none rfl) (Qy.subi rfl rfl rfl (by omega)) ?_
    refine OX.tagc ?_
    refine OX.q rfl (WantE.none rfl) (Qy.buildF rfl rfl) ?_
    refine OX.tagc ?_
    rotate_left
    intro hb
    have hb' := of_decide_eq_false hb
    refine EW.skip ?_
    refine qT_n ?_
    refine EW.seq ?_
    refine EW.seq ?_
    rotate_left
  · have hc1 := hb'
    refine OX.gr rfl rfl (WantE.none rfl) (Gr.lit (xs := [(⟨(ix hs k).first, e.first - (ix hs k).first⟩ : Ex)]) (bytes := 16) rfl rfl rfl rfl rfl rfl (by decide) ?_)
    intro b1 h2 hb1 hE1 hlt1 hO1
    replace hF := hF.up hE1
    focus
      refine OX.tagc ?_
      rotate_left
    refine OX.ac rfl rfl (WantE.none rfl) (Runs.append (xs := ([] : List Ex)) (ys := [(⟨(ix hs k).first, e.first - (ix hs k).first⟩ : Ex)]) (base := h1.size) (bytes := 16) rfl rfl rfl rfl rfl rfl (Own.nil _ _ _) hO1.rd (by have := hF.out.2.2.2.2.2.1.1; omega) (by simp) ?_)
    intro A1 c1 h3 hO2 hC hM
    replace hF := (hF.up hC.ext).own hO2
    focus
      refine OX.tagc ?_
      refine OX.p rfl rfl (WantE.none rfl) ?_
      refine OX.tagn ?_
      refine qT_n ?_
      refine EW.seq ?_
      refine EW.seq ?_
      (refine EW.drawT ord26 tab26 rfl (by kernel_rfl) (by kernel_rfl) (by kernel_rfl) ?_)
      refine OX.q rfl (WantE.none rfl) (Qy.loadk rfl rfl rfl rfl (Blk.at0 hF.out.2.2.1)) ?_
      refine OX.q rfl (WantE.none rfl) (Qy.loadk rfl rfl rfl rfl (Blk.at0 hF.out.2.1)) ?_
      refine OX.q rfl (by first | exact WantE.none rfl | exact WantE.yes rfl rfl rfl (by first | assumption | rfl | exact decide_eq_true rfl)) (Qy.call rfl rfl (fun h1 hE => ec_ _ e he0.1 he0.2)) ?_
      refine OX.q rfl (by first | exact WantE.none rfl | exact WantE.yes rfl rfl rfl (by first | assumption | rfl | exact decide_eq_true rfl)) (Qy.call rfl rfl (fun h1 hE => ec_ _ (ix hs k) hx0.1 hx0.2)) ?_
      refine OX.p rfl rfl (WantE.none rfl) ?_
      refine OX.nil ?_
      refine qT_n ?_
      refine EW.cond rfl ?_ ?_
      intro hb
      have hb' := of_decide_eq_true hb
      (refine EW.drawT ord26 tab26 rfl (by kernel_rfl) (by kernel_rfl) (by kernel_rfl) ?_)
      refine OX.p rfl rfl (WantE.none rfl) ?_
      refine OX.q rfl (WantE.none rfl) (Qy.loadk rfl rfl rfl rfl (Blk.at0 hF.out.2.2.1)) ?_
      refine OX.q rfl (WantE.none rfl) (Qy.loadk rfl rfl rfl rfl (Blk.at0 hF.out.2.1)) ?_
      refine OX.q rfl (WantE.none rfl) (Qy.loadk rfl rfl rfl rfl (Blk.at0 hF.out.2.2.1)) ?_
      refine OX.q rfl (by first | exact WantE.none rfl | exact WantE.yes rfl rfl rfl (by first | assumption | rfl | exact decide_eq_true rfl)) (Qy.call rfl rfl (fun h1 hE => ec_ _ e he0.1 he0.2)) ?_
      refine OX.q rfl (by first | exact WantE.none rfl | exact WantE.yes rfl rfl rfl (by first | assumption | rfl | exact decide_eq_true rfl)) (Qy.call rfl rfl (fun h1 hE => ec_ _ (ix hs k) hx0.1 hx0.2)) ?_
      refine OX.q rfl (by first | exact WantE.none rfl | exact WantE.yes rfl rfl rfl (by first | assumption | rfl | exact decide_eq_true rfl)) (Qy.call rfl rfl (fun h1 hE => ec_ _ e he0.1 he0.2)) ?_
      refine OX.q rfl (WantE.none rfl) (Qy.subi rfl rfl rfl (by omega)) ?_
      refine OX.q rfl (WantE.none rfl) (Qy.buildF rfl rfl) ?_
      rotate_left
      intro hb
      have hb' := of_decide_eq_false hb
      refine EW.skip ?_
      refine qT_n ?_
      refine EW.sreg rfl ?_
      refine OX.tagc ?_
      refine OX.p rfl rfl (WantE.none rfl) ?_
      refine OX.tagc ?_
      refine OX.p rfl rfl (WantE.none rfl) ?_
      refine OX.tagc ?_
      refine OX.p rfl rfl (WantE.none rfl) ?_
      refine OX.tagc ?_
      refine OX.p rfl rfl (WantE.none rfl) ?_
      refine OX.tagc ?_
      refine OX.q rfl (WantE.none rfl) (Qy.load1 rfl rfl rfl (Blk.cell hF.out.2.2.2.1 rfl rfl)) ?_
      refine OX.tagc ?_
      refine OX.p rfl rfl (WantE.none rfl) ?_
      refine OX.tagc ?_
      refine OX.p rfl rfl (WantE.none rfl) ?_
      refine OX.tagc ?_
      refine OX.q rfl (WantE.none rfl) (Qy.addi rfl rfl rfl (by omega)) ?_
      refine OX.tagc ?_
      refine OX.p rfl rfl (WantE.none rfl) ?_
      refine OX.tagc ?_
      rotate_left
    · refine OX.gr rfl rfl (WantE.none rfl) (Gr.lit (xs := [(⟨e.first + e.count, (ix hs k).first + (ix hs k).count - (e.first + e.count)⟩ : Ex)]) (bytes := 16) rfl rfl rfl rfl rfl rfl (by decide) ?_)
      intro b4 h4 hb4 hE4 hlt4 hO4
      replace hF := hF.up hE4
      focus
        rotate_left
      refine OX.ac rfl rfl (WantE.none rfl) (Runs.append (xs := [] ++ [(⟨(ix hs k).first, e.first - (ix hs k).first⟩ : Ex)]) (ys := [(⟨e.first + e.count, (ix hs k).first + (ix hs k).count - (e.first + e.count)⟩ : Ex)]) (base := h1.size) (bytes := 16) rfl rfl rfl rfl rfl rfl hF.out.1 hO4.rd (by have := hF.out.2.2.2.2.2.2.1.1; omega) (by simp) ?_)
      intro A5 c5 h5 hO5 hC5 hM5
      have hX5 : Ext h1 h5 := Chg.fresh (by first | exact hF.out.1 | exact hF.out.2.1 | exact hF.out.2.2.1 | exact hF.out.2.2.2.1 | exact hF.out.2.2.2.2.1 | exact hF.out.2.2.2.2.2.1 | exact hF.out.2.2.2.2.2.2.1 | exact hF.out.2.2.2.2.2.2.2.1 | exact hF.out.2.2.2.2.2.2.2.2.1 | assumption) hC5 (fun m hm => hO2.blk_ge m hm)
      replace hF := (hK.up hX5).own hO5
      focus
        refine OX.p rfl rfl (WantE.none rfl) ?_
        refine OX.nil ?_
        refine qT_n ?_
        refine EW.sreg rfl ?_
        refine OX.tagc ?_
        refine OX.p rfl rfl (WantE.none rfl) ?_
        refine OX.tagc ?_
        refine OX.p rfl rfl (WantE.none rfl) ?_
        refine OX.tagc ?_
        refine OX.p rfl rfl (WantE.none rfl) ?_
        refine OX.tagc ?_
        refine OX.p rfl rfl (WantE.none rfl) ?_
        refine OX.tagc ?_
        refine OX.q rfl (WantE.none rfl) (Qy.load1 rfl rfl rfl (Blk.cell hF.out.2.1 rfl rfl)) ?_
        refine OX.tagc ?_
        refine OX.p rfl rfl (WantE.none rfl) ?_
        refine OX.tagc ?_
        refine OX.p rfl rfl (WantE.none rfl) ?_
        refine OX.tagc ?_
        refine OX.q rfl (WantE.none rfl) (Qy.addi rfl rfl rfl (by omega)) ?_
        refine OX.tagc ?_
        refine OX.p rfl rfl (WantE.none rfl) ?_
        refine OX.tagc ?_
        rotate_left
      refine OX.ac rfl rfl (WantE.none rfl) (Runs.call (M := blk A) (R := fun h2 => RowPost h2 base 35 A (hs.take k ++ ([] ++ [(⟨(ix hs k).first, e.first - (ix hs k).first⟩ : Ex)] ++ [(⟨e.first + e.count, (ix hs k).first + (ix hs k).count - (e.first + e.count)⟩ : Ex)]) ++ hs.drop (k + 1))) rfl rfl (fun h2 hE => replace_c h2 base A c hs k (k + 1) _ _ ([] ++ [(⟨(ix hs k).first, e.first - (ix hs k).first⟩ : Ex)] ++ [(⟨e.first + e.count, (ix hs k).first + (ix hs k).count - (e.first + e.count)⟩ : Ex)]) (hF.out.2.2.2.1.ext hE) ((hF.out.1.mono (Nat.zero_le _)).ext hE) ?_ (by omega) (by omega) (by have := hE.1; have := hX.1; have := hX5.1; omega) ?_) ?_)
      · intro x hx hx2; have := hm2.blk_lt x hx; have := (hF.out.1).blk_ge x hx2; have := hX.1; omega
      · simp; omega
      rintro h7 v h8 hE7 hC8 ⟨A', c', rfl, hO8, hM8⟩
      have hX7 : Ext h h7 := hX.trans (hF.out.2.2.2.2.1.trans hE7)
      have hB8 := (hm1.ext hX7).chg hC8 hm3
      focus
        refine OX.tagc ?_
        refine OX.p rfl rfl (WantE.none rfl) ?_
        refine OX.tagc ?_
        refine OX.p rfl rfl (WantE.none rfl) ?_
        refine OX.tagc ?_
        rotate_left
      refine OX.ac0 rfl rfl (WantE.none rfl) (Runs.storeF rfl rfl rfl rfl rfl hB8 rfl rfl rfl ?_)
      intro h9 hC9 hB9
      focus
        refine OX.tagn ?_
        refine rQ_n ?_
        refine Rets.none rfl ?_
        rotate_left
      refine ⟨Chg.of_ext_left hX7 ((hC8.mono (fun x _ hx => List.mem_cons_of_mem _ hx)).trans (hC9.mono (fun x _ hx => by simp only [List.mem_singleton] at hx; subst hx; exact List.mem_cons_self))), A', c', done_ (by unfold cutR; rw [if_pos hc1, if_pos hb'] <;> rfl) ⟨hB9, hO8.chg hC9 ?_, ?_, hm4⟩, ?_⟩
      · intro x hx hx2
        have hxb : x = b := by simpa using hx2
        subst hxb
        rcases hM8 with hM8 | hM8
        · rw [hM8] at hx; exact hm3 hx
        · have := hM8 x hx; have := hX7.1; have := hm1.lt; omega
      · intro hx
        rcases hM8 with hM8 | hM8
        · rw [hM8] at hx; exact hm3 hx
        · have := hM8 b hx; have := hX7.1; have := hm1.lt; omega
      · rcases hM8 with hM8 | hM8
        · exact .inl hM8
        · exact .inr fun x hx => Nat.le_trans hX7.1 (hM8 x hx)
    · have hX5 : Ext h1 h3 := (by first | exact hF.out.1 | exact hF.out.2.1 | exact hF.out.2.2.1 | exact hF.out.2.2.2.1 | exact hF.out.2.2.2.2.1 | exact hF.out.2.2.2.2.2.1 | exact hF.out.2.2.2.2.2.2.1 | exact hF.out.2.2.2.2.2.2.2.1 | exact hF.out.2.2.2.2.2.2.2.2.1 | assumption)
      replace hF := (hK.up hX5).own hO2
      refine OX.ac rfl rfl (WantE.none rfl) (Runs.call (M := blk A) (R := fun h2 => RowPost h2 base 35 A (hs.take k ++ ([] ++ [(⟨(ix hs k).first, e.first - (ix hs k).first⟩ : Ex)]) ++ hs.drop (k + 1))) rfl rfl (fun h2 hE => replace_c h2 base A c hs k (k + 1) _ _ ([] ++ [(⟨(ix hs k).first, e.first - (ix hs k).first⟩ : Ex)]) (hF.out.2.2.2.1.ext hE) ((hF.out.1.mono (Nat.zero_le _)).ext hE) ?_ (by omega) (by omega) (by have := hE.1; have := hX.1; have := hX5.1; omega) ?_) ?_)
      · intro x hx hx2; have := hm2.blk_lt x hx; have := (hF.out.1).blk_ge x hx2; have := hX.1; omega
      · simp; omega
      rintro h7 v h8 hE7 hC8 ⟨A', c', rfl, hO8, hM8⟩
      have hX7 : Ext h h7 := hX.trans (hF.out.2.2.2.2.1.trans hE7)
      have hB8 := (hm1.ext hX7).chg hC8 hm3
      focus
        refine OX.tagc ?_
        refine OX.p rfl rfl (WantE.none rfl) ?_
        refine OX.tagc ?_
        refine OX.p rfl rfl (WantE.none rfl) ?_
        refine OX.tagc ?_
        rotate_left
      refine OX.ac0 rfl rfl (WantE.none rfl) (Runs.storeF rfl rfl rfl rfl rfl hB8 rfl rfl rfl ?_)
      intro h9 hC9 hB9
      focus
        refine OX.tagn ?_
        refine rQ_n ?_
        refine Rets.none rfl ?_
        rotate_left
      refine ⟨Chg.of_ext_left hX7 ((hC8.mono (fun x _ hx => List.mem_cons_of_mem _ hx)).trans (hC9.mono (fun x _ hx => by simp only [List.mem_singleton] at hx; subst hx; exact List.mem_cons_self))), A', c', done_ (by unfold cutR; rw [if_pos hc1, if_neg hb'] <;> rfl) ⟨hB9, hO8.chg hC9 ?_, ?_, hm4⟩, ?_⟩
      · intro x hx hx2
        have hxb : x = b := by simpa using hx2
        subst hxb
        rcases hM8 with hM8 | hM8
        · rw [hM8] at hx; exact hm3 hx
        · have := hM8 x hx; have := hX7.1; have := hm1.lt; omega
      · intro hx
        rcases hM8 with hM8 | hM8
        · rw [hM8] at hx; exact hm3 hx
        · have := hM8 b hx; have := hX7.1; have := hm1.lt; omega
      · rcases hM8 with hM8 | hM8
        · exact .inl hM8
        · exact .inr fun x hx => Nat.le_trans hX7.1 (hM8 x hx)
  · have hc1 := hb'
    focus
      (refine EW.drawT ord26 tab26 rfl (by kernel_rfl) (by kernel_rfl) (by kernel_rfl) ?_)
      refine OX.q rfl (WantE.none rfl) (Qy.loadk rfl rfl rfl rfl (Blk.at0 hF.out.2.1)) ?_
      refine OX.q rfl (WantE.none rfl) (Qy.loadk rfl rfl rfl rfl (Blk.at0 hF.out.1)) ?_
      refine OX.q rfl (by first | exact WantE.none rfl | exact WantE.yes rfl rfl rfl (by first | assumption | rfl | exact decide_eq_true rfl)) (Qy.call rfl rfl (fun h1 hE => ec_ _ e he0.1 he0.2)) ?_
      refine OX.q rfl (by first | exact WantE.none rfl | exact WantE.yes rfl rfl rfl (by first | assumption | rfl | exact decide_eq_true rfl)) (Qy.call rfl rfl (fun h1 hE => ec_ _ (ix hs k) hx0.1 hx0.2)) ?_
      refine OX.p rfl rfl (WantE.none rfl) ?_
      refine OX.nil ?_
      refine qT_n ?_
      refine EW.cond rfl ?_ ?_
      intro hb
      have hb' := of_decide_eq_true hb
      (refine EW.drawT ord26 tab26 rfl (by kernel_rfl) (by kernel_rfl) (by kernel_rfl) ?_)
      refine OX.p rfl rfl (WantE.none rfl) ?_
      refine OX.q rfl (WantE.none rfl) (Qy.loadk rfl rfl rfl rfl (Blk.at0 hF.out.2.1)) ?_
      refine OX.q rfl (WantE.none rfl) (Qy.loadk rfl rfl rfl rfl (Blk.at0 hF.out.1)) ?_
      refine OX.q rfl (WantE.none rfl) (Qy.loadk rfl rfl rfl rfl (Blk.at0 hF.out.2.1)) ?_
      refine OX.q rfl (by first | exact WantE.none rfl | exact WantE.yes rfl rfl rfl (by first | assumption | rfl | exact decide_eq_true rfl)) (Qy.call rfl rfl (fun h1 hE => ec_ _ e he0.1 he0.2)) ?_
      refine OX.q rfl (by first | exact WantE.none rfl | exact WantE.yes rfl rfl rfl (by first | assumption | rfl | exact decide_eq_true rfl)) (Qy.call rfl rfl (fun h1 hE => ec_ _ (ix hs k) hx0.1 hx0.2)) ?_
      refine OX.q rfl (by first | exact WantE.none rfl | exact WantE.yes rfl rfl rfl (by first | assumption | rfl | exact decide_eq_true rfl)) (Qy.call rfl rfl (fun h1 hE => ec_ _ e he0.1 he0.2)) ?_
      refine OX.q rfl (WantE.none rfl) (Qy.subi rfl rfl rfl (by omega)) ?_
      refine OX.q rfl (WantE.none rfl) (Qy.buildF rfl rfl) ?_
      rotate_left
      intro hb
      have hb' := of_decide_eq_false hb
      refine EW.skip ?_
      refine qT_n ?_
      refine EW.sreg rfl ?_
      refine OX.tagc ?_
      refine OX.p rfl rfl (WantE.none rfl) ?_
      refine OX.tagc ?_
      refine OX.p rfl rfl (WantE.none rfl) ?_
      refine OX.tagc ?_
      refine OX.p rfl rfl (WantE.none rfl) ?_
      refine OX.tagc ?_
      refine OX.p rfl rfl (WantE.none rfl) ?_
      refine OX.tagc ?_
      refine OX.q rfl (WantE.none rfl) (Qy.load1 rfl rfl rfl (Blk.cell hF.out.2.2.1 rfl rfl)) ?_
      refine OX.tagc ?_
      refine OX.p rfl rfl (WantE.none rfl) ?_
      refine OX.tagc ?_
      refine OX.p rfl rfl (WantE.none rfl) ?_
      refine OX.tagc ?_
      refine OX.q rfl (WantE.none rfl) (Qy.addi rfl rfl rfl (by omega)) ?_
      refine OX.tagc ?_
      refine OX.p rfl rfl (WantE.none rfl) ?_
      refine OX.tagc ?_
      rotate_left
    · refine OX.gr rfl rfl (WantE.none rfl) (Gr.lit (xs := [(⟨e.first + e.count, (ix hs k).first + (ix hs k).count - (e.first + e.count)⟩ : Ex)]) (bytes := 16) rfl rfl rfl rfl rfl rfl (by decide) ?_)
      intro b4 h4 hb4 hE4 hlt4 hO4
      replace hF := hF.up hE4
      focus
        rotate_left
      refine OX.ac rfl rfl (WantE.none rfl) (Runs.append (xs := ([] : List Ex)) (ys := [(⟨e.first + e.count, (ix hs k).first + (ix hs k).count - (e.first + e.count)⟩ : Ex)]) (base := h1.size) (bytes := 16) rfl rfl rfl rfl rfl rfl (Own.nil _ _ _) hO4.rd (by have : Ext h1 h4 := (by first | exact hF.out.1 | exact hF.out.2.1 | exact hF.out.2.2.1 | exact hF.out.2.2.2.1 | exact hF.out.2.2.2.2.1 | exact hF.out.2.2.2.2.2.1 | exact hF.out.2.2.2.2.2.2.1 | exact hF.out.2.2.2.2.2.2.2.1 | exact hF.out.2.2.2.2.2.2.2.2.1 | assumption); exact this.1) (by simp) ?_)
      intro A5 c5 h5 hO5 hC5 hM5
      have hX4 : Ext h1 h4 := (by first | exact hF.out.1 | exact hF.out.2.1 | exact hF.out.2.2.1 | exact hF.out.2.2.2.1 | exact hF.out.2.2.2.2.1 | exact hF.out.2.2.2.2.2.1 | exact hF.out.2.2.2.2.2.2.1 | exact hF.out.2.2.2.2.2.2.2.1 | exact hF.out.2.2.2.2.2.2.2.2.1 | assumption)
      have hX5 : Ext h1 h5 := hX4.trans hC5.ext
      replace hF := (hK.up hX5).own hO5
      focus
        refine OX.p rfl rfl (WantE.none rfl) ?_
        refine OX.nil ?_
        refine qT_n ?_
        refine EW.sreg rfl ?_
        refine OX.tagc ?_
        refine OX.p rfl rfl (WantE.none rfl) ?_
        refine OX.tagc ?_
        refine OX.p rfl rfl (WantE.none rfl) ?_
        refine OX.tagc ?_
        refine OX.p rfl rfl (WantE.none rfl) ?_
        refine OX.tagc ?_
        refine OX.p rfl rfl (WantE.none rfl) ?_
        refine OX.tagc ?_
        refine OX.q rfl (WantE.none rfl) (Qy.load1 rfl rfl rfl (Blk.cell hF.out.2.1 rfl rfl)) ?_
        refine OX.tagc ?_
        refine OX.p rfl rfl (WantE.none rfl) ?_
        refine OX.tagc ?_
        refine OX.p rfl rfl (WantE.none rfl) ?_
        refine OX.tagc ?_
        refine OX.q rfl (WantE.none rfl) (Qy.addi rfl rfl rfl (by omega)) ?_
        refine OX.tagc ?_
        refine OX.p rfl rfl (WantE.none rfl) ?_
        refine OX.tagc ?_
        rotate_left
      refine OX.ac rfl rfl (WantE.none rfl) (Runs.call (M := blk A) (R := fun h2 => RowPost h2 base 35 A (hs.take k ++ ([] ++ [(⟨e.first + e.count, (ix hs k).first + (ix hs k).count - (e.first + e.count)⟩ : Ex)]) ++ hs.drop (k + 1))) rfl rfl (fun h2 hE => replace_c h2 base A c hs k (k + 1) _ _ ([] ++ [(⟨e.first + e.count, (ix hs k).first + (ix hs k).count - (e.first + e.count)⟩ : Ex)]) (hF.out.2.2.2.1.ext hE) ((hF.out.1.mono (Nat.zero_le _)).ext hE) ?_ (by omega) (by omega) (by have := hE.1; have := hX.1; have := hX5.1; omega) ?_) ?_)
      · intro x hx hx2; have := hm2.blk_lt x hx; have := (hF.out.1).blk_ge x hx2; have := hX.1; omega
      · simp; omega
      rintro h7 v h8 hE7 hC8 ⟨A', c', rfl, hO8, hM8⟩
      have hX7 : Ext h h7 := hX.trans (hF.out.2.2.2.2.1.trans hE7)
      have hB8 := (hm1.ext hX7).chg hC8 hm3
      focus
        refine OX.tagc ?_
        refine OX.p rfl rfl (WantE.none rfl) ?_
        refine OX.tagc ?_
        refine OX.p rfl rfl (WantE.none rfl) ?_
        refine OX.tagc ?_
        rotate_left
      refine OX.ac0 rfl rfl (WantE.none rfl) (Runs.storeF rfl rfl rfl rfl rfl hB8 rfl rfl rfl ?_)
      intro h9 hC9 hB9
      focus
        refine OX.tagn ?_
        refine rQ_n ?_
        refine Rets.none rfl ?_
        rotate_left
      refine ⟨Chg.of_ext_left hX7 ((hC8.mono (fun x _ hx => List.mem_cons_of_mem _ hx)).trans (hC9.mono (fun x _ hx => by simp only [List.mem_singleton] at hx; subst hx; exact List.mem_cons_self))), A', c', done_ (by unfold cutR; rw [if_neg hc1, if_pos hb'] <;> rfl) ⟨hB9, hO8.chg hC9 ?_, ?_, hm4⟩, ?_⟩
      · intro x hx hx2
        have hxb : x = b := by simpa using hx2
        subst hxb
        rcases hM8 with hM8 | hM8
        · rw [hM8] at hx; exact hm3 hx
        · have := hM8 x hx; have := hX7.1; have := hm1.lt; omega
      · intro hx
        rcases hM8 with hM8 | hM8
        · rw [hM8] at hx; exact hm3 hx
        · have := hM8 b hx; have := hX7.1; have := hm1.lt; omega
      · rcases hM8 with hM8 | hM8
        · exact .inl hM8
        · exact .inr fun x hx => Nat.le_trans hX7.1 (hM8 x hx)
    · have hX5 : Ext h1 _ := (by first | exact hF.out.1 | exact hF.out.2.1 | exact hF.out.2.2.1 | exact hF.out.2.2.2.1 | exact hF.out.2.2.2.2.1 | exact hF.out.2.2.2.2.2.1 | exact hF.out.2.2.2.2.2.2.1 | exact hF.out.2.2.2.2.2.2.2.1 | exact hF.out.2.2.2.2.2.2.2.2.1 | assumption)
      replace hF := (hK.up hX5).own (Own.nil _ h1.size 35 : Own _ _ _ none 0 ([] : List Ex))
      refine OX.ac rfl rfl (WantE.none rfl) (Runs.call (M := blk A) (R := fun h2 => RowPost h2 base 35 A (hs.take k ++ ([] : List Ex) ++ hs.drop (k + 1))) rfl rfl (fun h2 hE => replace_c h2 base A c hs k (k + 1) _ _ ([] : List Ex) (hF.out.2.2.2.1.ext hE) ((hF.out.1.mono (Nat.zero_le _)).ext hE) ?_ (by omega) (by omega) (by have := hE.1; have := hX.1; have := hX5.1; omega) ?_) ?_)
      · intro x hx hx2; have := hm2.blk_lt x hx; have := (hF.out.1).blk_ge x hx2; have := hX.1; omega
      · simp; omega
      rintro h7 v h8 hE7 hC8 ⟨A', c', rfl, hO8, hM8⟩
      have hX7 : Ext h h7 := hX.trans (hF.out.2.2.2.2.1.trans hE7)
      have hB8 := (hm1.ext hX7).chg hC8 hm3
      focus
        refine OX.tagc ?_
        refine OX.p rfl rfl (WantE.none rfl) ?_
        refine OX.tagc ?_
        refine OX.p rfl rfl (WantE.none rfl) ?_
        refine OX.tagc ?_
        rotate_left
      refine OX.ac0 rfl rfl (WantE.none rfl) (Runs.storeF rfl rfl rfl rfl rfl hB8 rfl rfl rfl ?_)
      intro h9 hC9 hB9
      focus
        refine OX.tagn ?_
        refine rQ_n ?_
        refine Rets.none rfl ?_
        rotate_left
      refine ⟨Chg.of_ext_left hX7 ((hC8.mono (fun x _ hx => List.mem_cons_of_mem _ hx)).trans (hC9.mono (fun x _ hx => by simp only [List.mem_singleton] at hx; subst hx; exact List.mem_cons_self))), A', c', done_ (by unfold cutR; rw [if_neg hc1, if_neg hb'] <;> rfl) ⟨hB9, hO8.chg hC9 ?_, ?_, hm4⟩, ?_⟩
      · intro x hx hx2
        have hxb : x = b := by simpa using hx2
        subst hxb
        rcases hM8 with hM8 | hM8
        · rw [hM8] at hx; exact hm3 hx
        · have := hM8 x hx; have := hX7.1; have := hm1.lt; omega
      · intro hx
        rcases hM8 with hM8 | hM8
        · rw [hM8] at hx; exact hm3 hx
        · have := hM8 b hx; have := hX7.1; have := hm1.lt; omega
      · rcases hM8 with hM8 | hM8
        · exact .inl hM8
        · exact .inr fun x hx => Nat.le_trans hX7.1 (hM8 x hx)
end Go.Px.Ext_
