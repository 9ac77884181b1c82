/- Steps of a proof: contracts of functions, walked. -/
import Derived.Test.YtiahamibfpamgaaPxExJ
set_option linter.unusedVariables false
set_option linter.unusedSimpArgs false
set_option maxRecDepth 10000
namespace Go.Px.Ext_
open Go.Proofs Go.Px
theorem rlong_c (h : Heap) (A : Option Addr) (c : Nat) (q : List Bool) (hr : Rd h A q) (hlen : q.length ≤ 4096) : FG Try.prog 38 [.slice A q.length c] h (.int .i64 (maxC 0 (hl q q.length))) := by
  refine FC.of_EW (fun a w => Try.call38 a w) Try.func38 rfl rfl fun s h1 hX => ?_
  have hF := ((Know.nil h1).since hX).rd (hr.ext hX)
  focus
    refine EW.seq ?_
    refine EW.sreg rfl ?_
    refine OX.tagc ?_
    refine OX.p rfl rfl (WantE.none rfl) ?_
    refine OX.tagn ?_
    refine qT_n ?_
    refine EW.seq ?_
    refine EW.sreg rfl ?_
    refine OX.tagc ?_
    refine OX.p rfl rfl (WantE.none rfl) ?_
    refine OX.tagn ?_
    refine qT_n ?_
    refine EW.seq ?_
    refine EW.sreg rfl ?_
    refine OX.tagc ?_
    refine OX.p rfl rfl (WantE.none rfl) ?_
    refine OX.tagc ?_
    rotate_left
  refine OX.gr rfl rfl (WantE.none rfl) (Gr.call (R := fun h2 v h' => ∃ A' c', v = .slice A' (hl q q.length).length c' ∧ Own h' h2.size 35 A' c' (hl q q.length)) rfl rfl (fun h2 hE => rholes_c h2 A c q (hF.out.1.ext hE) hlen) ?_)
  rintro h2 v h3 hE2 hE3 ⟨A', c', rfl, hO⟩
  replace hF := (hF.up (hE2.trans hE3)).rd hO.rd
  have hll := hl_len q q.length
  have hK := hF
  focus
    refine OX.tagc ?_
    refine OX.p rfl rfl (WantE.none rfl) ?_
    refine OX.tagn ?_
    refine qT_n ?_
    refine EW.seq ?_
    refine EW.seq ?_
    refine EW.sreg rfl ?_
    refine OX.tagc ?_
    refine OX.p rfl rfl (WantE.none rfl) ?_
    refine OX.tagn ?_
    refine qT_n ?_
    refine EW.block ?_
    rotate_left
  refine EW.loopS (fun i : Nat => [(3, .int .i64 (maxC 0 ((hl q q.length).take i))), (4, .slice A' (hl q q.length).length c'), (5, .int .i64 i)]) (fun i h' => h' = h3 ∧ i ≤ (hl q q.length).length) (fun i => (hl q q.length).length - i) 0
    ⟨rfl, rfl, rfl, trivial⟩ ⟨rfl, by omega⟩ ?_
  rintro i e _ ⟨rfl, hi⟩
  focus
    refine EW.seq ?_
    refine EW.seq ?_
    refine EW.sreg rfl ?_
    refine OX.tagc ?_
    refine OX.p rfl rfl (WantE.none rfl) ?_
    refine OX.tagc ?_
    refine OX.p rfl rfl (WantE.none rfl) ?_
    refine OX.tagc ?_
    refine OX.p rfl rfl (WantE.none rfl) ?_
    refine OX.tagc ?_
    refine OX.p rfl rfl (WantE.none rfl) ?_
    refine OX.tagn ?_
    refine qT_n ?_
    refine EW.cond rfl ?_ ?_
    intro hb
    have hb' := of_decide_eq_true hb
    refine EW.skip ?_
    refine qT_n ?_
    refine EW.seq ?_
    refine EW.block ?_
    refine EW.sreg rfl ?_
    refine OX.tagc ?_
    refine OX.p rfl rfl (WantE.none rfl) ?_
    refine OX.tagc ?_
    refine OX.p rfl rfl (WantE.none rfl) ?_
    refine OX.tagc ?_
    refine OX.p rfl rfl (WantE.none rfl) ?_
    refine OX.tagc ?_
    refine OX.q rfl (WantE.none rfl) (Qy.indexRd rfl rfl rfl rfl rfl hF.out.1 rfl (by omega)) ?_
    refine OX.tagc ?_
    refine OX.p rfl rfl (WantE.none rfl) ?_
    refine OX.tagc ?_
    refine OX.q rfl (WantE.none rfl) (Qy.loadEl rfl rfl rfl hF.out.1 rfl (by omega) rfl) ?_
    refine OX.tagc ?_
    refine OX.p rfl rfl (WantE.none rfl) ?_
    refine OX.tagc ?_
    refine OX.p rfl rfl (WantE.none rfl) ?_
    refine OX.tagn ?_
    refine qB_n ?_
    refine qT_n ?_
    refine EW.sreg rfl ?_
    refine OX.tagc ?_
    refine OX.p rfl rfl (WantE.none rfl) ?_
    refine OX.tagc ?_
    refine OX.q rfl (WantE.none rfl) (Qy.addi rfl rfl rfl (by omega)) ?_
    refine OX.tagc ?_
    refine OX.p rfl rfl (WantE.none rfl) ?_
    refine OX.tagn ?_
    refine qT_n ?_
    rotate_left
    intro hb
    have hb' := of_decide_eq_false hb
    refine EW.exit ?_
    refine qT_exit ?_
    refine qT_exit ?_
    refine qB_hit ?_
    refine qT_n ?_
    refine EW.seq ?_
    refine EW.sreg rfl ?_
    refine OX.tagc ?_
    refine OX.p rfl rfl (WantE.none rfl) ?_
    refine OX.tagc ?_
    refine OX.p rfl rfl (WantE.none rfl) ?_
    refine OX.tagn ?_
    refine qT_n ?_
    refine EW.ret ?_
    refine rQ_ret ?_
    refine Rets.one rfl ?_
    rotate_left
  · refine ⟨i + 1, ⟨?_, rfl, rfl, trivial⟩, ⟨rfl, by omega⟩, by omega⟩
    rw [take_ix _ _ (by omega), maxC_app]
    rfl
  · refine ⟨Ext.chg (by first | exact hF.out.1 | exact hF.out.2.1 | exact hF.out.2.2.1 | exact hF.out.2.2.2.1 | exact hF.out.2.2.2.2.1 | exact hF.out.2.2.2.2.2.1 | exact hF.out.2.2.2.2.2.2.1 | exact hF.out.2.2.2.2.2.2.2.1 | exact hF.out.2.2.2.2.2.2.2.2.1 | assumption) _, congrArg (Value.int .i64) ?_⟩
    rw [List.take_of_length_le (by omega)]
/-- what a map of truths becomes, and why not -/
def setQ (q : List Bool) (e : Ex) (t : Bool) : List Bool × Int := if mayB q.length e then (if allB q e.first e.count.toNat (!t) then (setR q e.first e.count.toNat t, 0) else (q, 3)) else (q, 1)
def QPost (h : Heap) (A : Option Addr) (r : List Bool × Int) (v : Value) (h' : Heap) : Prop := ∃ A' c', v = .tuple #[.slice A' r.1.length c', .int .i64 r.2] ∧ Own h' 0 4 A' c' r.1 ∧ Moved h A A'
theorem rtake_c (h : Heap) (A : Option Addr) (c : Nat) (q : List Bool) (x : Ex) (ho : Own h 0 4 A c q) (hlen : q.length ≤ 4096) : FC Try.prog 16 [.slice A q.length c, exV x] h [] (QPost h A (setQ q x true)) := by
  refine FC.of_EW (fun a w => Try.call16 a w) Try.func16 rfl rfl fun s h1 hX => ?_
  have hF := ((Know.nil h1).since hX).rd (ho.rd.ext hX)
  cases hm : mayB q.length x with
  | false =>
    have hr : setQ q x true = (q, 1) := by unfold setQ; rw [hm]; rfl
    rw [hr]
    focus
      refine EW.seq ?_
      refine EW.sreg rfl ?_
      refine OX.tagc ?_
      (refine OX.gr rfl rfl (WantE.none rfl) (Gr.boxF rfl rfl ?_); intro b_ h_ hb_ hE hB; have hz_ := hE.1; replace hF := (hF.up hE).blk hB)
      refine OX.tagc ?_
      refine OX.p rfl rfl (WantE.none rfl) ?_
      refine OX.tagc ?_
      refine OX.p rfl rfl (WantE.none rfl) ?_
      refine OX.tagn ?_
      refine qT_n ?_
      refine EW.seq ?_
      refine EW.seq ?_
      refine EW.sreg rfl ?_
      refine OX.tagc ?_
      refine OX.p rfl rfl (WantE.none rfl) ?_
      refine OX.tagc ?_
      refine OX.q rfl (WantE.none rfl) (Qy.loadk rfl rfl rfl rfl (Blk.at0 hF.out.1)) ?_
      refine OX.tagc ?_
      refine OX.q rfl (by first | exact WantE.none rfl | exact WantE.yes rfl rfl rfl (by first | assumption | rfl | exact decide_eq_true rfl)) (Qy.call rfl rfl (fun h1 hE => (by have := rmay_c h1 A c q x hlen; rw [hm] at this; exact this))) ?_
      refine OX.tagc ?_
      refine OX.p rfl rfl (WantE.none rfl) ?_
      refine OX.tagn ?_
      refine qT_n ?_
      refine EW.cond_t rfl rfl ?_
      refine EW.seq ?_
      refine EW.sreg rfl ?_
      refine OX.tagc ?_
      refine OX.p rfl rfl (WantE.none rfl) ?_
      refine OX.tagc ?_
      refine OX.p rfl rfl (WantE.none rfl) ?_
      refine OX.tagc ?_
      refine OX.p rfl rfl (WantE.none rfl) ?_
      refine OX.tagn ?_
      refine qT_n ?_
      refine EW.ret ?_
      refine qT_ret ?_
      refine rQ_ret ?_
      refine Rets.two rfl ?_
      rotate_left
    exact ⟨Ext.chg (by first | exact hF.out.1 | exact hF.out.2.1 | exact hF.out.2.2.1 | exact hF.out.2.2.2.1 | exact hF.out.2.2.2.2.1 | exact hF.out.2.2.2.2.2.1 | exact hF.out.2.2.2.2.2.2.1 | exact hF.out.2.2.2.2.2.2.2.1 | exact hF.out.2.2.2.2.2.2.2.2.1 | assumption) _, A, c, rfl, ho.ext (by first | exact hF.out.1 | exact hF.out.2.1 | exact hF.out.2.2.1 | exact hF.out.2.2.2.1 | exact hF.out.2.2.2.2.1 | exact hF.out.2.2.2.2.2.1 | exact hF.out.2.2.2.2.2.2.1 | exact hF.out.2.2.2.2.2.2.2.1 | exact hF.out.2.2.2.2.2.2.2.2.1 | assumption), .inl rfl⟩
  | true =>
    cases ha : allB q x.first x.count.toNat (!true) with
    | false =>
      have hr : setQ q x true = (q, 3) := by unfold setQ; rw [hm, ha]; rfl
      rw [hr]
      focus
        refine EW.seq ?_
        refine EW.sreg rfl ?_
        refine OX.tagc ?_
        (refine OX.gr rfl rfl (WantE.none rfl) (Gr.boxF rfl rfl ?_); intro b_ h_ hb_ hE hB; have hz_ := hE.1; replace hF := (hF.up hE).blk hB)
        refine OX.tagc ?_
        refine OX.p rfl rfl (WantE.none rfl) ?_
        refine OX.tagc ?_
        refine OX.p rfl rfl (WantE.none rfl) ?_
        refine OX.tagn ?_
        refine qT_n ?_
        refine EW.seq ?_
        refine EW.seq ?_
        refine EW.sreg rfl ?_
        refine OX.tagc ?_
        refine OX.p rfl rfl (WantE.none rfl) ?_
        refine OX.tagc ?_
        refine OX.q rfl (WantE.none rfl) (Qy.loadk rfl rfl rfl rfl (Blk.at0 hF.out.1)) ?_
        refine OX.tagc ?_
        refine OX.q rfl (by first | exact WantE.none rfl | exact WantE.yes rfl rfl rfl (by first | assumption | rfl | exact decide_eq_true rfl)) (Qy.call rfl rfl (fun h1 hE => (by have := rmay_c h1 A c q x hlen; rw [hm] at this; exact this))) ?_
        refine OX.tagc ?_
        refine OX.p rfl rfl (WantE.none rfl) ?_
        refine OX.tagn ?_
        refine qT_n ?_
        refine EW.cond_f rfl rfl ?_
        refine EW.skip ?_
        refine qT_n ?_
        refine EW.seq ?_
        refine EW.seq ?_
        refine EW.sreg rfl ?_
        refine OX.tagc ?_
        refine OX.p rfl rfl (WantE.none rfl) ?_
        refine OX.tagc ?_
        refine OX.q rfl (WantE.none rfl) (Qy.loadk rfl rfl rfl rfl (Blk.at0 hF.out.1)) ?_
        refine OX.tagc ?_
        refine OX.q rfl (by first | exact WantE.none rfl | exact WantE.yes rfl rfl rfl (by first | assumption | rfl | exact decide_eq_true rfl)) (Qy.call rfl rfl (fun h1 hE => (by have := rall_c h1 A c q x (!true) (Rd.ext (by first | exact hF.out.1 | exact hF.out.2.1 | exact hF.out.2.2.1 | exact hF.out.2.2.2.1 | exact hF.out.2.2.2.2.1 | exact hF.out.2.2.2.2.2.1 | exact hF.out.2.2.2.2.2.2.1 | exact hF.out.2.2.2.2.2.2.2.1 | exact hF.out.2.2.2.2.2.2.2.2.1 | assumption) hE) hlen hm; rw [ha] at this; exact this))) ?_
        refine OX.tagc ?_
        refine OX.p rfl rfl (WantE.none rfl) ?_
        refine OX.tagn ?_
        refine qT_n ?_
        refine EW.cond_t rfl rfl ?_
        refine EW.seq ?_
        refine EW.sreg rfl ?_
        refine OX.tagc ?_
        refine OX.p rfl rfl (WantE.none rfl) ?_
        refine OX.tagc ?_
        refine OX.p rfl rfl (WantE.none rfl) ?_
        refine OX.tagc ?_
        refine OX.p rfl rfl (WantE.none rfl) ?_
        refine OX.tagn ?_
        refine qT_n ?_
        refine EW.ret ?_
        refine qT_ret ?_
        refine rQ_ret ?_
        refine Rets.two rfl ?_
        rotate_left
      exact ⟨Ext.chg (by first | exact hF.out.1 | exact hF.out.2.1 | exact hF.out.2.2.1 | exact hF.out.2.2.2.1 | exact hF.out.2.2.2.2.1 | exact hF.out.2.2.2.2.2.1 | exact hF.out.2.2.2.2.2.2.1 | exact hF.out.2.2.2.2.2.2.2.1 | exact hF.out.2.2.2.2.2.2.2.2.1 | assumption) _, A, c, rfl, ho.ext (by first | exact hF.out.1 | exact hF.out.2.1 | exact hF.out.2.2.1 | exact hF.out.2.2.2.1 | exact hF.out.2.2.2.2.1 | exact hF.out.2.2.2.2.2.1 | exact hF.out.2.2.2.2.2.2.1 | exact hF.out.2.2.2.2.2.2.2.1 | exact hF.out.2.2.2.2.2.2.2.2.1 | assumption), .inl rfl⟩
    | true =>
      have hr : setQ q x true = (setR q x.first x.count.toNat true, 0) := by unfold setQ; rw [hm, ha]; rfl
      rw [hr]
      focus
        refine EW.seq ?_
        refine EW.sreg rfl ?_
        refine OX.tagc ?_
        (refine OX.gr rfl rfl (WantE.none rfl) (Gr.boxF rfl rfl ?_); intro b_ h_ hb_ hE hB; have hz_ := hE.1; replace hF := (hF.up hE).blk hB)
        refine OX.tagc ?_
        refine OX.p rfl rfl (WantE.none rfl) ?_
        refine OX.tagc ?_
        refine OX.p rfl rfl (WantE.none rfl) ?_
        refine OX.tagn ?_
        refine qT_n ?_
        refine EW.seq ?_
        refine EW.seq ?_
        refine EW.sreg rfl ?_
        refine OX.tagc ?_
        refine OX.p rfl rfl (WantE.none rfl) ?_
        refine OX.tagc ?_
        refine OX.q rfl (WantE.none rfl) (Qy.loadk rfl rfl rfl rfl (Blk.at0 hF.out.1)) ?_
        refine OX.tagc ?_
        refine OX.q rfl (by first | exact WantE.none rfl | exact WantE.yes rfl rfl rfl (by first | assumption | rfl | exact decide_eq_true rfl)) (Qy.call rfl rfl (fun h1 hE => (by have := rmay_c h1 A c q x hlen; rw [hm] at this; exact this))) ?_
        refine OX.tagc ?_
        refine OX.p rfl rfl (WantE.none rfl) ?_
        refine OX.tagn ?_
        refine qT_n ?_
        refine EW.cond_f rfl rfl ?_
        refine EW.skip ?_
        refine qT_n ?_
        refine EW.seq ?_
        refine EW.seq ?_
        refine EW.sreg rfl ?_
        refine OX.tagc ?_
        refine OX.p rfl rfl (WantE.none rfl) ?_
        refine OX.tagc ?_
        refine OX.q rfl (WantE.none rfl) (Qy.loadk rfl rfl rfl rfl (Blk.at0 hF.out.1)) ?_
        refine OX.tagc ?_
        refine OX.q rfl (by first | exact WantE.none rfl | exact WantE.yes rfl rfl rfl (by first | assumption | rfl | exact decide_eq_true rfl)) (Qy.call rfl rfl (fun h1 hE => (by have := rall_c h1 A c q x (!true) (Rd.ext (by first | exact hF.out.1 | exact hF.out.2.1 | exact hF.out.2.2.1 | exact hF.out.2.2.2.1 | exact hF.out.2.2.2.2.1 | exact hF.out.2.2.2.2.2.1 | exact hF.out.2.2.2.2.2.2.1 | exact hF.out.2.2.2.2.2.2.2.1 | exact hF.out.2.2.2.2.2.2.2.2.1 | assumption) hE) hlen hm; rw [ha] at this; exact this))) ?_
        refine OX.tagc ?_
        refine OX.p rfl rfl (WantE.none rfl) ?_
        refine OX.tagn ?_
        refine qT_n ?_
        refine EW.cond_f rfl rfl ?_
        refine EW.skip ?_
        refine qT_n ?_
        refine EW.seq ?_
        refine EW.sreg rfl ?_
        refine OX.tagc ?_
        refine OX.p rfl rfl (WantE.none rfl) ?_
        refine OX.tagc ?_
        refine OX.q rfl (WantE.none rfl) (Qy.loadk rfl rfl rfl rfl (Blk.at0 hF.out.1)) ?_
        refine OX.tagc ?_
        rotate_left
      refine OX.gr rfl rfl (WantE.none rfl) (Gr.call (R := fun h2 v h' => ∃ A' c', v = .slice A' q.length c' ∧ Own h' h2.size 4 A' c' (setR q x.first x.count.toNat true)) rfl rfl (fun h2 hE => rset_c h2 A c q x true (Rd.ext (by first | exact hF.out.1 | exact hF.out.2.1 | exact hF.out.2.2.1 | exact hF.out.2.2.2.1 | exact hF.out.2.2.2.2.1 | exact hF.out.2.2.2.2.2.1 | exact hF.out.2.2.2.2.2.2.1 | exact hF.out.2.2.2.2.2.2.2.1 | exact hF.out.2.2.2.2.2.2.2.2.1 | assumption) hE) hlen hm) ?_)
      rintro h2 v h3 hE2 hE3 ⟨A', c', rfl, hO⟩
      replace hF := hF.up (hE2.trans hE3)
      focus
        refine OX.tagc ?_
        refine OX.p rfl rfl (WantE.none rfl) ?_
        refine OX.tagc ?_
        refine OX.p rfl rfl (WantE.none rfl) ?_
        refine OX.tagn ?_
        refine qT_n ?_
        refine EW.ret ?_
        refine rQ_ret ?_
        refine Rets.two rfl ?_
        rotate_left
      have hz2 := hE2.1
      have hz3 := ((by first | exact hF.out.1 | exact hF.out.2.1 | exact hF.out.2.2.1 | exact hF.out.2.2.2.1 | exact hF.out.2.2.2.2.1 | exact hF.out.2.2.2.2.2.1 | exact hF.out.2.2.2.2.2.2.1 | exact hF.out.2.2.2.2.2.2.2.1 | exact hF.out.2.2.2.2.2.2.2.2.1 | assumption) : Ext h _).1
      refine ⟨Ext.chg (by first | exact hF.out.1 | exact hF.out.2.1 | exact hF.out.2.2.1 | exact hF.out.2.2.2.1 | exact hF.out.2.2.2.2.1 | exact hF.out.2.2.2.2.2.1 | exact hF.out.2.2.2.2.2.2.1 | exact hF.out.2.2.2.2.2.2.2.1 | exact hF.out.2.2.2.2.2.2.2.2.1 | assumption) _, A', c', by rw [setR_len]; rfl, hO.mono (Nat.zero_le _), .inr fun b hb => ?_⟩
      have := hO.blk_ge b hb
      have := hE.1
      have := hX.1
      omega
theorem rfree_c (h : Heap) (A : Option Addr) (c : Nat) (q : List Bool) (x : Ex) (ho : Own h 0 4 A c q) (hlen : q.length ≤ 4096) : FC Try.prog 14 [.slice A q.length c, exV x] h [] (QPost h A (setQ q x false)) := by
  refine FC.of_EW (fun a w => Try.call14 a w) Try.func14 rfl rfl fun s h1 hX => ?_
  have hF := ((Know.nil h1).since hX).rd (ho.rd.ext hX)
  cases hm : mayB q.length x with
  | false =>
    have hr : setQ q x false = (q, 1) := by unfold setQ; rw [hm]; rfl
    rw [hr]
    focus
      refine EW.seq ?_
      refine EW.sreg rfl ?_
      refine OX.tagc ?_
      (refine OX.gr rfl rfl (WantE.none rfl) (Gr.boxF rfl rfl ?_); intro b_ h_ hb_ hE hB; have hz_ := hE.1; replace hF := (hF.up hE).blk hB)
      refine OX.tagc ?_
      refine OX.p rfl rfl (WantE.none rfl) ?_
      refine OX.tagc ?_
      refine OX.p rfl rfl (WantE.none rfl) ?_
      refine OX.tagn ?_
      refine qT_n ?_
      refine EW.seq ?_
      refine EW.seq ?_
      refine EW.sreg rfl ?_
      refine OX.tagc ?_
      refine OX.p rfl rfl (WantE.none rfl) ?_
      refine OX.tagc ?_
      refine OX.q rfl (WantE.none rfl) (Qy.loadk rfl rfl rfl rfl (Blk.at0 hF.out.1)) ?_
      refine OX.tagc ?_
      refine OX.q rfl (by first | exact WantE.none rfl | exact WantE.yes rfl rfl rfl (by first | assumption | rfl | exact decide_eq_true rfl)) (Qy.call rfl rfl (fun h1 hE => (by have := rmay_c h1 A c q x hlen; rw [hm] at this; exact this))) ?_
      refine OX.tagc ?_
      refine OX.p rfl rfl (WantE.none rfl) ?_
      refine OX.tagn ?_
      refine qT_n ?_
      refine EW.cond_t rfl rfl ?_
      refine EW.seq ?_
      refine EW.sreg rfl ?_
      refine OX.tagc ?_
      refine OX.p rfl rfl (WantE.none rfl) ?_
      refine OX.tagc ?_
      refine OX.p rfl rfl (WantE.none rfl) ?_
      refine OX.tagc ?_
      refine OX.p rfl rfl (WantE.none rfl) ?_
      refine OX.tagn ?_
      refine qT_n ?_
      refine EW.ret ?_
      refine qT_ret ?_
      refine rQ_ret ?_
      refine Rets.two rfl ?_
      rotate_left
    exact ⟨Ext.chg (by first | exact hF.out.1 | exact hF.out.2.1 | exact hF.out.2.2.1 | exact hF.out.2.2.2.1 | exact hF.out.2.2.2.2.1 | exact hF.out.2.2.2.2.2.1 | exact hF.out.2.2.2.2.2.2.1 | exact hF.out.2.2.2.2.2.2.2.1 | exact hF.out.2.2.2.2.2.2.2.2.1 | assumption) _, A, c, rfl, ho.ext (by first | exact hF.out.1 | exact hF.out.2.1 | exact hF.out.2.2.1 | exact hF.out.2.2.2.1 | exact hF.out.2.2.2.2.1 | exact hF.out.2.2.2.2.2.1 | exact hF.out.2.2.2.2.2.2.1 | exact hF.out.2.2.2.2.2.2.2.1 | exact hF.out.2.2.2.2.2.2.2.2.1 | assumption), .inl rfl⟩
  | true =>
    cases ha : allB q x.first x.count.toNat (!false) with
    | false =>
      have hr : setQ q x false = (q, 3) := by unfold setQ; rw [hm, ha]; rfl
      rw [hr]
      focus
        refine EW.seq ?_
        refine EW.sreg rfl ?_
        refine OX.tagc ?_
        (refine OX.gr rfl rfl (WantE.none rfl) (Gr.boxF rfl rfl ?_); intro b_ h_ hb_ hE hB; have hz_ := hE.1; replace hF := (hF.up hE).blk hB)
        refine OX.tagc ?_
        refine OX.p rfl rfl (WantE.none rfl) ?_
        refine OX.tagc ?_
        refine OX.p rfl rfl (WantE.none rfl) ?_
        refine OX.tagn ?_
        refine qT_n ?_
        refine EW.seq ?_
        refine EW.seq ?_
        refine EW.sreg rfl ?_
        refine OX.tagc ?_
        refine OX.p rfl rfl (WantE.none rfl) ?_
        refine OX.tagc ?_
        refine OX.q rfl (WantE.none rfl) (Qy.loadk rfl rfl rfl rfl (Blk.at0 hF.out.1)) ?_
        refine OX.tagc ?_
        refine OX.q rfl (by first | exact WantE.none rfl | exact WantE.yes rfl rfl rfl (by first | assumption | rfl | exact decide_eq_true rfl)) (Qy.call rfl rfl (fun h1 hE => (by have := rmay_c h1 A c q x hlen; rw [hm] at this; exact this))) ?_
        refine OX.tagc ?_
        refine OX.p rfl rfl (WantE.none rfl) ?_
        refine OX.tagn ?_
        refine qT_n ?_
        refine EW.cond_f rfl rfl ?_
        refine EW.skip ?_
        refine qT_n ?_
        refine EW.seq ?_
        refine EW.seq ?_
        refine EW.sreg rfl ?_
        refine OX.tagc ?_
        refine OX.p rfl rfl (WantE.none rfl) ?_
        refine OX.tagc ?_
        refine OX.q rfl (WantE.none rfl) (Qy.loadk rfl rfl rfl rfl (Blk.at0 hF.out.1)) ?_
        refine OX.tagc ?_
        refine OX.q rfl (by first | exact WantE.none rfl | exact WantE.yes rfl rfl rfl (by first | assumption | rfl | exact decide_eq_true rfl)) (Qy.call rfl rfl (fun h1 hE => (by have := rall_c h1 A c q x (!false) (Rd.ext (by first | exact hF.out.1 | exact hF.out.2.1 | exact hF.out.2.2.1 | exact hF.out.2.2.2.1 | exact hF.out.2.2.2.2.1 | exact hF.out.2.2.2.2.2.1 | exact hF.out.2.2.2.2.2.2.1 | exact hF.out.2.2.2.2.2.2.2.1 | exact hF.out.2.2.2.2.2.2.2.2.1 | assumption) hE) hlen hm; rw [ha] at this; exact this))) ?_
        refine OX.tagc ?_
        refine OX.p rfl rfl (WantE.none rfl) ?_
        refine OX.tagn ?_
        refine qT_n ?_
        refine EW.cond_t rfl rfl ?_
        refine EW.seq ?_
        refine EW.sreg rfl ?_
        refine OX.tagc ?_
        refine OX.p rfl rfl (WantE.none rfl) ?_
        refine OX.tagc ?_
        refine OX.p rfl rfl (WantE.none rfl) ?_
        refine OX.tagc ?_
        refine OX.p rfl rfl (WantE.none rfl) ?_
        refine OX.tagn ?_
        refine qT_n ?_
        refine EW.ret ?_
        refine qT_ret ?_
        refine rQ_ret ?_
        refine Rets.two rfl ?_
        rotate_left
      exact ⟨Ext.chg (by first | exact hF.out.1 | exact hF.out.2.1 | exact hF.out.2.2.1 | exact hF.out.2.2.2.1 | exact hF.out.2.2.2.2.1 | exact hF.out.2.2.2.2.2.1 | exact hF.out.2.2.2.2.2.2.1 | exact hF.out.2.2.2.2.2.2.2.1 | exact hF.out.2.2.2.2.2.2.2.2.1 | assumption) _, A, c, rfl, ho.ext (by first | exact hF.out.1 | exact hF.out.2.1 | exact hF.out.2.2.1 | exact hF.out.2.2.2.1 | exact hF.out.2.2.2.2.1 | exact hF.out.2.2.2.2.2.1 | exact hF.out.2.2.2.2.2.2.1 | exact hF.out.2.2.2.2.2.2.2.1 | exact hF.out.2.2.2.2.2.2.2.2.1 | assumption), .inl rfl⟩
    | true =>
      have hr : setQ q x false = (setR q x.first x.count.toNat false, 0) := by unfold setQ; rw [hm, ha]; rfl
      rw [hr]
      focus
        refine EW.seq ?_
        refine EW.sreg rfl ?_
        refine OX.tagc ?_
        (refine OX.gr rfl rfl (WantE.none rfl) (Gr.boxF rfl rfl ?_); intro b_ h_ hb_ hE hB; have hz_ := hE.1; replace hF := (hF.up hE).blk hB)
        refine OX.tagc ?_
        refine OX.p rfl rfl (WantE.none rfl) ?_
        refine OX.tagc ?_
        refine OX.p rfl rfl (WantE.none rfl) ?_
        refine OX.tagn ?_
        refine qT_n ?_
        refine EW.seq ?_
        refine EW.seq ?_
        refine EW.sreg rfl ?_
        refine OX.tagc ?_
        refine OX.p rfl rfl (WantE.none rfl) ?_
        refine OX.tagc ?_
        refine OX.q rfl (WantE.none rfl) (Qy.loadk rfl rfl rfl rfl (Blk.at0 hF.out.1)) ?_
        refine OX.tagc ?_
        refine OX.q rfl (by first | exact WantE.none rfl | exact WantE.yes rfl rfl rfl (by first | assumption | rfl | exact decide_eq_true rfl)) (Qy.call rfl rfl (fun h1 hE => (by have := rmay_c h1 A c q x hlen; rw [hm] at this; exact this))) ?_
        refine OX.tagc ?_
        refine OX.p rfl rfl (WantE.none rfl) ?_
        refine OX.tagn ?_
        refine qT_n ?_
        refine EW.cond_f rfl rfl ?_
        refine EW.skip ?_
        refine qT_n ?_
        refine EW.seq ?_
        refine EW.seq ?_
        refine EW.sreg rfl ?_
        refine OX.tagc ?_
        refine OX.p rfl rfl (WantE.none rfl) ?_
        refine OX.tagc ?_
        refine OX.q rfl (WantE.none rfl) (Qy.loadk rfl rfl rfl rfl (Blk.at0 hF.out.1)) ?_
        refine OX.tagc ?_
        refine OX.q rfl (by first | exact WantE.none rfl | exact WantE.yes rfl rfl rfl (by first | assumption | rfl | exact decide_eq_true rfl)) (Qy.call rfl rfl (fun h1 hE => (by have := rall_c h1 A c q x (!false) (Rd.ext (by first | exact hF.out.1 | exact hF.out.2.1 | exact hF.out.2.2.1 | exact hF.out.2.2.2.1 | exact hF.out.2.2.2.2.1 | exact hF.out.2.2.2.2.2.1 | exact hF.out.2.2.2.2.2.2.1 | exact hF.out.2.2.2.2.2.2.2.1 | exact hF.out.2.2.2.2.2.2.2.2.1 | assumption) hE) hlen hm; rw [ha] at this; exact this))) ?_
        refine OX.tagc ?_
        refine OX.p rfl rfl (WantE.none rfl) ?_
        refine OX.tagn ?_
        refine qT_n ?_
        refine EW.cond_f rfl rfl ?_
        refine EW.skip ?_
        refine qT_n ?_
        refine EW.seq ?_
        refine EW.sreg rfl ?_
        refine OX.tagc ?_
        refine OX.p rfl rfl (WantE.none rfl) ?_
        refine OX.tagc ?_
        refine OX.q rfl (WantE.none rfl) (Qy.loadk rfl rfl rfl rfl (Blk.at0 hF.out.1)) ?_
        refine OX.tagc ?_
        rotate_left
      refine OX.gr rfl rfl (WantE.none rfl) (Gr.call (R := fun h2 v h' => ∃ A' c', v = .slice A' q.length c' ∧ Own h' h2.size 4 A' c' (setR q x.first x.count.toNat false)) rfl rfl (fun h2 hE => rset_c h2 A c q x false (Rd.ext (by first | exact hF.out.1 | exact hF.out.2.1 | exact hF.out.2.2.1 | exact hF.out.2.2.2.1 | exact hF.out.2.2.2.2.1 | exact hF.out.2.2.2.2.2.1 | exact hF.out.2.2.2.2.2.2.1 | exact hF.out.2.2.2.2.2.2.2.1 | exact hF.out.2.2.2.2.2.2.2.2.1 | assumption) hE) hlen hm) ?_)
      rintro h2 v h3 hE2 hE3 ⟨A', c', rfl, hO⟩
      replace hF := hF.up (hE2.trans hE3)
      focus
        refine OX.tagc ?_
        refine OX.p rfl rfl (WantE.none rfl) ?_
        refine OX.tagc ?_
        refine OX.p rfl rfl (WantE.none rfl) ?_
        refine OX.tagn ?_
        refine qT_n ?_
        refine EW.ret ?_
        refine rQ_ret ?_
        refine Rets.two rfl ?_
        rotate_left
      have hz2 := hE2.1
      have hz3 := ((by first | exact hF.out.1 | exact hF.out.2.1 | exact hF.out.2.2.1 | exact hF.out.2.2.2.1 | exact hF.out.2.2.2.2.1 | exact hF.out.2.2.2.2.2.1 | exact hF.out.2.2.2.2.2.2.1 | exact hF.out.2.2.2.2.2.2.2.1 | exact hF.out.2.2.2.2.2.2.2.2.1 | assumption) : Ext h _).1
      refine ⟨Ext.chg (by first | exact hF.out.1 | exact hF.out.2.1 | exact hF.out.2.2.1 | exact hF.out.2.2.2.1 | exact hF.out.2.2.2.2.1 | exact hF.out.2.2.2.2.2.1 | exact hF.out.2.2.2.2.2.2.1 | exact hF.out.2.2.2.2.2.2.2.1 | exact hF.out.2.2.2.2.2.2.2.2.1 | assumption) _, A', c', by rw [setR_len]; rfl, hO.mono (Nat.zero_le _), .inr fun b hb => ?_⟩
      have := hO.blk_ge b hb
      have := hE.1
      have := hX.1
      omega

def okA (q : List Bool) (count : Int) (i : Nat) : Bool := mayB q.length ⟨(i : Int), count⟩ && allB q (i : Int) count.toNat false
def APost (h : Heap) (A : Option Addr) (q' : List Bool) (x : Ex) (err : Int) (v : Value) (h' : Heap) : Prop := ∃ A' c', v = .tuple #[.slice A' q'.length c', exV x, .int .i64 err] ∧ Own h' 0 4 A' c' q' ∧ Moved h A A'
theorem ralloc_no (h : Heap) (A : Option Addr) (c : Nat) (q : List Bool) (count : Int) (ho : Own h 0 4 A c q) (hc : count < 1) : FC Try.prog 12 [.slice A q.length c, .int .i64 count] h [] (APost h A q ⟨0, 0⟩ 1) := by
  refine FC.of_EW (fun a w => Try.call12 a w) Try.func12 rfl rfl fun s h1 hX => ?_
  have hF := ((Know.nil h1).since (Ext.refl h1)).since hX
  focus
    refine EW.seq ?_
    refine EW.sreg rfl ?_
    refine OX.tagc ?_
    refine OX.p rfl rfl (WantE.none rfl) ?_
    refine OX.tagc ?_
    (refine OX.gr rfl rfl (WantE.none rfl) (Gr.allocF rfl rfl ?_); intro b_ h_ hb_ hE hB; have hz_ := hE.1; have hy_ := hb_; have hAlc := And.intro hb_ (And.intro hE hB); clear hE hB)
    refine OX.tagc ?_
    refine OX.p rfl rfl (WantE.none rfl) ?_
    refine OX.tagn ?_
    refine qT_n ?_
    refine EW.seq ?_
    refine EW.seq ?_
    refine EW.sreg rfl ?_
    refine OX.tagc ?_
    refine OX.p rfl rfl (WantE.none rfl) ?_
    refine OX.tagc ?_
    refine OX.p rfl rfl (WantE.none rfl) ?_
    refine OX.tagn ?_
    refine qT_n ?_
    refine EW.cond rfl ?_ ?_
    intro hb
    have hb' := of_decide_eq_true hb
    refine EW.seq ?_
    refine EW.sreg rfl ?_
    refine OX.tagc ?_
    refine OX.p rfl rfl (WantE.none rfl) ?_
    refine OX.tagc ?_
    refine OX.q rfl (WantE.none rfl) (Qy.buildF rfl rfl) ?_
    refine OX.tagc ?_
    refine OX.p rfl rfl (WantE.none rfl) ?_
    refine OX.tagc ?_
    (refine OX.ac0 rfl rfl (WantE.none rfl) (Runs.storeF rfl rfl rfl rfl rfl hAlc.2.2 rfl rfl rfl ?_); intro h_ hC hB; replace hF := (hF.up (Chg.fresh hAlc.2.1 hC (by simpa using hAlc.1))).blk hB; clear hAlc hC hB)
    refine OX.tagc ?_
    refine OX.p rfl rfl (WantE.none rfl) ?_
    refine OX.tagn ?_
    refine qT_n ?_
    refine EW.ret ?_
    refine qT_ret ?_
    refine rQ_ret ?_
    rotate_left
    intro hb
    have hb' := of_decide_eq_false hb
    (exfalso; omega)
  refine Rets.gen3 rfl rfl ⟨_, rfl, .inl ⟨rfl, _, rfl, Blk.at0 hF.out.1, rfl⟩⟩ rfl ?_
  exact ⟨Ext.chg (by first | exact hF.out.1 | exact hF.out.2.1 | exact hF.out.2.2.1 | exact hF.out.2.2.2.1 | exact hF.out.2.2.2.2.1 | exact hF.out.2.2.2.2.2.1 | exact hF.out.2.2.2.2.2.2.1 | exact hF.out.2.2.2.2.2.2.2.1 | exact hF.out.2.2.2.2.2.2.2.2.1 | assumption) _, A, c, rfl, ho.ext (by first | exact hF.out.1 | exact hF.out.2.1 | exact hF.out.2.2.1 | exact hF.out.2.2.2.1 | exact hF.out.2.2.2.2.1 | exact hF.out.2.2.2.2.2.1 | exact hF.out.2.2.2.2.2.2.1 | exact hF.out.2.2.2.2.2.2.2.1 | exact hF.out.2.2.2.2.2.2.2.2.1 | assumption), .inl rfl⟩
theorem okA_parts {q : List Bool} {count : Int} {i : Nat} (h : okA q count i = false) : mayB q.length ⟨(i : Int), count⟩ = false ∨ mayB q.length ⟨(i : Int), count⟩ = true ∧ allB q (i : Int) count.toNat false = false := by
  unfold okA at h
  cases h1 : mayB q.length ⟨(i : Int), count⟩ with
  | false => exact .inl rfl
  | true => rw [h1] at h; exact .inr ⟨rfl, by simpa using h⟩
set_option maxHeartbeats 4000000 in
theorem ralloc_full (h : Heap) (A : Option Addr) (c : Nat) (q : List Bool) (count : Int) (ho : Own h 0 4 A c q) (hlen : q.length ≤ 4096) (hc : 1 ≤ count) (hn : ∀ i : Nat, i < q.length → okA q count i = false) : FC Try.prog 12 [.slice A q.length c, .int .i64 count] h [] (APost h A q ⟨0, 0⟩ 2) := by
  refine FC.of_EW (fun a w => Try.call12 a w) Try.func12 rfl rfl fun s h1 hX => ?_
  have hF := (((Know.nil h1).since (Ext.refl h1)).since hX).rd (ho.rd.ext hX)
  focus
    refine EW.seq ?_
    refine EW.sreg rfl ?_
    refine OX.tagc ?_
    refine OX.p rfl rfl (WantE.none rfl) ?_
    refine OX.tagc ?_
    (refine OX.gr rfl rfl (WantE.none rfl) (Gr.allocF rfl rfl ?_); intro b_ h_ hb_ hE hB; have hz_ := hE.1; have hy_ := hb_; have hAlc := And.intro hb_ (And.intro hE hB); clear hE hB)
    refine OX.tagc ?_
    refine OX.p rfl rfl (WantE.none rfl) ?_
    refine OX.tagn ?_
    refine qT_n ?_
    refine EW.seq ?_
    refine EW.seq ?_
    refine EW.sreg rfl ?_
    refine OX.tagc ?_
    refine OX.p rfl rfl (WantE.none rfl) ?_
    refine OX.tagc ?_
    refine OX.p rfl rfl (WantE.none rfl) ?_
    refine OX.tagn ?_
    refine qT_n ?_
    refine EW.cond rfl ?_ ?_
    intro hb
    have hb' := of_decide_eq_true hb
    (exfalso; omega)
    intro hb
    have hb' := of_decide_eq_false hb
    refine EW.skip ?_
    refine qT_n ?_
    refine EW.seq ?_
    refine EW.seq ?_
    refine EW.sreg rfl ?_
    refine OX.tagc ?_
    refine OX.p rfl rfl (WantE.none rfl) ?_
    refine OX.tagn ?_
    refine qT_n ?_
    refine EW.block ?_
    (replace hF := (hF.up hAlc.2.1).blk hAlc.2.2; clear hAlc)
    rotate_left
  have hB0 := hF.out.1
  replace hF := hF.since (Ext.refl h_)
  refine EW.loopS (fun i : Nat => [(0, .slice A q.length c), (1, .int .i64 count), (5, .pointer (some ⟨b_, 0, none⟩)), (7, .int .i64 i)]) (fun i h' => Ext h_ h' ∧ i ≤ q.length) (fun i => q.length - i) 0
    ⟨rfl, rfl, rfl, rfl, trivial⟩ ⟨Ext.refl _, by omega⟩ ?_
  rintro i e h2 ⟨hE2, hi⟩
  have hz2 := hE2.1
  replace hF := hF.up hE2
  by_cases hlt : i < q.length
  · have hK2 := hF
    rcases okA_parts (hn i hlt) with hm | ⟨hm, ha⟩
    · focus
        refine EW.seq ?_
        refine EW.seq ?_
        refine EW.sreg rfl ?_
        refine OX.tagc ?_
        refine OX.p rfl rfl (WantE.none rfl) ?_
        refine OX.tagc ?_
        refine OX.p rfl rfl (WantE.none rfl) ?_
        refine OX.tagc ?_
        refine OX.p rfl rfl (WantE.none rfl) ?_
        refine OX.tagc ?_
        refine OX.p rfl rfl (WantE.none rfl) ?_
        refine OX.tagn ?_
        refine qT_n ?_
        refine EW.cond rfl ?_ ?_
        intro hb
        have hb' := of_decide_eq_true hb
        refine EW.skip ?_
        refine qT_n ?_
        refine EW.seq ?_
        refine EW.block ?_
        refine EW.seq ?_
        refine EW.sreg rfl ?_
        refine OX.tagc ?_
        refine OX.p rfl rfl (WantE.none rfl) ?_
        refine OX.tagc ?_
        refine OX.p rfl rfl (WantE.none rfl) ?_
        refine OX.tagc ?_
        refine OX.q rfl (WantE.none rfl) (Qy.buildF rfl rfl) ?_
        refine OX.tagc ?_
        (refine OX.gr rfl rfl (WantE.none rfl) (Gr.allocF rfl rfl ?_); intro b_ h_ hb_ hE hB; have hz_ := hE.1; have hy_ := hb_; have hAlc := And.intro hb_ (And.intro hE hB); clear hE hB)
        refine OX.tagc ?_
        (refine OX.ac0 rfl rfl (WantE.none rfl) (Runs.storeF rfl rfl rfl rfl rfl hAlc.2.2 rfl rfl rfl ?_); intro h_ hC hB; replace hF := (hF.up (Chg.fresh hAlc.2.1 hC (by simpa using hAlc.1))).blk hB; clear hAlc hC hB)
        refine OX.tagn ?_
        refine qT_n ?_
        refine EW.seq ?_
        refine EW.sreg rfl ?_
        refine OX.tagc ?_
        refine OX.p rfl rfl (WantE.none rfl) ?_
        refine OX.tagc ?_
        refine OX.q rfl (WantE.none rfl) (Qy.loadk rfl rfl rfl rfl (Blk.at0 hF.out.1)) ?_
        refine OX.tagc ?_
        refine OX.q rfl (by first | exact WantE.none rfl | exact WantE.yes rfl rfl rfl (by first | assumption | rfl | exact decide_eq_true rfl)) (Qy.call rfl rfl (fun h1 hE => (by have := rmay_c h1 A c q ⟨i, count⟩ hlen; rw [hm] at this; exact this))) ?_
        refine OX.tagc ?_
        refine OX.p rfl rfl (WantE.none rfl) ?_
        refine OX.tagc ?_
        refine OX.sk rfl (WantE.no rfl rfl rfl rfl) ?_
        refine OX.tagc ?_
        refine OX.sk rfl (WantE.no rfl rfl rfl rfl) ?_
        refine OX.tagc ?_
        refine OX.sk rfl (WantE.no rfl rfl rfl rfl) ?_
        refine OX.tagc ?_
        refine OX.q rfl (WantE.none rfl) (Qy.pick_fb rfl rfl rfl rfl) ?_
        refine OX.tagn ?_
        refine qT_n ?_
        refine EW.cond_f rfl rfl ?_
        refine EW.skip ?_
        refine qB_n ?_
        refine qT_n ?_
        refine EW.sreg rfl ?_
        refine OX.tagc ?_
        refine OX.p rfl rfl (WantE.none rfl) ?_
        refine OX.tagc ?_
        refine OX.q rfl (WantE.none rfl) (Qy.addi rfl rfl rfl (by omega)) ?_
        refine OX.tagc ?_
        refine OX.p rfl rfl (WantE.none rfl) ?_
        refine OX.tagn ?_
        refine qT_n ?_
        rotate_left
        intro hb
        have hb' := of_decide_eq_false hb
        (exfalso; omega)
      exact ⟨i + 1, ⟨rfl, rfl, rfl, rfl, trivial⟩, ⟨(by first | exact hF.out.1 | exact hF.out.2.1 | exact hF.out.2.2.1 | exact hF.out.2.2.2.1 | exact hF.out.2.2.2.2.1 | exact hF.out.2.2.2.2.2.1 | exact hF.out.2.2.2.2.2.2.1 | exact hF.out.2.2.2.2.2.2.2.1 | exact hF.out.2.2.2.2.2.2.2.2.1 | assumption), by omega⟩, by omega⟩
    · focus
        refine EW.seq ?_
        refine EW.seq ?_
        refine EW.sreg rfl ?_
        refine OX.tagc ?_
        refine OX.p rfl rfl (WantE.none rfl) ?_
        refine OX.tagc ?_
        refine OX.p rfl rfl (WantE.none rfl) ?_
        refine OX.tagc ?_
        refine OX.p rfl rfl (WantE.none rfl) ?_
        refine OX.tagc ?_
        refine OX.p rfl rfl (WantE.none rfl) ?_
        refine OX.tagn ?_
        refine qT_n ?_
        refine EW.cond rfl ?_ ?_
        intro hb
        have hb' := of_decide_eq_true hb
        refine EW.skip ?_
        refine qT_n ?_
        refine EW.seq ?_
        refine EW.block ?_
        refine EW.seq ?_
        refine EW.sreg rfl ?_
        refine OX.tagc ?_
        refine OX.p rfl rfl (WantE.none rfl) ?_
        refine OX.tagc ?_
        refine OX.p rfl rfl (WantE.none rfl) ?_
        refine OX.tagc ?_
        refine OX.q rfl (WantE.none rfl) (Qy.buildF rfl rfl) ?_
        refine OX.tagc ?_
        (refine OX.gr rfl rfl (WantE.none rfl) (Gr.allocF rfl rfl ?_); intro b_ h_ hb_ hE hB; have hz_ := hE.1; have hy_ := hb_; have hAlc := And.intro hb_ (And.intro hE hB); clear hE hB)
        refine OX.tagc ?_
        (refine OX.ac0 rfl rfl (WantE.none rfl) (Runs.storeF rfl rfl rfl rfl rfl hAlc.2.2 rfl rfl rfl ?_); intro h_ hC hB; replace hF := (hF.up (Chg.fresh hAlc.2.1 hC (by simpa using hAlc.1))).blk hB; clear hAlc hC hB)
        refine OX.tagn ?_
        refine qT_n ?_
        refine EW.seq ?_
        refine EW.sreg rfl ?_
        refine OX.tagc ?_
        refine OX.p rfl rfl (WantE.none rfl) ?_
        refine OX.tagc ?_
        refine OX.q rfl (WantE.none rfl) (Qy.loadk rfl rfl rfl rfl (Blk.at0 hF.out.1)) ?_
        refine OX.tagc ?_
        refine OX.q rfl (by first | exact WantE.none rfl | exact WantE.yes rfl rfl rfl (by first | assumption | rfl | exact decide_eq_true rfl)) (Qy.call rfl rfl (fun h1 hE => (by have := rmay_c h1 A c q ⟨i, count⟩ hlen; rw [hm] at this; exact this))) ?_
        refine OX.tagc ?_
        refine OX.p rfl rfl (WantE.none rfl) ?_
        refine OX.tagc ?_
        refine OX.p rfl rfl (WantE.yes rfl rfl rfl rfl) ?_
        refine OX.tagc ?_
        refine OX.q rfl (WantE.yes rfl rfl rfl rfl) (Qy.loadk rfl rfl rfl rfl (Blk.at0 hF.out.1)) ?_
        refine OX.tagc ?_
        refine OX.q rfl (by first | exact WantE.none rfl | exact WantE.yes rfl rfl rfl (by first | assumption | rfl | exact decide_eq_true rfl)) (Qy.call rfl rfl (fun h1 hE => (by have := rall_c h1 A c q ⟨i, count⟩ false (Rd.ext (by first | exact hF.out.1 | exact hF.out.2.1 | exact hF.out.2.2.1 | exact hF.out.2.2.2.1 | exact hF.out.2.2.2.2.1 | exact hF.out.2.2.2.2.2.1 | exact hF.out.2.2.2.2.2.2.1 | exact hF.out.2.2.2.2.2.2.2.1 | exact hF.out.2.2.2.2.2.2.2.2.1 | assumption) hE) hlen hm; rw [ha] at this; exact this))) ?_
        refine OX.tagc ?_
        refine OX.q rfl (WantE.none rfl) (Qy.pick_tb rfl rfl rfl rfl) ?_
        refine OX.tagn ?_
        refine qT_n ?_
        refine EW.cond_f rfl rfl ?_
        refine EW.skip ?_
        refine qB_n ?_
        refine qT_n ?_
        refine EW.sreg rfl ?_
        refine OX.tagc ?_
        refine OX.p rfl rfl (WantE.none rfl) ?_
        refine OX.tagc ?_
        refine OX.q rfl (WantE.none rfl) (Qy.addi rfl rfl rfl (by omega)) ?_
        refine OX.tagc ?_
        refine OX.p rfl rfl (WantE.none rfl) ?_
        refine OX.tagn ?_
        refine qT_n ?_
        rotate_left
        intro hb
        have hb' := of_decide_eq_false hb
        (exfalso; omega)
      exact ⟨i + 1, ⟨rfl, rfl, rfl, rfl, trivial⟩, ⟨(by first | exact hF.out.1 | exact hF.out.2.1 | exact hF.out.2.2.1 | exact hF.out.2.2.2.1 | exact hF.out.2.2.2.2.1 | exact hF.out.2.2.2.2.2.1 | exact hF.out.2.2.2.2.2.2.1 | exact hF.out.2.2.2.2.2.2.2.1 | exact hF.out.2.2.2.2.2.2.2.2.1 | assumption), by omega⟩, by omega⟩
  · focus
      refine EW.seq ?_
      refine EW.seq ?_
      refine EW.sreg rfl ?_
      refine OX.tagc ?_
      refine OX.p rfl rfl (WantE.none rfl) ?_
      refine OX.tagc ?_
      refine OX.p rfl rfl (WantE.none rfl) ?_
      refine OX.tagc ?_
      refine OX.p rfl rfl (WantE.none rfl) ?_
      refine OX.tagc ?_
      refine OX.p rfl rfl (WantE.none rfl) ?_
      refine OX.tagn ?_
      refine qT_n ?_
      refine EW.cond rfl ?_ ?_
      intro hb
      have hb' := of_decide_eq_true hb
      (exfalso; omega)
      intro hb
      have hb' := of_decide_eq_false hb
      refine EW.exit ?_
      refine qT_exit ?_
      refine qT_exit ?_
      refine qB_hit ?_
      refine qT_n ?_
      refine EW.seq ?_
      refine EW.sreg rfl ?_
      refine OX.tagc ?_
      refine OX.p rfl rfl (WantE.none rfl) ?_
      refine OX.tagc ?_
      refine OX.q rfl (WantE.none rfl) (Qy.buildF rfl rfl) ?_
      refine OX.tagc ?_
      refine OX.p rfl rfl (WantE.none rfl) ?_
      refine OX.tagc ?_
      rotate_left
    refine OX.ac0 rfl rfl (WantE.none rfl) (Runs.storeF rfl rfl rfl rfl rfl (hB0.ext hE2) rfl rfl rfl ?_)
    intro h5 hC5 hB5
    have hX5 : Ext h1 h5 := Chg.fresh (by first | exact hF.out.1 | exact hF.out.2.1 | exact hF.out.2.2.1 | exact hF.out.2.2.2.1 | exact hF.out.2.2.2.2.1 | exact hF.out.2.2.2.2.2.1 | exact hF.out.2.2.2.2.2.2.1 | exact hF.out.2.2.2.2.2.2.2.1 | exact hF.out.2.2.2.2.2.2.2.2.1 | assumption) hC5 (by intro m hm; rw [List.mem_singleton] at hm; subst hm; omega)
    replace hF := (((Know.nil h1).since hX).up hX5).blk hB5
    focus
      refine OX.tagc ?_
      refine OX.p rfl rfl (WantE.none rfl) ?_
      refine OX.tagn ?_
      refine qT_n ?_
      refine EW.ret ?_
      refine rQ_ret ?_
      rotate_left
    refine Rets.gen3 rfl rfl ⟨_, rfl, .inl ⟨rfl, _, rfl, Blk.at0 hF.out.1, rfl⟩⟩ rfl ?_
    exact ⟨Ext.chg (by first | exact hF.out.1 | exact hF.out.2.1 | exact hF.out.2.2.1 | exact hF.out.2.2.2.1 | exact hF.out.2.2.2.2.1 | exact hF.out.2.2.2.2.2.1 | exact hF.out.2.2.2.2.2.2.1 | exact hF.out.2.2.2.2.2.2.2.1 | exact hF.out.2.2.2.2.2.2.2.2.1 | assumption) _, A, c, rfl, ho.ext (by first | exact hF.out.1 | exact hF.out.2.1 | exact hF.out.2.2.1 | exact hF.out.2.2.2.1 | exact hF.out.2.2.2.2.1 | exact hF.out.2.2.2.2.2.1 | exact hF.out.2.2.2.2.2.2.1 | exact hF.out.2.2.2.2.2.2.2.1 | exact hF.out.2.2.2.2.2.2.2.2.1 | assumption), .inl rfl⟩
set_option maxHeartbeats 4000000 in
theorem ralloc_c (h : Heap) (A : Option Addr) (c : Nat) (q : List Bool) (count : Int) (ho : Own h 0 4 A c q) (hlen : q.length ≤ 4096) (hc : 1 ≤ count) (k : Nat) (hk : k < q.length) (hn : ∀ i : Nat, i < k → okA q count i = false) (hy : okA q count k = true) :
    FC Try.prog 12 [.slice A q.length c, .int .i64 count] h [] (APost h A (setR q k count.toNat true) ⟨k, count⟩ 0) := by
  refine FC.of_EW (fun a w => Try.call12 a w) Try.func12 rfl rfl fun s h1 hX => ?_
  have hF := (((Know.nil h1).since (Ext.refl h1)).since hX).rd (ho.rd.ext hX)
  focus
    refine EW.seq ?_
    refine EW.sreg rfl ?_
    refine OX.tagc ?_
    refine OX.p rfl rfl (WantE.none rfl) ?_
    refine OX.tagc ?_
    (refine OX.gr rfl rfl (WantE.none rfl) (Gr.allocF rfl rfl ?_); intro b_ h_ hb_ hE hB; have hz_ := hE.1; have hy_ := hb_; have hAlc := And.intro hb_ (And.intro hE hB); clear hE hB)
    refine OX.tagc ?_
    refine OX.p rfl rfl (WantE.none rfl) ?_
    refine OX.tagn ?_
    refine qT_n ?_
    refine EW.seq ?_
    refine EW.seq ?_
    refine EW.sreg rfl ?_
    refine OX.tagc ?_
    refine OX.p rfl rfl (WantE.none rfl) ?_
    refine OX.tagc ?_
    refine OX.p rfl rfl (WantE.none rfl) ?_
    refine OX.tagn ?_
    refine qT_n ?_
    refine EW.cond rfl ?_ ?_
    intro hb
    have hb' := of_decide_eq_true hb
    (exfalso; omega)
    intro hb
    have hb' := of_decide_eq_false hb
    refine EW.skip ?_
    refine qT_n ?_
    refine EW.seq ?_
    refine EW.seq ?_
    refine EW.sreg rfl ?_
    refine OX.tagc ?_
    refine OX.p rfl rfl (WantE.none rfl) ?_
    refine OX.tagn ?_
    refine qT_n ?_
    refine EW.block ?_
    (replace hF := (hF.up hAlc.2.1).blk hAlc.2.2; clear hAlc)
    rotate_left
  have hB0 := hF.out.1
  replace hF := hF.since (Ext.refl h_)
  refine EW.loopS (fun i : Nat => [(0, .slice A q.length c), (1, .int .i64 count), (5, .pointer (some ⟨b_, 0, none⟩)), (7, .int .i64 i)]) (fun i h' => Ext h_ h' ∧ i ≤ k) (fun i => q.length - i) 0
    ⟨rfl, rfl, rfl, rfl, trivial⟩ ⟨Ext.refl _, by omega⟩ ?_
  rintro i e h2 ⟨hE2, hi⟩
  have hz2 := hE2.1
  replace hF := hF.up hE2
  by_cases hlt : i < k
  · have hK2 := hF
    rcases okA_parts (hn i hlt) with hm | ⟨hm, ha⟩
    · focus
        refine EW.seq ?_
        refine EW.seq ?_
        refine EW.sreg rfl ?_
        refine OX.tagc ?_
        refine OX.p rfl rfl (WantE.none rfl) ?_
        refine OX.tagc ?_
        refine OX.p rfl rfl (WantE.none rfl) ?_
        refine OX.tagc ?_
        refine OX.p rfl rfl (WantE.none rfl) ?_
        refine OX.tagc ?_
        refine OX.p rfl rfl (WantE.none rfl) ?_
        refine OX.tagn ?_
        refine qT_n ?_
        refine EW.cond rfl ?_ ?_
        intro hb
        have hb' := of_decide_eq_true hb
        refine EW.skip ?_
        refine qT_n ?_
        refine EW.seq ?_
        refine EW.block ?_
        refine EW.seq ?_
        refine EW.sreg rfl ?_
        refine OX.tagc ?_
        refine OX.p rfl rfl (WantE.none rfl) ?_
        refine OX.tagc ?_
        refine OX.p rfl rfl (WantE.none rfl) ?_
        refine OX.tagc ?_
        refine OX.q rfl (WantE.none rfl) (Qy.buildF rfl rfl) ?_
        refine OX.tagc ?_
        (refine OX.gr rfl rfl (WantE.none rfl) (Gr.allocF rfl rfl ?_); intro b_ h_ hb_ hE hB; have hz_ := hE.1; have hy_ := hb_; have hAlc := And.intro hb_ (And.intro hE hB); clear hE hB)
        refine OX.tagc ?_
        (refine OX.ac0 rfl rfl (WantE.none rfl) (Runs.storeF rfl rfl rfl rfl rfl hAlc.2.2 rfl rfl rfl ?_); intro h_ hC hB; replace hF := (hF.up (Chg.fresh hAlc.2.1 hC (by simpa using hAlc.1))).blk hB; clear hAlc hC hB)
        refine OX.tagn ?_
        refine qT_n ?_
        refine EW.seq ?_
        refine EW.sreg rfl ?_
        refine OX.tagc ?_
        refine OX.p rfl rfl (WantE.none rfl) ?_
        refine OX.tagc ?_
        refine OX.q rfl (WantE.none rfl) (Qy.loadk rfl rfl rfl rfl (Blk.at0 hF.out.1)) ?_
        refine OX.tagc ?_
        refine OX.q rfl (by first | exact WantE.none rfl | exact WantE.yes rfl rfl rfl (by first | assumption | rfl | exact decide_eq_true rfl)) (Qy.call rfl rfl (fun h1 hE => (by have := rmay_c h1 A c q ⟨i, count⟩ hlen; rw [hm] at this; exact this))) ?_
        refine OX.tagc ?_
        refine OX.p rfl rfl (WantE.none rfl) ?_
        refine OX.tagc ?_
        refine OX.sk rfl (WantE.no rfl rfl rfl rfl) ?_
        refine OX.tagc ?_
        refine OX.sk rfl (WantE.no rfl rfl rfl rfl) ?_
        refine OX.tagc ?_
        refine OX.sk rfl (WantE.no rfl rfl rfl rfl) ?_
        refine OX.tagc ?_
        refine OX.q rfl (WantE.none rfl) (Qy.pick_fb rfl rfl rfl rfl) ?_
        refine OX.tagn ?_
        refine qT_n ?_
        refine EW.cond_f rfl rfl ?_
        refine EW.skip ?_
        refine qB_n ?_
        refine qT_n ?_
        refine EW.sreg rfl ?_
        refine OX.tagc ?_
        refine OX.p rfl rfl (WantE.none rfl) ?_
        refine OX.tagc ?_
        refine OX.q rfl (WantE.none rfl) (Qy.addi rfl rfl rfl (by omega)) ?_
        refine OX.tagc ?_
        refine OX.p rfl rfl (WantE.none rfl) ?_
        refine OX.tagn ?_
        refine qT_n ?_
        rotate_left
        intro hb
        have hb' := of_decide_eq_false hb
        (exfalso; omega)
      exact ⟨i + 1, ⟨rfl, rfl, rfl, rfl, trivial⟩, ⟨(by first | exact hF.out.1 | exact hF.out.2.1 | exact hF.out.2.2.1 | exact hF.out.2.2.2.1 | exact hF.out.2.2.2.2.1 | exact hF.out.2.2.2.2.2.1 | exact hF.out.2.2.2.2.2.2.1 | exact hF.out.2.2.2.2.2.2.2.1 | exact hF.out.2.2.2.2.2.2.2.2.1 | assumption), by omega⟩, by omega⟩
    · focus
        refine EW.seq ?_
        refine EW.seq ?_
        refine EW.sreg rfl ?_
        refine OX.tagc ?_
        refine OX.p rfl rfl (WantE.none rfl) ?_
        refine OX.tagc ?_
        refine OX.p rfl rfl (WantE.none rfl) ?_
        refine OX.tagc ?_
        refine OX.p rfl rfl (WantE.none rfl) ?_
        refine OX.tagc ?_
        refine OX.p rfl rfl (WantE.none rfl) ?_
        refine OX.tagn ?_
        refine qT_n ?_
        refine EW.cond rfl ?_ ?_
        intro hb
        have hb' := of_decide_eq_true hb
        refine EW.skip ?_
        refine qT_n ?_
        refine EW.seq ?_
        refine EW.block ?_
        refine EW.seq ?_
        refine EW.sreg rfl ?_
        refine OX.tagc ?_
        refine OX.p rfl rfl (WantE.none rfl) ?_
        refine OX.tagc ?_
        refine OX.p rfl rfl (WantE.none rfl) ?_
        refine OX.tagc ?_
        refine OX.q rfl (WantE.none rfl) (Qy.buildF rfl rfl) ?_
        refine OX.tagc ?_
        (refine OX.gr rfl rfl (WantE.none rfl) (Gr.allocF rfl rfl ?_); intro b_ h_ hb_ hE hB; have hz_ := hE.1; have hy_ := hb_; have hAlc := And.intro hb_ (And.intro hE hB); clear hE hB)
        refine OX.tagc ?_
        (refine OX.ac0 rfl rfl (WantE.none rfl) (Runs.storeF rfl rfl rfl rfl rfl hAlc.2.2 rfl rfl rfl ?_); intro h_ hC hB; replace hF := (hF.up (Chg.fresh hAlc.2.1 hC (by simpa using hAlc.1))).blk hB; clear hAlc hC hB)
        refine OX.tagn ?_
        refine qT_n ?_
        refine EW.seq ?_
        refine EW.sreg rfl ?_
        refine OX.tagc ?_
        refine OX.p rfl rfl (WantE.none rfl) ?_
        refine OX.tagc ?_
        refine OX.q rfl (WantE.none rfl) (Qy.loadk rfl rfl rfl rfl (Blk.at0 hF.out.1)) ?_
        refine OX.tagc ?_
        refine OX.q rfl (by first | exact WantE.none rfl | exact WantE.yes rfl rfl rfl (by first | assumption | rfl | exact decide_eq_true rfl)) (Qy.call rfl rfl (fun h1 hE => (by have := rmay_c h1 A c q ⟨i, count⟩ hlen; rw [hm] at this; exact this))) ?_
        refine OX.tagc ?_
        refine OX.p rfl rfl (WantE.none rfl) ?_
        refine OX.tagc ?_
        refine OX.p rfl rfl (WantE.yes rfl rfl rfl rfl) ?_
        refine OX.tagc ?_
        refine OX.q rfl (WantE.yes rfl rfl rfl rfl) (Qy.loadk rfl rfl rfl rfl (Blk.at0 hF.out.1)) ?_
        refine OX.tagc ?_
        refine OX.q rfl (by first | exact WantE.none rfl | exact WantE.yes rfl rfl rfl (by first | assumption | rfl | exact decide_eq_true rfl)) (Qy.call rfl rfl (fun h1 hE => (by have := rall_c h1 A c q ⟨i, count⟩ false (Rd.ext (by first | exact hF.out.1 | exact hF.out.2.1 | exact hF.out.2.2.1 | exact hF.out.2.2.2.1 | exact hF.out.2.2.2.2.1 | exact hF.out.2.2.2.2.2.1 | exact hF.out.2.2.2.2.2.2.1 | exact hF.out.2.2.2.2.2.2.2.1 | exact hF.out.2.2.2.2.2.2.2.2.1 | assumption) hE) hlen hm; rw [ha] at this; exact this))) ?_
        refine OX.tagc ?_
        refine OX.q rfl (WantE.none rfl) (Qy.pick_tb rfl rfl rfl rfl) ?_
        refine OX.tagn ?_
        refine qT_n ?_
        refine EW.cond_f rfl rfl ?_
        refine EW.skip ?_
        refine qB_n ?_
        refine qT_n ?_
        refine EW.sreg rfl ?_
        refine OX.tagc ?_
        refine OX.p rfl rfl (WantE.none rfl) ?_
        refine OX.tagc ?_
        refine OX.q rfl (WantE.none rfl) (Qy.addi rfl rfl rfl (by omega)) ?_
        refine OX.tagc ?_
        refine OX.p rfl rfl (WantE.none rfl) ?_
        refine OX.tagn ?_
        refine qT_n ?_
        rotate_left
        intro hb
        have hb' := of_decide_eq_false hb
        (exfalso; omega)
      exact ⟨i + 1, ⟨rfl, rfl, rfl, rfl, trivial⟩, ⟨(by first | exact hF.out.1 | exact hF.out.2.1 | exact hF.out.2.2.1 | exact hF.out.2.2.2.1 | exact hF.out.2.2.2.2.1 | exact hF.out.2.2.2.2.2.1 | exact hF.out.2.2.2.2.2.2.1 | exact hF.out.2.2.2.2.2.2.2.1 | exact hF.out.2.2.2.2.2.2.2.2.1 | assumption), by omega⟩, by omega⟩
  · have hik : i = k := by omega
    subst hik
    have hy' := hy
    unfold okA at hy'
    obtain ⟨hm, ha⟩ := Bool.and_eq_true_iff.1 hy'
    focus
      refine EW.seq ?_
      refine EW.seq ?_
      refine EW.sreg rfl ?_
      refine OX.tagc ?_
      refine OX.p rfl rfl (WantE.none rfl) ?_
      refine OX.tagc ?_
      refine OX.p rfl rfl (WantE.none rfl) ?_
      refine OX.tagc ?_
      refine OX.p rfl rfl (WantE.none rfl) ?_
      refine OX.tagc ?_
      refine OX.p rfl rfl (WantE.none rfl) ?_
      refine OX.tagn ?_
      refine qT_n ?_
      refine EW.cond rfl ?_ ?_
      intro hb
      have hb' := of_decide_eq_true hb
      refine EW.skip ?_
      refine qT_n ?_
      refine EW.seq ?_
      refine EW.block ?_
      refine EW.seq ?_
      refine EW.sreg rfl ?_
      refine OX.tagc ?_
      refine OX.p rfl rfl (WantE.none rfl) ?_
      refine OX.tagc ?_
      refine OX.p rfl rfl (WantE.none rfl) ?_
      refine OX.tagc ?_
      refine OX.q rfl (WantE.none rfl) (Qy.buildF rfl rfl) ?_
      refine OX.tagc ?_
      (refine OX.gr rfl rfl (WantE.none rfl) (Gr.allocF rfl rfl ?_); intro b_ h_ hb_ hE hB; have hz_ := hE.1; have hy_ := hb_; have hAlc := And.intro hb_ (And.intro hE hB); clear hE hB)
      refine OX.tagc ?_
      (refine OX.ac0 rfl rfl (WantE.none rfl) (Runs.storeF rfl rfl rfl rfl rfl hAlc.2.2 rfl rfl rfl ?_); intro h_ hC hB; replace hF := (hF.up (Chg.fresh hAlc.2.1 hC (by simpa using hAlc.1))).blk hB; clear hAlc hC hB)
      refine OX.tagn ?_
      refine qT_n ?_
      refine EW.seq ?_
      refine EW.sreg rfl ?_
      refine OX.tagc ?_
      refine OX.p rfl rfl (WantE.none rfl) ?_
      refine OX.tagc ?_
      refine OX.q rfl (WantE.none rfl) (Qy.loadk rfl rfl rfl rfl (Blk.at0 hF.out.1)) ?_
      refine OX.tagc ?_
      refine OX.q rfl (by first | exact WantE.none rfl | exact WantE.yes rfl rfl rfl (by first | assumption | rfl | exact decide_eq_true rfl)) (Qy.call rfl rfl (fun h1 hE => (by have := rmay_c h1 A c q ⟨i, count⟩ hlen; rw [hm] at this; exact this))) ?_
      refine OX.tagc ?_
      refine OX.p rfl rfl (WantE.none rfl) ?_
      refine OX.tagc ?_
      refine OX.p rfl rfl (WantE.yes rfl rfl rfl rfl) ?_
      refine OX.tagc ?_
      refine OX.q rfl (WantE.yes rfl rfl rfl rfl) (Qy.loadk rfl rfl rfl rfl (Blk.at0 hF.out.1)) ?_
      refine OX.tagc ?_
      refine OX.q rfl (by first | exact WantE.none rfl | exact WantE.yes rfl rfl rfl (by first | assumption | rfl | exact decide_eq_true rfl)) (Qy.call rfl rfl (fun h1 hE => (by have := rall_c h1 A c q ⟨i, count⟩ false (Rd.ext (by first | exact hF.out.1 | exact hF.out.2.1 | exact hF.out.2.2.1 | exact hF.out.2.2.2.1 | exact hF.out.2.2.2.2.1 | exact hF.out.2.2.2.2.2.1 | exact hF.out.2.2.2.2.2.2.1 | exact hF.out.2.2.2.2.2.2.2.1 | exact hF.out.2.2.2.2.2.2.2.2.1 | assumption) hE) hlen hm; rw [ha] at this; exact this))) ?_
      refine OX.tagc ?_
      refine OX.q rfl (WantE.none rfl) (Qy.pick_tb rfl rfl rfl rfl) ?_
      refine OX.tagn ?_
      refine qT_n ?_
      refine EW.cond_t rfl rfl ?_
      refine EW.seq ?_
      (refine EW.drawT ord12 tab12 rfl (by kernel_rfl) (by kernel_rfl) (by kernel_rfl) ?_)
      refine OX.p rfl rfl (WantE.none rfl) ?_
      refine OX.q rfl (WantE.none rfl) (Qy.loadk rfl rfl rfl rfl (Blk.at0 hF.out.1)) ?_
      refine OX.q rfl (WantE.none rfl) (Qy.loadk rfl rfl rfl rfl (Blk.at0 hF.out.1)) ?_
      rotate_left
      intro hb
      have hb' := of_decide_eq_false hb
      (exfalso; omega)
    refine OX.gr rfl rfl (WantE.none rfl) (Gr.call (R := fun h2 v h' => ∃ A' c', v = .slice A' q.length c' ∧ Own h' h2.size 4 A' c' (setR q (i : Int) count.toNat true)) rfl rfl (fun h2 hE => rset_c h2 A c q ⟨(i : Int), count⟩ true (Rd.ext (by first | exact hF.out.1 | exact hF.out.2.1 | exact hF.out.2.2.1 | exact hF.out.2.2.2.1 | exact hF.out.2.2.2.2.1 | exact hF.out.2.2.2.2.2.1 | exact hF.out.2.2.2.2.2.2.1 | exact hF.out.2.2.2.2.2.2.2.1 | exact hF.out.2.2.2.2.2.2.2.2.1 | assumption) hE) hlen hm) ?_)
    rintro h6 v h7 hE6 hE7 ⟨A', c', rfl, hO⟩
    have hz6 := hE6.1
    have hz8 := hF.out.2.1.1
    replace hF := hF.up (hE6.trans hE7)
    focus
      refine OX.p rfl rfl (WantE.none rfl) ?_
      rotate_left
    refine OX.ac0 rfl rfl (WantE.none rfl) (Runs.storeF rfl rfl rfl rfl rfl (Blk.ext hB0 (by first | exact hF.out.1 | exact hF.out.2.1 | exact hF.out.2.2.1 | exact hF.out.2.2.2.1 | exact hF.out.2.2.2.2.1 | exact hF.out.2.2.2.2.2.1 | exact hF.out.2.2.2.2.2.2.1 | exact hF.out.2.2.2.2.2.2.2.1 | exact hF.out.2.2.2.2.2.2.2.2.1 | assumption)) rfl rfl rfl ?_)
    intro h5 hC5 hB5
    have hz1 := hX.1
    have hX5 : Ext h1 h5 := Chg.fresh (by first | exact hF.out.1 | exact hF.out.2.1 | exact hF.out.2.2.1 | exact hF.out.2.2.2.1 | exact hF.out.2.2.2.2.1 | exact hF.out.2.2.2.2.2.1 | exact hF.out.2.2.2.2.2.2.1 | exact hF.out.2.2.2.2.2.2.2.1 | exact hF.out.2.2.2.2.2.2.2.2.1 | assumption) hC5 (by intro m hm; rw [List.mem_singleton] at hm; subst hm; omega)
    have hlt0 := hB0.lt
    have hO5 : Own h5 0 4 A' c' (setR q (i : Int) count.toNat true) := (hO.mono (Nat.zero_le _)).chg hC5 (fun x hx hx2 => by rw [List.mem_singleton] at hx2; subst hx2; have := hO.blk_ge _ hx; omega)
    replace hF := (((Know.nil h1).since hX).up hX5).blk hB5
    focus
      refine OX.p rfl rfl (WantE.none rfl) ?_
      refine OX.nil ?_
      refine qT_n ?_
      refine EW.ret ?_
      refine qB_ret ?_
      refine qT_ret ?_
      refine qT_ret ?_
      refine qB_ret ?_
      refine qT_ret ?_
      refine rQ_ret ?_
      rotate_left
    refine Rets.gen3 rfl rfl ⟨_, rfl, .inl ⟨rfl, _, rfl, Blk.at0 hF.out.1, rfl⟩⟩ rfl ?_
    exact ⟨Ext.chg (by first | exact hF.out.1 | exact hF.out.2.1 | exact hF.out.2.2.1 | exact hF.out.2.2.2.1 | exact hF.out.2.2.2.2.1 | exact hF.out.2.2.2.2.2.1 | exact hF.out.2.2.2.2.2.2.1 | exact hF.out.2.2.2.2.2.2.2.1 | exact hF.out.2.2.2.2.2.2.2.2.1 | assumption) _, A', c', by rw [setR_len]; rfl, hO5, .inr fun x hx => by have := hO.blk_ge x hx; omega⟩
end Go.Px.Ext_
