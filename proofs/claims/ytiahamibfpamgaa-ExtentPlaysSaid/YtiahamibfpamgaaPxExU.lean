/- Steps of a proof: contracts of functions, walked. -/
import Derived.Test.YtiahamibfpamgaaPxExS
set_option linter.unusedVariables false
set_option linter.unusedSimpArgs false
set_option maxRecDepth 10000
namespace Go.Px.Ext_
open Go.Proofs Go.Px
theorem setQ_len (q : List Bool) (e : Ex) (t : Bool) : (setQ q e t).1.length = q.length := by
  unfold setQ
  split
  · split
    · exact setR_len _ _ _ _
    · rfl
  · rfl
theorem allocQ_len (q : List Bool) (count : Int) : (allocQ q count).1.length = q.length := by
  unfold allocQ
  split
  · rfl
  · split
    · exact setR_len _ _ _ _
    · rfl
theorem same_c (h : Heap) (base b : Nat) (A : Option Addr) (c : Nat) (q : List Bool) (Aq : Option Addr) (cq : Nat) (N : Nat) (hN : q.length = N) (hm : MapQ h base b A c q) (hq : Rd h Aq q) :
    FG Try.prog 17 [.pointer (some ⟨b, 0, none⟩), .slice Aq N cq] h (.bool true) := by
  subst hN
  refine FC.of_EW (fun a w => Try.call17 a w) Try.func17 rfl rfl fun s h1 hX => ?_
  have hF := (((Know.nil h1).since hX).since (Ext.refl h1)).rd (hq.ext hX)
  have hl4 : q.length ≤ 4096 := by obtain ⟨_, _, _, _, h4⟩ := hm; exact h4
  have hll := hl_len q q.length
  focus
    refine EW.seq ?_
    refine EW.sreg rfl ?_
    refine OX.tagc ?_
    refine OX.p rfl rfl (WantE.none rfl) ?_
    refine OX.tagn ?_
    refine qT_n ?_
    refine EW.seq ?_
    refine EW.sreg rfl ?_
    refine OX.tagc ?_
    refine OX.p rfl rfl (WantE.none rfl) ?_
    refine OX.tagc ?_
    refine OX.p rfl rfl (WantE.none rfl) ?_
    refine OX.tagc ?_
    refine OX.p rfl rfl (WantE.none rfl) ?_
    refine OX.tagc ?_
    refine OX.p rfl rfl (WantE.yes rfl rfl rfl rfl) ?_
    refine OX.tagc ?_
    (refine OX.gr rfl rfl (by first | exact WantE.none rfl | exact WantE.yes rfl rfl rfl (by first | assumption | rfl | exact decide_eq_true rfl | exact decide_eq_false (fun h => h rfl))) (Gr.callG rfl rfl (fun h1 hE => left_any h1 _ b A c q (hm.ext (((by first | exact hF.out.1 | exact hF.out.2.1 | exact hF.out.2.2.1 | exact hF.out.2.2.2.1 | exact hF.out.2.2.2.2.1 | exact hF.out.2.2.2.2.2.1 | exact hF.out.2.2.2.2.2.2.1 | exact hF.out.2.2.2.2.2.2.2.1 | exact hF.out.2.2.2.2.2.2.2.2.1 | assumption) : Ext h _).trans hE))) ?_); intro h_ hE; replace hF := hF.up hE)
    refine OX.tagc ?_
    refine OX.p rfl rfl (WantE.yes rfl rfl rfl rfl) ?_
    refine OX.tagc ?_
    refine OX.q rfl (by first | exact WantE.none rfl | exact WantE.yes rfl rfl rfl (by first | assumption | rfl | exact decide_eq_true rfl | exact decide_eq_false (fun h => h rfl))) (Qy.call rfl rfl (fun h1 hE => rleft_c h1 Aq cq q (Rd.ext (by first | exact hF.out.1 | exact hF.out.2.1 | exact hF.out.2.2.1 | exact hF.out.2.2.2.1 | exact hF.out.2.2.2.2.1 | exact hF.out.2.2.2.2.2.1 | exact hF.out.2.2.2.2.2.2.1 | exact hF.out.2.2.2.2.2.2.2.1 | exact hF.out.2.2.2.2.2.2.2.2.1 | assumption) hE) hl4)) ?_
    refine OX.tagc ?_
    refine OX.p rfl rfl (WantE.yes rfl rfl rfl rfl) ?_
    refine OX.tagc ?_
    refine OX.q rfl (WantE.none rfl) (Qy.pick_tb rfl rfl rfl rfl) ?_
    refine OX.tagc ?_
    refine OX.p rfl rfl (WantE.none rfl) ?_
    refine OX.tagc ?_
    refine OX.p rfl rfl (WantE.yes rfl rfl rfl (decide_eq_true rfl)) ?_
    refine OX.tagc ?_
    (refine OX.gr rfl rfl (by first | exact WantE.none rfl | exact WantE.yes rfl rfl rfl (by first | assumption | rfl | exact decide_eq_true rfl | exact decide_eq_false (fun h => h rfl))) (Gr.callG rfl rfl (fun h1 hE => long_any h1 _ b A c q (hm.ext (((by first | exact hF.out.1 | exact hF.out.2.1 | exact hF.out.2.2.1 | exact hF.out.2.2.2.1 | exact hF.out.2.2.2.2.1 | exact hF.out.2.2.2.2.2.1 | exact hF.out.2.2.2.2.2.2.1 | exact hF.out.2.2.2.2.2.2.2.1 | exact hF.out.2.2.2.2.2.2.2.2.1 | assumption) : Ext h _).trans hE))) ?_); intro h_ hE; replace hF := hF.up hE)
    refine OX.tagc ?_
    refine OX.p rfl rfl (WantE.yes rfl rfl rfl (decide_eq_true rfl)) ?_
    refine OX.tagc ?_
    (refine OX.gr rfl rfl (by first | exact WantE.none rfl | exact WantE.yes rfl rfl rfl (by first | assumption | rfl | exact decide_eq_true rfl | exact decide_eq_false (fun h => h rfl))) (Gr.callG rfl rfl (fun h1 hE => rlong_c h1 Aq cq q (Rd.ext (by first | exact hF.out.1 | exact hF.out.2.1 | exact hF.out.2.2.1 | exact hF.out.2.2.2.1 | exact hF.out.2.2.2.2.1 | exact hF.out.2.2.2.2.2.1 | exact hF.out.2.2.2.2.2.2.1 | exact hF.out.2.2.2.2.2.2.2.1 | exact hF.out.2.2.2.2.2.2.2.2.1 | assumption) hE) hl4) ?_); intro h_ hE; replace hF := hF.up hE)
    refine OX.tagc ?_
    refine OX.p rfl rfl (WantE.yes rfl rfl rfl (decide_eq_true rfl)) ?_
    refine OX.tagc ?_
    refine OX.q rfl (WantE.none rfl) (Qy.pick_tb rfl rfl rfl (decide_eq_true rfl)) ?_
    refine OX.tagc ?_
    refine OX.p rfl rfl (WantE.none rfl) ?_
    refine OX.tagc ?_
    refine OX.p rfl rfl (WantE.yes rfl rfl rfl (decide_eq_true rfl)) ?_
    refine OX.tagc ?_
    rotate_left
  refine OX.gr rfl rfl (WantE.yes rfl rfl rfl (by first | rfl | assumption | (simp; done))) (Gr.call (R := fun h2 v h' => ∃ A' c', v = .slice A' (hl q q.length).length c' ∧ Own h' h2.size 35 A' c' (hl q q.length)) rfl rfl (fun h2 hE => holes_any h2 _ b A c q (hm.ext (((by first | exact hF.out.1 | exact hF.out.2.1 | exact hF.out.2.2.1 | exact hF.out.2.2.2.1 | exact hF.out.2.2.2.2.1 | exact hF.out.2.2.2.2.2.1 | exact hF.out.2.2.2.2.2.2.1 | exact hF.out.2.2.2.2.2.2.2.1 | exact hF.out.2.2.2.2.2.2.2.2.1 | assumption) : Ext h _).trans hE))) ?_)
  rintro h2 v h3 hE2 hE3 ⟨A2, c2, rfl, hO2⟩
  replace hF := (hF.up (hE2.trans hE3)).rd hO2.rd
  focus
    refine OX.tagc ?_
    refine OX.p rfl rfl (WantE.yes rfl rfl rfl (decide_eq_true rfl)) ?_
    refine OX.tagc ?_
    rotate_left
  refine OX.gr rfl rfl (WantE.yes rfl rfl rfl (by first | rfl | assumption | (simp; done))) (Gr.call (R := fun h2 v h' => ∃ A' c', v = .slice A' (hl q q.length).length c' ∧ Own h' h2.size 35 A' c' (hl q q.length)) rfl rfl (fun h2 hE => rholes_c h2 Aq cq q (Rd.ext (by first | exact hF.out.1 | exact hF.out.2.1 | exact hF.out.2.2.1 | exact hF.out.2.2.2.1 | exact hF.out.2.2.2.2.1 | exact hF.out.2.2.2.2.2.1 | exact hF.out.2.2.2.2.2.2.1 | exact hF.out.2.2.2.2.2.2.2.1 | exact hF.out.2.2.2.2.2.2.2.2.1 | assumption) hE) hl4) ?_)
  rintro h4 v h5 hE4 hE5 ⟨A4, c4, rfl, hO4⟩
  replace hF := (hF.up (hE4.trans hE5)).rd hO4.rd
  focus
    refine OX.tagc ?_
    refine OX.q rfl (by first | exact WantE.none rfl | exact WantE.yes rfl rfl rfl (by first | assumption | rfl | exact decide_eq_true rfl | exact decide_eq_false (fun h => h rfl))) (Qy.call rfl rfl (fun h1 hE => rsame_c h1 A2 A4 c2 c4 _ _ (Rd.ext hF.out.2.1 hE) (Rd.ext hF.out.1 hE) (by omega))) ?_
    refine OX.tagc ?_
    refine OX.q rfl (WantE.none rfl) (Qy.pick_tb rfl rfl rfl (decide_eq_true rfl)) ?_
    refine OX.tagc ?_
    refine OX.p rfl rfl (WantE.none rfl) ?_
    refine OX.tagn ?_
    refine qT_n ?_
    refine EW.ret ?_
    refine rQ_ret ?_
    refine Rets.one rfl ?_
    rotate_left
  exact ⟨Ext.chg (by first | exact hF.out.1 | exact hF.out.2.1 | exact hF.out.2.2.1 | exact hF.out.2.2.2.1 | exact hF.out.2.2.2.2.1 | exact hF.out.2.2.2.2.2.1 | exact hF.out.2.2.2.2.2.2.1 | exact hF.out.2.2.2.2.2.2.2.1 | exact hF.out.2.2.2.2.2.2.2.2.1 | assumption) _, congrArg Value.bool (decide_eq_true rfl)⟩
structure Act where
  kind : Int
  e : Ex
  deriving Inhabited
instance : Enc Act := ⟨3, fun x => [.int .i64 x.kind, .int .i64 x.e.first, .int .i64 x.e.count], fun _ => rfl, fun _ _ hv => by simp at hv; rcases hv with rfl | rfl | rfl <;> rfl, by decide⟩
def disj (b : Nat) (A : Option Addr) (Aq : Option Addr) : Prop := ∀ x ∈ blk Aq, x ∉ b :: blk A
theorem disj_m {b : Nat} {A A' Aq : Option Addr} {h g : Heap} {base c : Nat} {q : List Bool} (hd : disj b A Aq) (ho : Own h 0 4 Aq c q) (hV : Moved g A A') (hs : h.size ≤ g.size) : disj b A' Aq := by
  intro x hx hm
  rcases List.mem_cons.1 hm with rfl | hm
  · exact hd _ hx List.mem_cons_self
  · rcases hV with hV | hV
    · rw [hV] at hm; exact hd _ hx (List.mem_cons_of_mem _ hm)
    · have := hV x hm; have := ho.blk_lt x hx; omega
theorem disj_q {b : Nat} {A Aq Aq' : Option Addr} {h g : Heap} {base c : Nat} {q : List Bool} (hd : disj b A Aq) (hm : MapQ h base b A c q) (hV : Moved g Aq Aq') (hs : h.size ≤ g.size) : disj b A Aq' := by
  intro x hx hmm
  rcases hV with hV | hV
  · rw [hV] at hx; exact hd _ hx hmm
  · have := hV x hx; have := hm.lt x hmm; omega
theorem ralloc_n (h : Heap) (A : Option Addr) (c : Nat) (q : List Bool) (N : Nat) (count : Int) (hN : q.length = N) (ho : Own h 0 4 A c q) (hlen : N ≤ 4096) : FC Try.prog 12 [.slice A N c, .int .i64 count] h []
    (fun v h' => ∃ A' c', v = .tuple #[.slice A' N c', exV (allocQ q count).2.1, .int .i64 (allocQ q count).2.2] ∧ Own h' 0 4 A' c' (allocQ q count).1 ∧ Moved h A A') := by
  subst hN
  refine FC.mono (ralloc_any h A c q count ho hlen) (fun _ hb => hb) ?_
  rintro v h' _ ⟨A', c', rfl, h1, h2⟩
  exact ⟨A', c', by rw [allocQ_len], h1, h2⟩
theorem rtake_n (h : Heap) (A : Option Addr) (c : Nat) (q : List Bool) (N : Nat) (x : Ex) (hN : q.length = N) (ho : Own h 0 4 A c q) (hlen : N ≤ 4096) : FC Try.prog 16 [.slice A N c, exV x] h []
    (fun v h' => ∃ A' c', v = .tuple #[.slice A' N c', .int .i64 (setQ q x true).2] ∧ Own h' 0 4 A' c' (setQ q x true).1 ∧ Moved h A A') := by
  subst hN
  refine FC.mono (rtake_c h A c q x ho hlen) (fun _ hb => hb) ?_
  rintro v h' _ ⟨A', c', rfl, h1, h2⟩
  exact ⟨A', c', by rw [setQ_len], h1, h2⟩
theorem rfree_n (h : Heap) (A : Option Addr) (c : Nat) (q : List Bool) (N : Nat) (x : Ex) (hN : q.length = N) (ho : Own h 0 4 A c q) (hlen : N ≤ 4096) : FC Try.prog 14 [.slice A N c, exV x] h []
    (fun v h' => ∃ A' c', v = .tuple #[.slice A' N c', .int .i64 (setQ q x false).2] ∧ Own h' 0 4 A' c' (setQ q x false).1 ∧ Moved h A A') := by
  subst hN
  refine FC.mono (rfree_c h A c q x ho hlen) (fun _ hb => hb) ?_
  rintro v h' _ ⟨A', c', rfl, h1, h2⟩
  exact ⟨A', c', by rw [setQ_len], h1, h2⟩
/-- a map, and the document's beside it, both new since h0 -/
def Both (h0 h : Heap) (b N : Nat) (Aq : Option Addr) (cq : Nat) : Prop := ∃ q A c, q.length = N ∧ MapQ h h0.size b A c q ∧ Own h 0 4 Aq cq q ∧ disj b A Aq
set_option maxHeartbeats 4000000 in
theorem plays_c (h : Heap) (n : Int) (L : Option Addr) (cl : Nat) (l : List Act) (hr : Rd h L l) (hl : l.length ≤ 140737488351232) (hn : -9223372036854775808 ≤ n ∧ n ≤ 9223372036854775807) :
    FG Try.prog 4 [.int .i64 n, .slice L l.length cl] h (.bool true) := by
  refine FC.of_EW (fun a w => Try.call4 a w) Try.func4 rfl rfl fun s h1 hX => ?_
  have hF := (((Know.nil h1).since hX).since (Ext.refl h1)).rd (hr.ext hX)
  have hK := hF
  by_cases hbad : n < 1 ∨ 4096 < n
  · focus
      refine EW.seq ?_
      refine EW.sreg rfl ?_
      refine OX.tagc ?_
      refine OX.p rfl rfl (WantE.none rfl) ?_
      refine OX.tagn ?_
      refine qT_n ?_
      refine EW.seq ?_
      refine EW.sreg rfl ?_
      refine OX.tagc ?_
      refine OX.p rfl rfl (WantE.none rfl) ?_
      refine OX.tagc ?_
      refine OX.q rfl (by first | exact WantE.none rfl | exact WantE.yes rfl rfl rfl (by first | assumption | rfl | exact decide_eq_true rfl | exact decide_eq_false (fun h => h rfl))) (Qy.call rfl rfl (fun h1 hE => new_no _ n hbad)) ?_
      refine OX.tagc ?_
      refine OX.p rfl rfl (WantE.none rfl) ?_
      refine OX.tagc ?_
      refine OX.p rfl rfl (WantE.none rfl) ?_
      refine OX.tagc ?_
      refine OX.p rfl rfl (WantE.none rfl) ?_
      refine OX.tagc ?_
      refine OX.p rfl rfl (WantE.none rfl) ?_
      refine OX.tagc ?_
      refine OX.p rfl rfl (WantE.none rfl) ?_
      refine OX.tagn ?_
      refine qT_n ?_
      refine EW.seq ?_
      refine EW.sreg rfl ?_
      refine OX.tagc ?_
      refine OX.p rfl rfl (WantE.none rfl) ?_
      refine OX.tagc ?_
      refine OX.q rfl (by first | exact WantE.none rfl | exact WantE.yes rfl rfl rfl (by first | assumption | rfl | exact decide_eq_true rfl | exact decide_eq_false (fun h => h rfl))) (Qy.call rfl rfl (fun h1 hE => rnew_no _ n hbad)) ?_
      refine OX.tagc ?_
      refine OX.p rfl rfl (WantE.none rfl) ?_
      refine OX.tagc ?_
      refine OX.p rfl rfl (WantE.none rfl) ?_
      refine OX.tagc ?_
      refine OX.p rfl rfl (WantE.none rfl) ?_
      refine OX.tagc ?_
      refine OX.p rfl rfl (WantE.none rfl) ?_
      refine OX.tagc ?_
      refine OX.p rfl rfl (WantE.none rfl) ?_
      refine OX.tagn ?_
      refine qT_n ?_
      refine EW.seq ?_
      refine EW.seq ?_
      refine EW.sreg rfl ?_
      refine OX.tagc ?_
      refine OX.p rfl rfl (WantE.none rfl) ?_
      refine OX.tagc ?_
      refine OX.p rfl rfl (WantE.none rfl) ?_
      refine OX.tagc ?_
      refine OX.p rfl rfl (WantE.none rfl) ?_
      refine OX.tagc ?_
      refine OX.p rfl rfl (WantE.none rfl) ?_
      refine OX.tagc ?_
      refine OX.p rfl rfl (WantE.yes rfl rfl rfl rfl) ?_
      refine OX.tagc ?_
      refine OX.p rfl rfl (WantE.yes rfl rfl rfl rfl) ?_
      refine OX.tagc ?_
      refine OX.p rfl rfl (WantE.yes rfl rfl rfl rfl) ?_
      refine OX.tagc ?_
      refine OX.p rfl rfl (WantE.yes rfl rfl rfl rfl) ?_
      refine OX.tagc ?_
      refine OX.p rfl rfl (WantE.yes rfl rfl rfl rfl) ?_
      refine OX.tagc ?_
      refine OX.q rfl (WantE.none rfl) (Qy.pick_fb rfl rfl rfl rfl) ?_
      refine OX.tagn ?_
      refine qT_n ?_
      refine EW.cond_f rfl rfl ?_
      refine EW.skip ?_
      refine qT_n ?_
      refine EW.seq ?_
      refine EW.seq ?_
      refine EW.sreg rfl ?_
      refine OX.tagc ?_
      refine OX.p rfl rfl (WantE.none rfl) ?_
      refine OX.tagn ?_
      refine qT_n ?_
      refine EW.block ?_
      rotate_left
    refine EW.loopS (fun i : Nat => [(1, .slice L l.length cl), (5, .pointer none), (9, .int .i64 i)]) (fun i h' => Ext h h') (fun i => 0) 0
      ⟨rfl, rfl, rfl, trivial⟩ (by first | exact hF.out.1 | exact hF.out.2.1 | exact hF.out.2.2.1 | exact hF.out.2.2.2.1 | exact hF.out.2.2.2.2.1 | exact hF.out.2.2.2.2.2.1 | exact hF.out.2.2.2.2.2.2.1 | exact hF.out.2.2.2.2.2.2.2.1 | exact hF.out.2.2.2.2.2.2.2.2.1 | assumption) ?_
    rintro i e h2 hE2
    have hF := (Know.nil h2).since hE2
    focus
      refine EW.seq ?_
      refine EW.seq ?_
      refine EW.sreg rfl ?_
      refine OX.tagc ?_
      refine OX.p rfl rfl (WantE.none rfl) ?_
      refine OX.tagc ?_
      refine OX.p rfl rfl (WantE.none rfl) ?_
      refine OX.tagc ?_
      refine OX.p rfl rfl (WantE.none rfl) ?_
      refine OX.tagc ?_
      refine OX.p rfl rfl (WantE.none rfl) ?_
      refine OX.tagc ?_
      refine OX.p rfl rfl (WantE.none rfl) ?_
      refine OX.tagc ?_
      refine OX.gsplit rfl rfl rfl ?_ ?_
      intro hb
      have hb' := of_decide_eq_true hb
      refine OX.p rfl rfl (WantE.yes rfl rfl rfl (by assumption)) ?_
      refine OX.tagc ?_
      refine OX.p rfl rfl (WantE.yes rfl rfl rfl (by assumption)) ?_
      refine OX.tagc ?_
      refine OX.q rfl (WantE.none rfl) (Qy.pick_tb rfl rfl rfl (by assumption)) ?_
      refine OX.tagc ?_
      refine OX.p rfl rfl (WantE.none rfl) ?_
      refine OX.tagc ?_
      refine OX.gsplit rfl rfl rfl ?_ ?_
      intro hb
      have hb' := of_decide_eq_true hb
      refine OX.p rfl rfl (WantE.yes rfl rfl rfl (by assumption)) ?_
      refine OX.tagc ?_
      refine OX.p rfl rfl (WantE.yes rfl rfl rfl (by assumption)) ?_
      refine OX.tagc ?_
      refine OX.q rfl (WantE.none rfl) (Qy.pick_tb rfl rfl rfl (by assumption)) ?_
      refine OX.tagn ?_
      refine qT_n ?_
      refine EW.cond_f rfl rfl ?_
      refine EW.exit ?_
      refine qT_exit ?_
      refine qT_exit ?_
      refine qB_hit ?_
      refine qT_n ?_
      refine EW.seq ?_
      refine EW.sreg rfl ?_
      refine OX.tagc ?_
      (refine OX.gr rfl rfl (by first | exact WantE.none rfl | exact WantE.yes rfl rfl rfl (by first | assumption | rfl | exact decide_eq_true rfl | exact decide_eq_false (fun h => h rfl))) (Gr.callG rfl rfl (fun h1 hE => awake_c _) ?_); intro h_ hE; replace hF := hF.up hE)
      refine OX.tagc ?_
      refine OX.p rfl rfl (WantE.none rfl) ?_
      refine OX.tagn ?_
      refine qT_n ?_
      refine EW.ret ?_
      refine rQ_ret ?_
      refine Rets.one rfl ?_
      rotate_left
      intro hb
      have hb' := of_decide_eq_false hb
      refine OX.sk rfl (WantE.no rfl rfl rfl (by assumption)) ?_
      refine OX.tagc ?_
      refine OX.sk rfl (WantE.no rfl rfl rfl (by assumption)) ?_
      refine OX.tagc ?_
      refine OX.q rfl (WantE.none rfl) (Qy.pick_fb rfl rfl rfl (by assumption)) ?_
      refine OX.tagn ?_
      refine qT_n ?_
      refine EW.cond_f rfl rfl ?_
      refine EW.exit ?_
      refine qT_exit ?_
      refine qT_exit ?_
      refine qB_hit ?_
      refine qT_n ?_
      refine EW.seq ?_
      refine EW.sreg rfl ?_
      refine OX.tagc ?_
      (refine OX.gr rfl rfl (by first | exact WantE.none rfl | exact WantE.yes rfl rfl rfl (by first | assumption | rfl | exact decide_eq_true rfl | exact decide_eq_false (fun h => h rfl))) (Gr.callG rfl rfl (fun h1 hE => awake_c _) ?_); intro h_ hE; replace hF := hF.up hE)
      refine OX.tagc ?_
      refine OX.p rfl rfl (WantE.none rfl) ?_
      refine OX.tagn ?_
      refine qT_n ?_
      refine EW.ret ?_
      refine rQ_ret ?_
      refine Rets.one rfl ?_
      rotate_left
      intro hb
      have hb' := of_decide_eq_false hb
      refine OX.sk rfl (WantE.no rfl rfl rfl (by assumption)) ?_
      refine OX.tagc ?_
      refine OX.sk rfl (WantE.no rfl rfl rfl (by assumption)) ?_
      refine OX.tagc ?_
      refine OX.q rfl (WantE.none rfl) (Qy.pick_fb rfl rfl rfl (by assumption)) ?_
      refine OX.tagc ?_
      refine OX.p rfl rfl (WantE.none rfl) ?_
      refine OX.tagc ?_
      refine OX.sk rfl (WantE.no rfl rfl rfl rfl) ?_
      refine OX.tagc ?_
      refine OX.sk rfl (WantE.no rfl rfl rfl rfl) ?_
      refine OX.tagc ?_
      refine OX.q rfl (WantE.none rfl) (Qy.pick_fb rfl rfl rfl rfl) ?_
      refine OX.tagn ?_
      refine qT_n ?_
      refine EW.cond_f rfl rfl ?_
      refine EW.exit ?_
      refine qT_exit ?_
      refine qT_exit ?_
      refine qB_hit ?_
      refine qT_n ?_
      refine EW.seq ?_
      refine EW.sreg rfl ?_
      refine OX.tagc ?_
      (refine OX.gr rfl rfl (by first | exact WantE.none rfl | exact WantE.yes rfl rfl rfl (by first | assumption | rfl | exact decide_eq_true rfl | exact decide_eq_false (fun h => h rfl))) (Gr.callG rfl rfl (fun h1 hE => awake_c _) ?_); intro h_ hE; replace hF := hF.up hE)
      refine OX.tagc ?_
      refine OX.p rfl rfl (WantE.none rfl) ?_
      refine OX.tagn ?_
      refine qT_n ?_
      refine EW.ret ?_
      refine rQ_ret ?_
      refine Rets.one rfl ?_
      rotate_left
    all_goals exact ⟨Ext.chg (by first | exact hF.out.1 | exact hF.out.2.1 | exact hF.out.2.2.1 | exact hF.out.2.2.2.1 | exact hF.out.2.2.2.2.1 | exact hF.out.2.2.2.2.2.1 | exact hF.out.2.2.2.2.2.2.1 | exact hF.out.2.2.2.2.2.2.2.1 | exact hF.out.2.2.2.2.2.2.2.2.1 | assumption) _, rfl⟩
  · obtain ⟨N, rfl⟩ : ∃ N : Nat, n = (N : Int) := ⟨n.toNat, by omega⟩
    have hN1 : 1 ≤ N := by omega
    have hN2 : N ≤ 4096 := by omega
    focus
      refine EW.seq ?_
      refine EW.sreg rfl ?_
      refine OX.tagc ?_
      refine OX.p rfl rfl (WantE.none rfl) ?_
      refine OX.tagn ?_
      refine qT_n ?_
      refine EW.seq ?_
      refine EW.sreg rfl ?_
      refine OX.tagc ?_
      refine OX.p rfl rfl (WantE.none rfl) ?_
      refine OX.tagc ?_
      rotate_left
    refine OX.gr rfl rfl (WantE.none rfl) (Gr.call (R := fun h2 v h' => ∃ b A c, v = .tuple #[.pointer (some ⟨b, 0, none⟩), .int .i64 0] ∧ MapQ h' h2.size b A c (List.replicate N false)) rfl rfl (fun h2 hE => new_any h2 N (by omega) (by omega)) ?_)
    rintro h2 v h3 hE2 hE3 ⟨b, A, c, rfl, hM⟩
    replace hM := hM.mono hE2.1
    replace hF := hF.up (hE2.trans hE3)
    focus
      refine OX.tagc ?_
      refine OX.p rfl rfl (WantE.none rfl) ?_
      refine OX.tagc ?_
      refine OX.p rfl rfl (WantE.none rfl) ?_
      refine OX.tagc ?_
      refine OX.p rfl rfl (WantE.none rfl) ?_
      refine OX.tagc ?_
      refine OX.p rfl rfl (WantE.none rfl) ?_
      refine OX.tagc ?_
      refine OX.p rfl rfl (WantE.none rfl) ?_
      refine OX.tagn ?_
      refine qT_n ?_
      refine EW.seq ?_
      refine EW.sreg rfl ?_
      refine OX.tagc ?_
      refine OX.p rfl rfl (WantE.none rfl) ?_
      refine OX.tagc ?_
      rotate_left
    refine OX.gr rfl rfl (WantE.none rfl) (Gr.call (R := fun h2 v h' => ∃ A' c', v = .tuple #[.slice A' N c', .int .i64 0] ∧ Own h' h2.size 4 A' c' (List.replicate N false)) rfl rfl (fun h2 hE => rnew_c h2 N (by omega) (by omega)) ?_)
    rintro h4 v h5 hE4 hE5 ⟨Aq, cq, rfl, hQ⟩
    have hBoth : Both h1 h5 b N Aq cq := ⟨_, A, c, by simp, hM.ext (hE4.trans hE5), hQ.mono (Nat.zero_le _), fun x hx hm => by have := hQ.blk_ge x hx; have := hM.lt x hm; have := hE4.1; omega⟩
    replace hF := hF.up (hE4.trans hE5)
    focus
      refine OX.tagc ?_
      refine OX.p rfl rfl (WantE.none rfl) ?_
      refine OX.tagc ?_
      refine OX.p rfl rfl (WantE.none rfl) ?_
      refine OX.tagc ?_
      refine OX.p rfl rfl (WantE.none rfl) ?_
      refine OX.tagc ?_
      refine OX.p rfl rfl (WantE.none rfl) ?_
      refine OX.tagc ?_
      refine OX.p rfl rfl (WantE.none rfl) ?_
      refine OX.tagn ?_
      refine qT_n ?_
      refine EW.seq ?_
      refine EW.seq ?_
      refine EW.sreg rfl ?_
      refine OX.tagc ?_
      refine OX.p rfl rfl (WantE.none rfl) ?_
      refine OX.tagc ?_
      refine OX.p rfl rfl (WantE.none rfl) ?_
      refine OX.tagc ?_
      refine OX.p rfl rfl (WantE.none rfl) ?_
      refine OX.tagc ?_
      refine OX.p rfl rfl (WantE.none rfl) ?_
      refine OX.tagc ?_
      refine OX.p rfl rfl (WantE.yes rfl rfl rfl rfl) ?_
      refine OX.tagc ?_
      refine OX.p rfl rfl (WantE.yes rfl rfl rfl rfl) ?_
      refine OX.tagc ?_
      refine OX.p rfl rfl (WantE.yes rfl rfl rfl rfl) ?_
      refine OX.tagc ?_
      refine OX.p rfl rfl (WantE.yes rfl rfl rfl rfl) ?_
      refine OX.tagc ?_
      refine OX.p rfl rfl (WantE.yes rfl rfl rfl rfl) ?_
      refine OX.tagc ?_
      refine OX.q rfl (WantE.none rfl) (Qy.pick_fb rfl rfl rfl rfl) ?_
      refine OX.tagn ?_
      refine qT_n ?_
      refine EW.cond_f rfl rfl ?_
      refine EW.skip ?_
      refine qT_n ?_
      refine EW.seq ?_
      refine EW.seq ?_
      refine EW.sreg rfl ?_
      refine OX.tagc ?_
      refine OX.p rfl rfl (WantE.none rfl) ?_
      refine OX.tagn ?_
      refine qT_n ?_
      refine EW.block ?_
      rotate_left
    refine EW.loopA (fun (i : Nat) Aq cq => [(1, .slice L l.length cl), (5, .pointer (some ⟨b, 0, none⟩)), (7, .slice Aq N cq), (9, .int .i64 i)]) (fun i Aq cq h' => Ext h1 h' ∧ i ≤ l.length ∧ Both h1 h' b N Aq cq) (fun i => l.length - i) 0 Aq cq
      ⟨rfl, rfl, rfl, rfl, trivial⟩ ⟨(by first | exact hF.out.1 | exact hF.out.2.1 | exact hF.out.2.2.1 | exact hF.out.2.2.2.1 | exact hF.out.2.2.2.2.1 | exact hF.out.2.2.2.2.2.1 | exact hF.out.2.2.2.2.2.2.1 | exact hF.out.2.2.2.2.2.2.2.1 | exact hF.out.2.2.2.2.2.2.2.2.1 | assumption), by omega, hBoth⟩ ?_
    clear hBoth hQ hM hF hE2 hE3 hE4 hE5
    clear Aq cq
    rintro i Aq cq e h6 ⟨hE6, hi, q, A, c, hq, hM, hQ, hd⟩
    have hF := hK.up hE6
    by_cases hlt : i < l.length ∧ i < 60
    · by_cases k1 : (ix l (i : Int)).kind = 1
      · focus
          refine EW.seq ?_
          refine EW.seq ?_
          refine EW.sreg rfl ?_
          refine OX.tagc ?_
          refine OX.p rfl rfl (WantE.none rfl) ?_
          refine OX.tagc ?_
          refine OX.p rfl rfl (WantE.none rfl) ?_
          refine OX.tagc ?_
          refine OX.p rfl rfl (WantE.none rfl) ?_
          refine OX.tagc ?_
          refine OX.p rfl rfl (WantE.none rfl) ?_
          refine OX.tagc ?_
          refine OX.p rfl rfl (WantE.none rfl) ?_
          refine OX.tagc ?_
          refine OX.gsplit rfl rfl rfl ?_ ?_
          intro hb
          have hb' := of_decide_eq_true hb
          refine OX.p rfl rfl (WantE.yes rfl rfl rfl (by assumption)) ?_
          refine OX.tagc ?_
          refine OX.p rfl rfl (WantE.yes rfl rfl rfl (by assumption)) ?_
          refine OX.tagc ?_
          refine OX.q rfl (WantE.none rfl) (Qy.pick_tb rfl rfl rfl (by assumption)) ?_
          refine OX.tagc ?_
          refine OX.p rfl rfl (WantE.none rfl) ?_
          refine OX.tagc ?_
          refine OX.gsplit rfl rfl rfl ?_ ?_
          intro hb
          have hb' := of_decide_eq_true hb
          refine OX.p rfl rfl (WantE.yes rfl rfl rfl (by assumption)) ?_
          refine OX.tagc ?_
          refine OX.p rfl rfl (WantE.yes rfl rfl rfl (by assumption)) ?_
          refine OX.tagc ?_
          refine OX.q rfl (WantE.none rfl) (Qy.pick_tb rfl rfl rfl (by assumption)) ?_
          refine OX.tagn ?_
          refine qT_n ?_
          refine EW.cond_t rfl rfl ?_
          refine EW.skip ?_
          refine qT_n ?_
          refine EW.seq ?_
          refine EW.block ?_
          refine EW.seq ?_
          refine EW.sreg rfl ?_
          refine OX.tagc ?_
          refine OX.p rfl rfl (WantE.none rfl) ?_
          refine OX.tagc ?_
          refine OX.p rfl rfl (WantE.none rfl) ?_
          refine OX.tagn ?_
          refine qT_n ?_
          refine EW.seq ?_
          refine EW.sreg rfl ?_
          refine OX.tagc ?_
          refine OX.p rfl rfl (WantE.none rfl) ?_
          refine OX.tagn ?_
          refine qT_n ?_
          refine EW.seq ?_
          refine EW.sreg rfl ?_
          refine OX.tagc ?_
          refine OX.p rfl rfl (WantE.none rfl) ?_
          refine OX.tagn ?_
          refine qT_n ?_
          refine EW.seq ?_
          refine EW.seq ?_
          refine EW.sreg rfl ?_
          refine OX.tagc ?_
          refine OX.p rfl rfl (WantE.none rfl) ?_
          refine OX.tagc ?_
          refine OX.p rfl rfl (WantE.none rfl) ?_
          refine OX.tagc ?_
          refine OX.q rfl (WantE.none rfl) (Qy.indexRd rfl rfl rfl rfl rfl hF.out.1 rfl (by omega)) ?_
          refine OX.tagc ?_
          refine OX.p rfl rfl (WantE.none rfl) ?_
          refine OX.tagc ?_
          refine OX.q rfl (WantE.none rfl) (Qy.loadEl rfl rfl rfl hF.out.1 rfl (by omega) rfl) ?_
          refine OX.tagn ?_
          refine qT_n ?_
          refine EW.block ?_
          refine EW.seq ?_
          refine EW.sreg rfl ?_
          refine OX.tagc ?_
          refine OX.p rfl rfl (WantE.none rfl) ?_
          refine OX.tagc ?_
          refine OX.p rfl rfl (WantE.none rfl) ?_
          refine OX.tagn ?_
          refine qT_n ?_
          refine EW.cond rfl ?_ ?_
          intro hb
          have hb' := of_decide_eq_true hb
          refine EW.seq ?_
          refine EW.sreg rfl ?_
          refine OX.tagc ?_
          refine OX.p rfl rfl (WantE.none rfl) ?_
          refine OX.tagc ?_
          refine OX.p rfl rfl (WantE.none rfl) ?_
          refine OX.tagc ?_
          refine OX.p rfl rfl (WantE.none rfl) ?_
          refine OX.tagc ?_
          refine OX.q rfl (WantE.none rfl) (Qy.indexRd rfl rfl rfl rfl rfl hF.out.1 rfl (by omega)) ?_
          refine OX.tagc ?_
          refine OX.p rfl rfl (WantE.none rfl) ?_
          refine OX.tagc ?_
          refine OX.p rfl rfl (WantE.none rfl) ?_
          refine OX.tagc ?_
          refine OX.q rfl (WantE.none rfl) (Qy.loadEl2 rfl rfl rfl hF.out.1 rfl (by omega) rfl) ?_
          refine OX.tagc ?_
          rotate_left
          intro hb
          have hb' := of_decide_eq_false hb
          (exfalso; omega)
          intro hb
          have hb' := of_decide_eq_false hb
          (exfalso; omega)
          intro hb
          have hb' := of_decide_eq_false hb
          (exfalso; omega)
        refine OX.ac rfl rfl (WantE.none rfl) (Runs.mapOp (by first | exact hF.out.1 | exact hF.out.2.1 | exact hF.out.2.2.1 | exact hF.out.2.2.2.1 | exact hF.out.2.2.2.2.1 | exact hF.out.2.2.2.2.2.1 | exact hF.out.2.2.2.2.2.2.1 | exact hF.out.2.2.2.2.2.2.2.1 | exact hF.out.2.2.2.2.2.2.2.2.1 | assumption) hM rfl rfl (fun h2 hE => alloc_any h2 h1.size b A c q (ix l (i : Int)).e.count (hM.ext hE) ((hE6.trans hE).1)) ?_)
        intro g7 A7 c7 h7 hG7 hC7 hE7 hM7 hV7
        have hs7 := hG7.1
        have ht7 := hC7.1
        have hQ7 := (hQ.ext hG7).chg hC7 hd
        have hd7 := disj_m (base := 0) hd hQ hV7 hs7
        replace hF := (hK.up hE7).since (Ext.refl h7)
        focus
          refine OX.tagc ?_
          refine OX.p rfl rfl (WantE.none rfl) ?_
          refine OX.tagc ?_
          refine OX.p rfl rfl (WantE.none rfl) ?_
          refine OX.tagc ?_
          refine OX.p rfl rfl (WantE.none rfl) ?_
          refine OX.tagc ?_
          (refine OX.gr rfl rfl (WantE.none rfl) (Gr.allocF rfl rfl ?_); intro b_ h_ hb_ hE hB; have hz_ := hE.1; have hy_ := hb_; have hAlc := And.intro hb_ (And.intro hE hB); clear hE hB)
          refine OX.tagc ?_
          (refine OX.ac0 rfl rfl (WantE.none rfl) (Runs.storeF rfl rfl rfl rfl rfl hAlc.2.2 rfl rfl rfl ?_); intro h_ hC hB; replace hF := (hF.up (Chg.fresh hAlc.2.1 hC (by simpa using hAlc.1))).blk hB; clear hAlc hC hB)
          refine OX.tagc ?_
          refine OX.p rfl rfl (WantE.none rfl) ?_
          refine OX.tagn ?_
          refine qT_n ?_
          refine EW.seq ?_
          refine EW.sreg rfl ?_
          refine OX.tagc ?_
          refine OX.p rfl rfl (WantE.none rfl) ?_
          refine OX.tagc ?_
          refine OX.p rfl rfl (WantE.none rfl) ?_
          refine OX.tagc ?_
          refine OX.p rfl rfl (WantE.none rfl) ?_
          refine OX.tagc ?_
          refine OX.q rfl (WantE.none rfl) (Qy.indexRd rfl rfl rfl rfl rfl hF.out.2.2.1 rfl (by omega)) ?_
          refine OX.tagc ?_
          refine OX.p rfl rfl (WantE.none rfl) ?_
          refine OX.tagc ?_
          refine OX.p rfl rfl (WantE.none rfl) ?_
          refine OX.tagc ?_
          refine OX.q rfl (WantE.none rfl) (Qy.loadEl2 rfl rfl rfl hF.out.2.2.1 rfl (by omega) rfl) ?_
          refine OX.tagc ?_
          rotate_left
        refine OX.gr rfl rfl (WantE.none rfl) (Gr.call (R := fun h2 v h' => ∃ A' c', v = .tuple #[.slice A' N c', exV (allocQ q (ix l (i : Int)).e.count).2.1, .int .i64 (allocQ q (ix l (i : Int)).e.count).2.2] ∧ Own h' 0 4 A' c' (allocQ q (ix l (i : Int)).e.count).1 ∧ Moved h2 Aq A') rfl rfl (fun h2 hE => ralloc_n h2 Aq cq q N _ hq (hQ7.ext (((by first | exact hF.out.1 | exact hF.out.2.1 | exact hF.out.2.2.1 | exact hF.out.2.2.2.1 | exact hF.out.2.2.2.2.1 | exact hF.out.2.2.2.2.2.1 | exact hF.out.2.2.2.2.2.2.1 | exact hF.out.2.2.2.2.2.2.2.1 | exact hF.out.2.2.2.2.2.2.2.2.1 | assumption) : Ext h7 _).trans hE)) hN2) ?_)
        rintro h8 v h9 hE8 hE9 ⟨A9, c9, rfl, hQ9, hV9⟩
        have hx7 : Ext h7 h8 := ((by first | exact hF.out.1 | exact hF.out.2.1 | exact hF.out.2.2.1 | exact hF.out.2.2.2.1 | exact hF.out.2.2.2.2.1 | exact hF.out.2.2.2.2.2.1 | exact hF.out.2.2.2.2.2.2.1 | exact hF.out.2.2.2.2.2.2.2.1 | exact hF.out.2.2.2.2.2.2.2.2.1 | assumption) : Ext h7 _).trans hE8
        have hd9 := disj_q hd7 hM7 hV9 hx7.1
        replace hF := (hF.up (hE8.trans hE9)).since (Ext.refl h9)
        focus
          refine OX.tagc ?_
          refine OX.p rfl rfl (WantE.none rfl) ?_
          refine OX.tagc ?_
          refine OX.p rfl rfl (WantE.none rfl) ?_
          refine OX.tagc ?_
          refine OX.p rfl rfl (WantE.none rfl) ?_
          refine OX.tagc ?_
          refine OX.p rfl rfl (WantE.none rfl) ?_
          refine OX.tagc ?_
          (refine OX.gr rfl rfl (WantE.none rfl) (Gr.allocF rfl rfl ?_); intro b_ h_ hb_ hE hB; have hz_ := hE.1; have hy_ := hb_; have hAlc := And.intro hb_ (And.intro hE hB); clear hE hB)
          refine OX.tagc ?_
          refine OX.p rfl rfl (WantE.none rfl) ?_
          refine OX.tagc ?_
          (refine OX.ac0 rfl rfl (WantE.none rfl) (Runs.storeF rfl rfl rfl rfl rfl hAlc.2.2 rfl rfl rfl ?_); intro h_ hC hB; replace hF := (hF.up (Chg.fresh hAlc.2.1 hC (by simpa using hAlc.1))).blk hB; clear hAlc hC hB)
          refine OX.tagc ?_
          refine OX.p rfl rfl (WantE.none rfl) ?_
          refine OX.tagn ?_
          refine qT_n ?_
          refine EW.seq ?_
          refine EW.seq ?_
          refine EW.sreg rfl ?_
          refine OX.tagc ?_
          refine OX.q rfl (WantE.none rfl) (Qy.loadk rfl rfl rfl rfl (Blk.at0 hF.out.2.2.1)) ?_
          refine OX.tagc ?_
          refine OX.q rfl (WantE.none rfl) (Qy.loadk rfl rfl rfl rfl (Blk.at0 hF.out.1)) ?_
          refine OX.tagc ?_
          refine OX.q rfl (WantE.none rfl) (Qy.eqAgg rfl rfl rfl (by kernel_rfl) rfl rfl) ?_
          refine OX.tagn ?_
          refine qT_n ?_
          refine EW.cond_f rfl (congrArg not (Bool.and_eq_true_iff.2 ⟨(decide_eq_true rfl), (Bool.and_eq_true_iff.2 ⟨(decide_eq_true rfl), rfl⟩)⟩)) ?_
          refine EW.skip ?_
          refine qT_n ?_
          refine EW.seq ?_
          refine EW.sreg rfl ?_
          refine OX.tagc ?_
          refine OX.p rfl rfl (WantE.none rfl) ?_
          refine OX.tagc ?_
          refine OX.p rfl rfl (WantE.none rfl) ?_
          refine OX.tagn ?_
          refine qT_n ?_
          refine EW.seq ?_
          refine EW.sreg rfl ?_
          refine OX.tagc ?_
          refine OX.p rfl rfl (WantE.none rfl) ?_
          refine OX.tagc ?_
          refine OX.p rfl rfl (WantE.none rfl) ?_
          refine OX.tagn ?_
          refine qT_n ?_
          refine EW.sreg rfl ?_
          refine OX.tagc ?_
          refine OX.p rfl rfl (WantE.none rfl) ?_
          refine OX.tagc ?_
          refine OX.p rfl rfl (WantE.none rfl) ?_
          refine OX.tagn ?_
          refine qB_n ?_
          refine qT_n ?_
          refine EW.seq ?_
          refine EW.seq ?_
          refine EW.sreg rfl ?_
          refine OX.tagc ?_
          refine OX.p rfl rfl (WantE.none rfl) ?_
          refine OX.tagc ?_
          refine OX.p rfl rfl (WantE.none rfl) ?_
          refine OX.tagc ?_
          refine OX.p rfl rfl (WantE.none rfl) ?_
          refine OX.tagc ?_
          refine OX.p rfl rfl (WantE.none rfl) ?_
          refine OX.tagc ?_
          refine OX.p rfl rfl (WantE.yes rfl rfl rfl (decide_eq_false (fun h => h rfl))) ?_
          refine OX.tagc ?_
          refine OX.p rfl rfl (WantE.yes rfl rfl rfl (decide_eq_false (fun h => h rfl))) ?_
          refine OX.tagc ?_
          (refine OX.gr rfl rfl (by first | exact WantE.none rfl | exact WantE.yes rfl rfl rfl (by first | assumption | rfl | exact decide_eq_true rfl | exact decide_eq_false (fun h => h rfl))) (Gr.callG rfl rfl (fun h1 hE => same_c h1 _ b A7 c7 _ A9 c9 N ((allocQ_len _ _).trans hq) (hM7.ext ((hx7.trans hE9).trans (((by first | exact hF.out.1 | exact hF.out.2.1 | exact hF.out.2.2.1 | exact hF.out.2.2.2.1 | exact hF.out.2.2.2.2.1 | exact hF.out.2.2.2.2.2.1 | exact hF.out.2.2.2.2.2.2.1 | exact hF.out.2.2.2.2.2.2.2.1 | exact hF.out.2.2.2.2.2.2.2.2.1 | assumption) : Ext h9 _).trans hE))) (hQ9.rd.ext (((by first | exact hF.out.1 | exact hF.out.2.1 | exact hF.out.2.2.1 | exact hF.out.2.2.2.1 | exact hF.out.2.2.2.2.1 | exact hF.out.2.2.2.2.2.1 | exact hF.out.2.2.2.2.2.2.1 | exact hF.out.2.2.2.2.2.2.2.1 | exact hF.out.2.2.2.2.2.2.2.2.1 | assumption) : Ext h9 _).trans hE))) ?_); intro h_ hE; replace hF := hF.up hE)
          refine OX.tagc ?_
          refine OX.p rfl rfl (WantE.yes rfl rfl rfl (decide_eq_false (fun h => h rfl))) ?_
          refine OX.tagc ?_
          refine OX.q rfl (WantE.none rfl) (Qy.pick_fb rfl rfl rfl (decide_eq_false (fun h => h rfl))) ?_
          refine OX.tagn ?_
          refine qT_n ?_
          refine EW.cond_f rfl rfl ?_
          refine EW.skip ?_
          refine qT_n ?_
          refine EW.sreg rfl ?_
          refine OX.tagc ?_
          refine OX.p rfl rfl (WantE.none rfl) ?_
          refine OX.tagc ?_
          refine OX.p rfl rfl (WantE.none rfl) ?_
          refine OX.tagn ?_
          refine qB_n ?_
          refine qT_n ?_
          refine EW.sreg rfl ?_
          refine OX.tagc ?_
          refine OX.p rfl rfl (WantE.none rfl) ?_
          refine OX.tagc ?_
          refine OX.q rfl (WantE.none rfl) (Qy.addi rfl rfl rfl (by omega)) ?_
          refine OX.tagc ?_
          refine OX.p rfl rfl (WantE.none rfl) ?_
          refine OX.tagn ?_
          refine qT_n ?_
          rotate_left
        have hx9 : Ext h9 _ := (by first | exact hF.out.1 | exact hF.out.2.1 | exact hF.out.2.2.1 | exact hF.out.2.2.2.1 | exact hF.out.2.2.2.2.1 | exact hF.out.2.2.2.2.2.1 | exact hF.out.2.2.2.2.2.2.1 | exact hF.out.2.2.2.2.2.2.2.1 | exact hF.out.2.2.2.2.2.2.2.2.1 | assumption)
        exact ⟨i + 1, A9, c9, ⟨rfl, rfl, rfl, rfl, trivial⟩, ⟨(by first | exact hF.out.1 | exact hF.out.2.1 | exact hF.out.2.2.1 | exact hF.out.2.2.2.1 | exact hF.out.2.2.2.2.1 | exact hF.out.2.2.2.2.2.1 | exact hF.out.2.2.2.2.2.2.1 | exact hF.out.2.2.2.2.2.2.2.1 | exact hF.out.2.2.2.2.2.2.2.2.1 | assumption), by omega, _, A7, c7, (allocQ_len _ _).trans hq, hM7.ext ((hx7.trans hE9).trans hx9), hQ9.ext hx9, hd9⟩, by omega⟩
      · by_cases k2 : (ix l (i : Int)).kind = 2
        · focus
            refine EW.seq ?_
            refine EW.seq ?_
            refine EW.sreg rfl ?_
            refine OX.tagc ?_
            refine OX.p rfl rfl (WantE.none rfl) ?_
            refine OX.tagc ?_
            refine OX.p rfl rfl (WantE.none rfl) ?_
            refine OX.tagc ?_
            refine OX.p rfl rfl (WantE.none rfl) ?_
            refine OX.tagc ?_
            refine OX.p rfl rfl (WantE.none rfl) ?_
            refine OX.tagc ?_
            refine OX.p rfl rfl (WantE.none rfl) ?_
            refine OX.tagc ?_
            refine OX.gsplit rfl rfl rfl ?_ ?_
            intro hb
            have hb' := of_decide_eq_true hb
            refine OX.p rfl rfl (WantE.yes rfl rfl rfl (by assumption)) ?_
            refine OX.tagc ?_
            refine OX.p rfl rfl (WantE.yes rfl rfl rfl (by assumption)) ?_
            refine OX.tagc ?_
            refine OX.q rfl (WantE.none rfl) (Qy.pick_tb rfl rfl rfl (by assumption)) ?_
            refine OX.tagc ?_
            refine OX.p rfl rfl (WantE.none rfl) ?_
            refine OX.tagc ?_
            refine OX.gsplit rfl rfl rfl ?_ ?_
            intro hb
            have hb' := of_decide_eq_true hb
            refine OX.p rfl rfl (WantE.yes rfl rfl rfl (by assumption)) ?_
            refine OX.tagc ?_
            refine OX.p rfl rfl (WantE.yes rfl rfl rfl (by assumption)) ?_
            refine OX.tagc ?_
            refine OX.q rfl (WantE.none rfl) (Qy.pick_tb rfl rfl rfl (by assumption)) ?_
            refine OX.tagn ?_
            refine qT_n ?_
            refine EW.cond_t rfl rfl ?_
            refine EW.skip ?_
            refine qT_n ?_
            refine EW.seq ?_
            refine EW.block ?_
            refine EW.seq ?_
            refine EW.sreg rfl ?_
            refine OX.tagc ?_
            refine OX.p rfl rfl (WantE.none rfl) ?_
            refine OX.tagc ?_
            refine OX.p rfl rfl (WantE.none rfl) ?_
            refine OX.tagn ?_
            refine qT_n ?_
            refine EW.seq ?_
            refine EW.sreg rfl ?_
            refine OX.tagc ?_
            refine OX.p rfl rfl (WantE.none rfl) ?_
            refine OX.tagn ?_
            refine qT_n ?_
            refine EW.seq ?_
            refine EW.sreg rfl ?_
            refine OX.tagc ?_
            refine OX.p rfl rfl (WantE.none rfl) ?_
            refine OX.tagn ?_
            refine qT_n ?_
            refine EW.seq ?_
            refine EW.seq ?_
            refine EW.sreg rfl ?_
            refine OX.tagc ?_
            refine OX.p rfl rfl (WantE.none rfl) ?_
            refine OX.tagc ?_
            refine OX.p rfl rfl (WantE.none rfl) ?_
            refine OX.tagc ?_
            refine OX.q rfl (WantE.none rfl) (Qy.indexRd rfl rfl rfl rfl rfl hF.out.1 rfl (by omega)) ?_
            refine OX.tagc ?_
            refine OX.p rfl rfl (WantE.none rfl) ?_
            refine OX.tagc ?_
            refine OX.q rfl (WantE.none rfl) (Qy.loadEl rfl rfl rfl hF.out.1 rfl (by omega) rfl) ?_
            refine OX.tagn ?_
            refine qT_n ?_
            refine EW.block ?_
            refine EW.seq ?_
            refine EW.sreg rfl ?_
            refine OX.tagc ?_
            refine OX.p rfl rfl (WantE.none rfl) ?_
            refine OX.tagc ?_
            refine OX.p rfl rfl (WantE.none rfl) ?_
            refine OX.tagn ?_
            refine qT_n ?_
            refine EW.cond rfl ?_ ?_
            intro hb
            have hb' := of_decide_eq_true hb
            (exfalso; omega)
            intro hb
            have hb' := of_decide_eq_false hb
            refine EW.seq ?_
            refine EW.sreg rfl ?_
            refine OX.tagc ?_
            refine OX.p rfl rfl (WantE.none rfl) ?_
            refine OX.tagc ?_
            refine OX.p rfl rfl (WantE.none rfl) ?_
            refine OX.tagn ?_
            refine qT_n ?_
            refine EW.cond rfl ?_ ?_
            intro hb
            have hb' := of_decide_eq_true hb
            refine EW.seq ?_
            refine EW.sreg rfl ?_
            refine OX.tagc ?_
            refine OX.p rfl rfl (WantE.none rfl) ?_
            refine OX.tagc ?_
            refine OX.p rfl rfl (WantE.none rfl) ?_
            refine OX.tagc ?_
            refine OX.p rfl rfl (WantE.none rfl) ?_
            refine OX.tagc ?_
            refine OX.q rfl (WantE.none rfl) (Qy.indexRd rfl rfl rfl rfl rfl hF.out.1 rfl (by omega)) ?_
            refine OX.tagc ?_
            refine OX.p rfl rfl (WantE.none rfl) ?_
            refine OX.tagc ?_
            refine OX.q rfl (WantE.none rfl) (Qy.loadPart rfl rfl rfl rfl hF.out.1 rfl (by omega) rfl rfl) ?_
            refine OX.tagc ?_
            rotate_left
            intro hb
            have hb' := of_decide_eq_false hb
            (exfalso; omega)
            intro hb
            have hb' := of_decide_eq_false hb
            (exfalso; omega)
            intro hb
            have hb' := of_decide_eq_false hb
            (exfalso; omega)
          refine OX.ac rfl rfl (WantE.none rfl) (Runs.mapOp (by first | exact hF.out.1 | exact hF.out.2.1 | exact hF.out.2.2.1 | exact hF.out.2.2.2.1 | exact hF.out.2.2.2.2.1 | exact hF.out.2.2.2.2.2.1 | exact hF.out.2.2.2.2.2.2.1 | exact hF.out.2.2.2.2.2.2.2.1 | exact hF.out.2.2.2.2.2.2.2.2.1 | assumption) hM rfl rfl (fun h2 hE => free_any h2 h1.size b A c q (ix l (i : Int)).e (hM.ext hE) ((hE6.trans hE).1)) ?_)
          intro g7 A7 c7 h7 hG7 hC7 hE7 hM7 hV7
          have hs7 := hG7.1
          have ht7 := hC7.1
          have hQ7 := (hQ.ext hG7).chg hC7 hd
          have hd7 := disj_m (base := 0) hd hQ hV7 hs7
          replace hF := (hK.up hE7).since (Ext.refl h7)
          focus
            refine OX.tagc ?_
            refine OX.p rfl rfl (WantE.none rfl) ?_
            refine OX.tagn ?_
            refine qT_n ?_
            refine EW.seq ?_
            refine EW.sreg rfl ?_
            refine OX.tagc ?_
            refine OX.p rfl rfl (WantE.none rfl) ?_
            refine OX.tagc ?_
            refine OX.p rfl rfl (WantE.none rfl) ?_
            refine OX.tagc ?_
            refine OX.p rfl rfl (WantE.none rfl) ?_
            refine OX.tagc ?_
            refine OX.q rfl (WantE.none rfl) (Qy.indexRd rfl rfl rfl rfl rfl hF.out.2.1 rfl (by omega)) ?_
            refine OX.tagc ?_
            refine OX.p rfl rfl (WantE.none rfl) ?_
            refine OX.tagc ?_
            refine OX.q rfl (WantE.none rfl) (Qy.loadPart rfl rfl rfl rfl hF.out.2.1 rfl (by omega) rfl rfl) ?_
            refine OX.tagc ?_
            rotate_left
          refine OX.gr rfl rfl (WantE.none rfl) (Gr.call (R := fun h2 v h' => ∃ A' c', v = .tuple #[.slice A' N c', .int .i64 (setQ q (ix l (i : Int)).e false).2] ∧ Own h' 0 4 A' c' (setQ q (ix l (i : Int)).e false).1 ∧ Moved h2 Aq A') rfl rfl (fun h2 hE => rfree_n h2 Aq cq q N _ hq (hQ7.ext (((by first | exact hF.out.1 | exact hF.out.2.1 | exact hF.out.2.2.1 | exact hF.out.2.2.2.1 | exact hF.out.2.2.2.2.1 | exact hF.out.2.2.2.2.2.1 | exact hF.out.2.2.2.2.2.2.1 | exact hF.out.2.2.2.2.2.2.2.1 | exact hF.out.2.2.2.2.2.2.2.2.1 | assumption) : Ext h7 _).trans hE)) hN2) ?_)
          rintro h8 v h9 hE8 hE9 ⟨A9, c9, rfl, hQ9, hV9⟩
          have hx7 : Ext h7 h8 := ((by first | exact hF.out.1 | exact hF.out.2.1 | exact hF.out.2.2.1 | exact hF.out.2.2.2.1 | exact hF.out.2.2.2.2.1 | exact hF.out.2.2.2.2.2.1 | exact hF.out.2.2.2.2.2.2.1 | exact hF.out.2.2.2.2.2.2.2.1 | exact hF.out.2.2.2.2.2.2.2.2.1 | assumption) : Ext h7 _).trans hE8
          have hd9 := disj_q hd7 hM7 hV9 hx7.1
          replace hF := (hF.up (hE8.trans hE9)).since (Ext.refl h9)
          focus
            refine OX.tagc ?_
            refine OX.p rfl rfl (WantE.none rfl) ?_
            refine OX.tagc ?_
            refine OX.p rfl rfl (WantE.none rfl) ?_
            refine OX.tagc ?_
            refine OX.p rfl rfl (WantE.none rfl) ?_
            refine OX.tagc ?_
            refine OX.p rfl rfl (WantE.none rfl) ?_
            refine OX.tagc ?_
            refine OX.p rfl rfl (WantE.none rfl) ?_
            refine OX.tagn ?_
            refine qT_n ?_
            refine EW.seq ?_
            refine EW.sreg rfl ?_
            refine OX.tagc ?_
            refine OX.p rfl rfl (WantE.none rfl) ?_
            refine OX.tagc ?_
            refine OX.p rfl rfl (WantE.none rfl) ?_
            refine OX.tagn ?_
            refine qT_n ?_
            refine EW.sreg rfl ?_
            refine OX.tagc ?_
            refine OX.p rfl rfl (WantE.none rfl) ?_
            refine OX.tagc ?_
            refine OX.p rfl rfl (WantE.none rfl) ?_
            refine OX.tagn ?_
            refine qB_n ?_
            refine qT_n ?_
            refine EW.seq ?_
            refine EW.seq ?_
            refine EW.sreg rfl ?_
            refine OX.tagc ?_
            refine OX.p rfl rfl (WantE.none rfl) ?_
            refine OX.tagc ?_
            refine OX.p rfl rfl (WantE.none rfl) ?_
            refine OX.tagc ?_
            refine OX.p rfl rfl (WantE.none rfl) ?_
            refine OX.tagc ?_
            refine OX.p rfl rfl (WantE.none rfl) ?_
            refine OX.tagc ?_
            refine OX.p rfl rfl (WantE.yes rfl rfl rfl (decide_eq_false (fun h => h rfl))) ?_
            refine OX.tagc ?_
            refine OX.p rfl rfl (WantE.yes rfl rfl rfl (decide_eq_false (fun h => h rfl))) ?_
            refine OX.tagc ?_
            (refine OX.gr rfl rfl (by first | exact WantE.none rfl | exact WantE.yes rfl rfl rfl (by first | assumption | rfl | exact decide_eq_true rfl | exact decide_eq_false (fun h => h rfl))) (Gr.callG rfl rfl (fun h1 hE => same_c h1 _ b A7 c7 _ A9 c9 N ((setQ_len _ _ _).trans hq) (hM7.ext ((hx7.trans hE9).trans (((by first | exact hF.out.1 | exact hF.out.2.1 | exact hF.out.2.2.1 | exact hF.out.2.2.2.1 | exact hF.out.2.2.2.2.1 | exact hF.out.2.2.2.2.2.1 | exact hF.out.2.2.2.2.2.2.1 | exact hF.out.2.2.2.2.2.2.2.1 | exact hF.out.2.2.2.2.2.2.2.2.1 | assumption) : Ext h9 _).trans hE))) (hQ9.rd.ext (((by first | exact hF.out.1 | exact hF.out.2.1 | exact hF.out.2.2.1 | exact hF.out.2.2.2.1 | exact hF.out.2.2.2.2.1 | exact hF.out.2.2.2.2.2.1 | exact hF.out.2.2.2.2.2.2.1 | exact hF.out.2.2.2.2.2.2.2.1 | exact hF.out.2.2.2.2.2.2.2.2.1 | assumption) : Ext h9 _).trans hE))) ?_); intro h_ hE; replace hF := hF.up hE)
            refine OX.tagc ?_
            refine OX.p rfl rfl (WantE.yes rfl rfl rfl (decide_eq_false (fun h => h rfl))) ?_
            refine OX.tagc ?_
            refine OX.q rfl (WantE.none rfl) (Qy.pick_fb rfl rfl rfl (decide_eq_false (fun h => h rfl))) ?_
            refine OX.tagn ?_
            refine qT_n ?_
            refine EW.cond_f rfl rfl ?_
            refine EW.skip ?_
            refine qT_n ?_
            refine EW.sreg rfl ?_
            refine OX.tagc ?_
            refine OX.p rfl rfl (WantE.none rfl) ?_
            refine OX.tagc ?_
            refine OX.p rfl rfl (WantE.none rfl) ?_
            refine OX.tagn ?_
            refine qB_n ?_
            refine qT_n ?_
            refine EW.sreg rfl ?_
            refine OX.tagc ?_
            refine OX.p rfl rfl (WantE.none rfl) ?_
            refine OX.tagc ?_
            refine OX.q rfl (WantE.none rfl) (Qy.addi rfl rfl rfl (by omega)) ?_
            refine OX.tagc ?_
            refine OX.p rfl rfl (WantE.none rfl) ?_
            refine OX.tagn ?_
            refine qT_n ?_
            rotate_left
          have hx9 : Ext h9 _ := (by first | exact hF.out.1 | exact hF.out.2.1 | exact hF.out.2.2.1 | exact hF.out.2.2.2.1 | exact hF.out.2.2.2.2.1 | exact hF.out.2.2.2.2.2.1 | exact hF.out.2.2.2.2.2.2.1 | exact hF.out.2.2.2.2.2.2.2.1 | exact hF.out.2.2.2.2.2.2.2.2.1 | assumption)
          exact ⟨i + 1, A9, c9, ⟨rfl, rfl, rfl, rfl, trivial⟩, ⟨(by first | exact hF.out.1 | exact hF.out.2.1 | exact hF.out.2.2.1 | exact hF.out.2.2.2.1 | exact hF.out.2.2.2.2.1 | exact hF.out.2.2.2.2.2.1 | exact hF.out.2.2.2.2.2.2.1 | exact hF.out.2.2.2.2.2.2.2.1 | exact hF.out.2.2.2.2.2.2.2.2.1 | assumption), by omega, _, A7, c7, (setQ_len _ _ _).trans hq, hM7.ext ((hx7.trans hE9).trans hx9), hQ9.ext hx9, hd9⟩, by omega⟩
        · focus
            refine EW.seq ?_
            refine EW.seq ?_
            refine EW.sreg rfl ?_
            refine OX.tagc ?_
            refine OX.p rfl rfl (WantE.none rfl) ?_
            refine OX.tagc ?_
            refine OX.p rfl rfl (WantE.none rfl) ?_
            refine OX.tagc ?_
            refine OX.p rfl rfl (WantE.none rfl) ?_
            refine OX.tagc ?_
            refine OX.p rfl rfl (WantE.none rfl) ?_
            refine OX.tagc ?_
            refine OX.p rfl rfl (WantE.none rfl) ?_
            refine OX.tagc ?_
            refine OX.gsplit rfl rfl rfl ?_ ?_
            intro hb
            have hb' := of_decide_eq_true hb
            refine OX.p rfl rfl (WantE.yes rfl rfl rfl (by assumption)) ?_
            refine OX.tagc ?_
            refine OX.p rfl rfl (WantE.yes rfl rfl rfl (by assumption)) ?_
            refine OX.tagc ?_
            refine OX.q rfl (WantE.none rfl) (Qy.pick_tb rfl rfl rfl (by assumption)) ?_
            refine OX.tagc ?_
            refine OX.p rfl rfl (WantE.none rfl) ?_
            refine OX.tagc ?_
            refine OX.gsplit rfl rfl rfl ?_ ?_
            intro hb
            have hb' := of_decide_eq_true hb
            refine OX.p rfl rfl (WantE.yes rfl rfl rfl (by assumption)) ?_
            refine OX.tagc ?_
            refine OX.p rfl rfl (WantE.yes rfl rfl rfl (by assumption)) ?_
            refine OX.tagc ?_
            refine OX.q rfl (WantE.none rfl) (Qy.pick_tb rfl rfl rfl (by assumption)) ?_
            refine OX.tagn ?_
            refine qT_n ?_
            refine EW.cond_t rfl rfl ?_
            refine EW.skip ?_
            refine qT_n ?_
            refine EW.seq ?_
            refine EW.block ?_
            refine EW.seq ?_
            refine EW.sreg rfl ?_
            refine OX.tagc ?_
            refine OX.p rfl rfl (WantE.none rfl) ?_
            refine OX.tagc ?_
            refine OX.p rfl rfl (WantE.none rfl) ?_
            refine OX.tagn ?_
            refine qT_n ?_
            refine EW.seq ?_
            refine EW.sreg rfl ?_
            refine OX.tagc ?_
            refine OX.p rfl rfl (WantE.none rfl) ?_
            refine OX.tagn ?_
            refine qT_n ?_
            refine EW.seq ?_
            refine EW.sreg rfl ?_
            refine OX.tagc ?_
            refine OX.p rfl rfl (WantE.none rfl) ?_
            refine OX.tagn ?_
            refine qT_n ?_
            refine EW.seq ?_
            refine EW.seq ?_
            refine EW.sreg rfl ?_
            refine OX.tagc ?_
            refine OX.p rfl rfl (WantE.none rfl) ?_
            refine OX.tagc ?_
            refine OX.p rfl rfl (WantE.none rfl) ?_
            refine OX.tagc ?_
            refine OX.q rfl (WantE.none rfl) (Qy.indexRd rfl rfl rfl rfl rfl hF.out.1 rfl (by omega)) ?_
            refine OX.tagc ?_
            refine OX.p rfl rfl (WantE.none rfl) ?_
            refine OX.tagc ?_
            refine OX.q rfl (WantE.none rfl) (Qy.loadEl rfl rfl rfl hF.out.1 rfl (by omega) rfl) ?_
            refine OX.tagn ?_
            refine qT_n ?_
            refine EW.block ?_
            refine EW.seq ?_
            refine EW.sreg rfl ?_
            refine OX.tagc ?_
            refine OX.p rfl rfl (WantE.none rfl) ?_
            refine OX.tagc ?_
            refine OX.p rfl rfl (WantE.none rfl) ?_
            refine OX.tagn ?_
            refine qT_n ?_
            refine EW.cond rfl ?_ ?_
            intro hb
            have hb' := of_decide_eq_true hb
            (exfalso; omega)
            intro hb
            have hb' := of_decide_eq_false hb
            refine EW.seq ?_
            refine EW.sreg rfl ?_
            refine OX.tagc ?_
            refine OX.p rfl rfl (WantE.none rfl) ?_
            refine OX.tagc ?_
            refine OX.p rfl rfl (WantE.none rfl) ?_
            refine OX.tagn ?_
            refine qT_n ?_
            refine EW.cond rfl ?_ ?_
            intro hb
            have hb' := of_decide_eq_true hb
            (exfalso; omega)
            intro hb
            have hb' := of_decide_eq_false hb
            refine EW.seq ?_
            refine EW.sreg rfl ?_
            refine OX.tagc ?_
            refine OX.p rfl rfl (WantE.none rfl) ?_
            refine OX.tagc ?_
            refine OX.p rfl rfl (WantE.none rfl) ?_
            refine OX.tagc ?_
            refine OX.p rfl rfl (WantE.none rfl) ?_
            refine OX.tagc ?_
            refine OX.q rfl (WantE.none rfl) (Qy.indexRd rfl rfl rfl rfl rfl hF.out.1 rfl (by omega)) ?_
            refine OX.tagc ?_
            refine OX.p rfl rfl (WantE.none rfl) ?_
            refine OX.tagc ?_
            refine OX.q rfl (WantE.none rfl) (Qy.loadPart rfl rfl rfl rfl hF.out.1 rfl (by omega) rfl rfl) ?_
            refine OX.tagc ?_
            rotate_left
            intro hb
            have hb' := of_decide_eq_false hb
            (exfalso; omega)
            intro hb
            have hb' := of_decide_eq_false hb
            (exfalso; omega)
          refine OX.ac rfl rfl (WantE.none rfl) (Runs.mapOp (by first | exact hF.out.1 | exact hF.out.2.1 | exact hF.out.2.2.1 | exact hF.out.2.2.2.1 | exact hF.out.2.2.2.2.1 | exact hF.out.2.2.2.2.2.1 | exact hF.out.2.2.2.2.2.2.1 | exact hF.out.2.2.2.2.2.2.2.1 | exact hF.out.2.2.2.2.2.2.2.2.1 | assumption) hM rfl rfl (fun h2 hE => take_any h2 h1.size b A c q (ix l (i : Int)).e (hM.ext hE) ((hE6.trans hE).1)) ?_)
          intro g7 A7 c7 h7 hG7 hC7 hE7 hM7 hV7
          have hs7 := hG7.1
          have ht7 := hC7.1
          have hQ7 := (hQ.ext hG7).chg hC7 hd
          have hd7 := disj_m (base := 0) hd hQ hV7 hs7
          replace hF := (hK.up hE7).since (Ext.refl h7)
          focus
            refine OX.tagc ?_
            refine OX.p rfl rfl (WantE.none rfl) ?_
            refine OX.tagn ?_
            refine qT_n ?_
            refine EW.seq ?_
            refine EW.sreg rfl ?_
            refine OX.tagc ?_
            refine OX.p rfl rfl (WantE.none rfl) ?_
            refine OX.tagc ?_
            refine OX.p rfl rfl (WantE.none rfl) ?_
            refine OX.tagc ?_
            refine OX.p rfl rfl (WantE.none rfl) ?_
            refine OX.tagc ?_
            refine OX.q rfl (WantE.none rfl) (Qy.indexRd rfl rfl rfl rfl rfl hF.out.2.1 rfl (by omega)) ?_
            refine OX.tagc ?_
            refine OX.p rfl rfl (WantE.none rfl) ?_
            refine OX.tagc ?_
            refine OX.q rfl (WantE.none rfl) (Qy.loadPart rfl rfl rfl rfl hF.out.2.1 rfl (by omega) rfl rfl) ?_
            refine OX.tagc ?_
            rotate_left
          refine OX.gr rfl rfl (WantE.none rfl) (Gr.call (R := fun h2 v h' => ∃ A' c', v = .tuple #[.slice A' N c', .int .i64 (setQ q (ix l (i : Int)).e true).2] ∧ Own h' 0 4 A' c' (setQ q (ix l (i : Int)).e true).1 ∧ Moved h2 Aq A') rfl rfl (fun h2 hE => rtake_n h2 Aq cq q N _ hq (hQ7.ext (((by first | exact hF.out.1 | exact hF.out.2.1 | exact hF.out.2.2.1 | exact hF.out.2.2.2.1 | exact hF.out.2.2.2.2.1 | exact hF.out.2.2.2.2.2.1 | exact hF.out.2.2.2.2.2.2.1 | exact hF.out.2.2.2.2.2.2.2.1 | exact hF.out.2.2.2.2.2.2.2.2.1 | assumption) : Ext h7 _).trans hE)) hN2) ?_)
          rintro h8 v h9 hE8 hE9 ⟨A9, c9, rfl, hQ9, hV9⟩
          have hx7 : Ext h7 h8 := ((by first | exact hF.out.1 | exact hF.out.2.1 | exact hF.out.2.2.1 | exact hF.out.2.2.2.1 | exact hF.out.2.2.2.2.1 | exact hF.out.2.2.2.2.2.1 | exact hF.out.2.2.2.2.2.2.1 | exact hF.out.2.2.2.2.2.2.2.1 | exact hF.out.2.2.2.2.2.2.2.2.1 | assumption) : Ext h7 _).trans hE8
          have hd9 := disj_q hd7 hM7 hV9 hx7.1
          replace hF := (hF.up (hE8.trans hE9)).since (Ext.refl h9)
          focus
            refine OX.tagc ?_
            refine OX.p rfl rfl (WantE.none rfl) ?_
            refine OX.tagc ?_
            refine OX.p rfl rfl (WantE.none rfl) ?_
            refine OX.tagc ?_
            refine OX.p rfl rfl (WantE.none rfl) ?_
            refine OX.tagc ?_
            refine OX.p rfl rfl (WantE.none rfl) ?_
            refine OX.tagc ?_
            refine OX.p rfl rfl (WantE.none rfl) ?_
            refine OX.tagn ?_
            refine qT_n ?_
            refine EW.seq ?_
            refine EW.sreg rfl ?_
            refine OX.tagc ?_
            refine OX.p rfl rfl (WantE.none rfl) ?_
            refine OX.tagc ?_
            refine OX.p rfl rfl (WantE.none rfl) ?_
            refine OX.tagn ?_
            refine qT_n ?_
            refine EW.sreg rfl ?_
            refine OX.tagc ?_
            refine OX.p rfl rfl (WantE.none rfl) ?_
            refine OX.tagc ?_
            refine OX.p rfl rfl (WantE.none rfl) ?_
            refine OX.tagn ?_
            refine qB_n ?_
            refine qT_n ?_
            refine EW.seq ?_
            refine EW.seq ?_
            refine EW.sreg rfl ?_
            refine OX.tagc ?_
            refine OX.p rfl rfl (WantE.none rfl) ?_
            refine OX.tagc ?_
            refine OX.p rfl rfl (WantE.none rfl) ?_
            refine OX.tagc ?_
            refine OX.p rfl rfl (WantE.none rfl) ?_
            refine OX.tagc ?_
            refine OX.p rfl rfl (WantE.none rfl) ?_
            refine OX.tagc ?_
            refine OX.p rfl rfl (WantE.yes rfl rfl rfl (decide_eq_false (fun h => h rfl))) ?_
            refine OX.tagc ?_
            refine OX.p rfl rfl (WantE.yes rfl rfl rfl (decide_eq_false (fun h => h rfl))) ?_
            refine OX.tagc ?_
            (refine OX.gr rfl rfl (by first | exact WantE.none rfl | exact WantE.yes rfl rfl rfl (by first | assumption | rfl | exact decide_eq_true rfl | exact decide_eq_false (fun h => h rfl))) (Gr.callG rfl rfl (fun h1 hE => same_c h1 _ b A7 c7 _ A9 c9 N ((setQ_len _ _ _).trans hq) (hM7.ext ((hx7.trans hE9).trans (((by first | exact hF.out.1 | exact hF.out.2.1 | exact hF.out.2.2.1 | exact hF.out.2.2.2.1 | exact hF.out.2.2.2.2.1 | exact hF.out.2.2.2.2.2.1 | exact hF.out.2.2.2.2.2.2.1 | exact hF.out.2.2.2.2.2.2.2.1 | exact hF.out.2.2.2.2.2.2.2.2.1 | assumption) : Ext h9 _).trans hE))) (hQ9.rd.ext (((by first | exact hF.out.1 | exact hF.out.2.1 | exact hF.out.2.2.1 | exact hF.out.2.2.2.1 | exact hF.out.2.2.2.2.1 | exact hF.out.2.2.2.2.2.1 | exact hF.out.2.2.2.2.2.2.1 | exact hF.out.2.2.2.2.2.2.2.1 | exact hF.out.2.2.2.2.2.2.2.2.1 | assumption) : Ext h9 _).trans hE))) ?_); intro h_ hE; replace hF := hF.up hE)
            refine OX.tagc ?_
            refine OX.p rfl rfl (WantE.yes rfl rfl rfl (decide_eq_false (fun h => h rfl))) ?_
            refine OX.tagc ?_
            refine OX.q rfl (WantE.none rfl) (Qy.pick_fb rfl rfl rfl (decide_eq_false (fun h => h rfl))) ?_
            refine OX.tagn ?_
            refine qT_n ?_
            refine EW.cond_f rfl rfl ?_
            refine EW.skip ?_
            refine qT_n ?_
            refine EW.sreg rfl ?_
            refine OX.tagc ?_
            refine OX.p rfl rfl (WantE.none rfl) ?_
            refine OX.tagc ?_
            refine OX.p rfl rfl (WantE.none rfl) ?_
            refine OX.tagn ?_
            refine qB_n ?_
            refine qT_n ?_
            refine EW.sreg rfl ?_
            refine OX.tagc ?_
            refine OX.p rfl rfl (WantE.none rfl) ?_
            refine OX.tagc ?_
            refine OX.q rfl (WantE.none rfl) (Qy.addi rfl rfl rfl (by omega)) ?_
            refine OX.tagc ?_
            refine OX.p rfl rfl (WantE.none rfl) ?_
            refine OX.tagn ?_
            refine qT_n ?_
            rotate_left
          have hx9 : Ext h9 _ := (by first | exact hF.out.1 | exact hF.out.2.1 | exact hF.out.2.2.1 | exact hF.out.2.2.2.1 | exact hF.out.2.2.2.2.1 | exact hF.out.2.2.2.2.2.1 | exact hF.out.2.2.2.2.2.2.1 | exact hF.out.2.2.2.2.2.2.2.1 | exact hF.out.2.2.2.2.2.2.2.2.1 | assumption)
          exact ⟨i + 1, A9, c9, ⟨rfl, rfl, rfl, rfl, trivial⟩, ⟨(by first | exact hF.out.1 | exact hF.out.2.1 | exact hF.out.2.2.1 | exact hF.out.2.2.2.1 | exact hF.out.2.2.2.2.1 | exact hF.out.2.2.2.2.2.1 | exact hF.out.2.2.2.2.2.2.1 | exact hF.out.2.2.2.2.2.2.2.1 | exact hF.out.2.2.2.2.2.2.2.2.1 | assumption), by omega, _, A7, c7, (setQ_len _ _ _).trans hq, hM7.ext ((hx7.trans hE9).trans hx9), hQ9.ext hx9, hd9⟩, by omega⟩
    · focus
        refine EW.seq ?_
        refine EW.seq ?_
        refine EW.sreg rfl ?_
        refine OX.tagc ?_
        refine OX.p rfl rfl (WantE.none rfl) ?_
        refine OX.tagc ?_
        refine OX.p rfl rfl (WantE.none rfl) ?_
        refine OX.tagc ?_
        refine OX.p rfl rfl (WantE.none rfl) ?_
        refine OX.tagc ?_
        refine OX.p rfl rfl (WantE.none rfl) ?_
        refine OX.tagc ?_
        refine OX.p rfl rfl (WantE.none rfl) ?_
        refine OX.tagc ?_
        refine OX.gsplit rfl rfl rfl ?_ ?_
        intro hb
        have hb' := of_decide_eq_true hb
        refine OX.p rfl rfl (WantE.yes rfl rfl rfl (by assumption)) ?_
        refine OX.tagc ?_
        refine OX.p rfl rfl (WantE.yes rfl rfl rfl (by assumption)) ?_
        refine OX.tagc ?_
        refine OX.q rfl (WantE.none rfl) (Qy.pick_tb rfl rfl rfl (by assumption)) ?_
        refine OX.tagc ?_
        refine OX.p rfl rfl (WantE.none rfl) ?_
        refine OX.tagc ?_
        refine OX.gsplit rfl rfl rfl ?_ ?_
        intro hb
        have hb' := of_decide_eq_true hb
        (exfalso; omega)
        intro hb
        have hb' := of_decide_eq_false hb
        refine OX.sk rfl (WantE.no rfl rfl rfl (by assumption)) ?_
        refine OX.tagc ?_
        refine OX.sk rfl (WantE.no rfl rfl rfl (by assumption)) ?_
        refine OX.tagc ?_
        refine OX.q rfl (WantE.none rfl) (Qy.pick_fb rfl rfl rfl (by assumption)) ?_
        refine OX.tagn ?_
        refine qT_n ?_
        refine EW.cond_f rfl rfl ?_
        refine EW.exit ?_
        refine qT_exit ?_
        refine qT_exit ?_
        refine qB_hit ?_
        refine qT_n ?_
        refine EW.seq ?_
        refine EW.sreg rfl ?_
        refine OX.tagc ?_
        (refine OX.gr rfl rfl (by first | exact WantE.none rfl | exact WantE.yes rfl rfl rfl (by first | assumption | rfl | exact decide_eq_true rfl | exact decide_eq_false (fun h => h rfl))) (Gr.callG rfl rfl (fun h1 hE => awake_c _) ?_); intro h_ hE; replace hF := hF.up hE)
        refine OX.tagc ?_
        refine OX.p rfl rfl (WantE.none rfl) ?_
        refine OX.tagn ?_
        refine qT_n ?_
        refine EW.ret ?_
        refine rQ_ret ?_
        refine Rets.one rfl ?_
        rotate_left
        intro hb
        have hb' := of_decide_eq_false hb
        refine OX.sk rfl (WantE.no rfl rfl rfl (by assumption)) ?_
        refine OX.tagc ?_
        refine OX.sk rfl (WantE.no rfl rfl rfl (by assumption)) ?_
        refine OX.tagc ?_
        refine OX.q rfl (WantE.none rfl) (Qy.pick_fb rfl rfl rfl (by assumption)) ?_
        refine OX.tagc ?_
        refine OX.p rfl rfl (WantE.none rfl) ?_
        refine OX.tagc ?_
        refine OX.sk rfl (WantE.no rfl rfl rfl rfl) ?_
        refine OX.tagc ?_
        refine OX.sk rfl (WantE.no rfl rfl rfl rfl) ?_
        refine OX.tagc ?_
        refine OX.q rfl (WantE.none rfl) (Qy.pick_fb rfl rfl rfl rfl) ?_
        refine OX.tagn ?_
        refine qT_n ?_
        refine EW.cond_f rfl rfl ?_
        refine EW.exit ?_
        refine qT_exit ?_
        refine qT_exit ?_
        refine qB_hit ?_
        refine qT_n ?_
        refine EW.seq ?_
        refine EW.sreg rfl ?_
        refine OX.tagc ?_
        (refine OX.gr rfl rfl (by first | exact WantE.none rfl | exact WantE.yes rfl rfl rfl (by first | assumption | rfl | exact decide_eq_true rfl | exact decide_eq_false (fun h => h rfl))) (Gr.callG rfl rfl (fun h1 hE => awake_c _) ?_); intro h_ hE; replace hF := hF.up hE)
        refine OX.tagc ?_
        refine OX.p rfl rfl (WantE.none rfl) ?_
        refine OX.tagn ?_
        refine qT_n ?_
        refine EW.ret ?_
        refine rQ_ret ?_
        refine Rets.one rfl ?_
        rotate_left
      all_goals exact ⟨Ext.chg (by first | exact hF.out.1 | exact hF.out.2.1 | exact hF.out.2.2.1 | exact hF.out.2.2.2.1 | exact hF.out.2.2.2.2.1 | exact hF.out.2.2.2.2.2.1 | exact hF.out.2.2.2.2.2.2.1 | exact hF.out.2.2.2.2.2.2.2.1 | exact hF.out.2.2.2.2.2.2.2.2.1 | assumption) _, rfl⟩
end Go.Px.Ext_
