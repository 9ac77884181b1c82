/- Steps of a proof: contracts of functions, walked. -/
import Derived.Test.YtiahamibfpamgaaPxExU
set_option linter.unusedVariables false
set_option linter.unusedSimpArgs false
set_option maxRecDepth 10000
namespace Go.Px.Ext_
open Go.Proofs Go.Px
theorem allocQ_or (q : List Bool) (count : Int) (hc : 1 ≤ count) : allocQ q count = (q, ⟨0, 0⟩, 2) ∨ ∃ i : Nat, allocQ q count = (setR q (i : Int) count.toNat true, ⟨(i : Int), count⟩, 0) ∧ mayB q.length ⟨(i : Int), count⟩ = true ∧ allB q (i : Int) count.toNat false = true := by
  unfold allocQ
  rw [if_neg (by omega)]
  cases hf : (List.range q.length).find? (okA q count) with
  | none => exact .inl rfl
  | some i =>
    have h1 := (List.find?_range_eq_some.1 hf).1
    unfold okA at h1
    obtain ⟨h2, h3⟩ := Bool.and_eq_true_iff.1 h1
    exact .inr ⟨i, rfl, h2, h3⟩
theorem ix_out {α : Type} [Inhabited α] {l m : List α} (hlm : l.length = m.length) (h : ∀ i : Int, 0 ≤ i → i < l.length → ix l i = ix m i) : l = m :=
  list_ix hlm fun j hj => h j (by omega) (by omega)
theorem set_back {q : List Bool} {e : Ex} (hm : mayB q.length e = true) (ha : allB q e.first e.count.toNat false = true) : setQ (setR q e.first e.count.toNat true) e false = (q, 0) := by
  have hb := mayB_i.1 hm
  have ha := allB_iff.1 ha
  unfold setQ
  rw [setR_len, hm, if_pos rfl]
  have h1 : allB (setR q e.first e.count.toNat true) e.first e.count.toNat (!false) = true := by
    rw [allB_iff]
    intro i h1 h2
    rw [setR_ix q _ _ hb.2.1 _ (by omega) i (by omega), if_pos ⟨h1, h2⟩]; rfl
  rw [h1, if_pos rfl]
  congr 1
  refine ix_out (by rw [setR_len, setR_len]) fun i h0 hlt => ?_
  rw [setR_ix _ _ _ hb.2.1 _ (by rw [setR_len]; omega) i h0]
  split
  · rename_i hh; exact (ha i hh.1 hh.2).symm
  · rename_i hh; rw [setR_ix q _ _ hb.2.1 _ (by omega) i h0, if_neg hh]
theorem set_no {q : List Bool} {e : Ex} (hm : mayB q.length e = true) (ha : allB q e.first e.count.toNat false = true) : setQ q e false = (q, 3) := by
  have hb := mayB_i.1 hm
  have ha := allB_iff.1 ha
  unfold setQ
  rw [hm, if_pos rfl]
  have h1 : allB q e.first e.count.toNat (!false) = false := by
    rw [← Bool.not_eq_true]
    intro h
    have := allB_iff.1 h e.first (Int.le_refl _) (by omega)
    rw [ha e.first (Int.le_refl _) (by omega)] at this
    cases this
  rw [h1]; rfl
theorem set_yes {q : List Bool} {e : Ex} (hm : mayB q.length e = true) (ha : allB q e.first e.count.toNat false = true) : setQ q e true = (setR q e.first e.count.toNat true, 0) := by
  unfold setQ
  rw [hm, if_pos rfl, show (!true) = false from rfl, ha]; rfl
/-- blocks that a map has not -/
def Off (L : List Nat) (b : Nat) (A : Option Addr) : Prop := ∀ x ∈ L, x ∉ b :: blk A
theorem Off.moved {L : List Nat} {b : Nat} {A A' : Option Addr} {g : Heap} (ho : Off L b A) (hV : Moved g A A') (hlt : ∀ x ∈ L, x < g.size) : Off L b A' := by
  intro x hx hm
  rcases List.mem_cons.1 hm with rfl | hm
  · exact ho _ hx List.mem_cons_self
  · rcases hV with hV | hV
    · rw [hV] at hm; exact ho _ hx (List.mem_cons_of_mem _ hm)
    · have := hV x hm; have := hlt x hx; omega
theorem MapQ.off {h h' : Heap} {base b base' b' : Nat} {A A' : Option Addr} {c c' : Nat} {q q' : List Bool} (k : MapQ h base b A c q) (k' : MapQ h' base' b' A' c' q') (hb : h.size ≤ base') : Off (b' :: blk A') b A := fun x hx hm => by
  have := k.lt x hm; have := k'.ge x hx; omega
set_option maxHeartbeats 4000000 in
theorem copies_c (h : Heap) (n : Int) (L : Option Addr) (cl : Nat) (l : List Ex) (hr : Rd h L l) (hln : l.length ≤ 140737488351232) :
    FG Try.prog 5 [.slice L l.length cl, .int .i64 n] h (.bool true) := by
  refine FC.of_EW (fun a w => Try.call5 a w) Try.func5 rfl rfl fun s h1 hX => ?_
  have hF := (((Know.nil h1).since hX).since (Ext.refl h1)).rd (hr.ext hX)
  have hK := hF
  focus
    refine EW.seq ?_
    refine EW.sreg rfl ?_
    refine OX.tagc ?_
    refine OX.p rfl rfl (WantE.none rfl) ?_
    refine OX.tagn ?_
    refine qT_n ?_
    refine EW.seq ?_
    refine EW.sreg rfl ?_
    refine OX.tagc ?_
    rotate_left
  refine OX.gr rfl rfl (WantE.none rfl) (Gr.call (R := fun h2 v h' => ∃ b A c, v = .tuple #[.pointer (some ⟨b, 0, none⟩), .int .i64 0] ∧ MapQ h' h2.size b A c (List.replicate 100 false)) rfl rfl (fun h2 hE => new_any h2 100 (by omega) (by omega)) ?_)
  rintro h2 v h3 hE2 hE3 ⟨b, A, c, rfl, hM⟩
  replace hM := hM.mono hE2.1
  replace hF := hF.up (hE2.trans hE3)
  focus
    refine OX.tagc ?_
    refine OX.p rfl rfl (WantE.none rfl) ?_
    refine OX.tagc ?_
    refine OX.p rfl rfl (WantE.none rfl) ?_
    refine OX.tagc ?_
    refine OX.p rfl rfl (WantE.none rfl) ?_
    refine OX.tagc ?_
    refine OX.p rfl rfl (WantE.none rfl) ?_
    refine OX.tagc ?_
    refine OX.p rfl rfl (WantE.none rfl) ?_
    refine OX.tagn ?_
    refine qT_n ?_
    refine EW.seq ?_
    refine EW.seq ?_
    refine EW.sreg rfl ?_
    refine OX.tagc ?_
    refine OX.p rfl rfl (WantE.none rfl) ?_
    refine OX.tagc ?_
    refine OX.p rfl rfl (WantE.none rfl) ?_
    refine OX.tagc ?_
    refine OX.p rfl rfl (WantE.none rfl) ?_
    refine OX.tagc ?_
    refine OX.p rfl rfl (WantE.yes rfl rfl rfl rfl) ?_
    refine OX.tagc ?_
    refine OX.p rfl rfl (WantE.yes rfl rfl rfl rfl) ?_
    refine OX.tagc ?_
    refine OX.q rfl (WantE.none rfl) (Qy.pick_fb rfl rfl rfl rfl) ?_
    refine OX.tagn ?_
    refine qT_n ?_
    refine EW.cond_f rfl rfl ?_
    refine EW.skip ?_
    refine qT_n ?_
    refine EW.seq ?_
    refine EW.seq ?_
    refine EW.sreg rfl ?_
    refine OX.tagc ?_
    refine OX.p rfl rfl (WantE.none rfl) ?_
    refine OX.tagn ?_
    refine qT_n ?_
    refine EW.block ?_
    rotate_left
  refine EW.loopS (fun i : Nat => [(0, .slice L l.length cl), (1, .int .i64 n), (5, .pointer (some ⟨b, 0, none⟩)), (7, .int .i64 i)]) (fun i h' => Ext h1 h' ∧ i ≤ l.length ∧ ∃ q A c, MapQ h' h1.size b A c q) (fun i => l.length - i) 0
    ⟨rfl, rfl, rfl, rfl, trivial⟩ ⟨(by first | exact hF.out.1 | exact hF.out.2.1 | exact hF.out.2.2.1 | exact hF.out.2.2.2.1 | exact hF.out.2.2.2.2.1 | exact hF.out.2.2.2.2.2.1 | exact hF.out.2.2.2.2.2.2.1 | exact hF.out.2.2.2.2.2.2.2.1 | exact hF.out.2.2.2.2.2.2.2.2.1 | assumption), by omega, _, A, c, hM⟩ ?_
  clear hF hM hE2 hE3
  clear A c
  rintro i e h4 ⟨hE4, hi, q, A, c, hM⟩
  have hF := hK.up hE4
  by_cases hl1 : i < l.length
  · by_cases hl2 : i < 20
    · focus
        refine EW.seq ?_
        refine EW.seq ?_
        refine EW.sreg rfl ?_
        refine OX.tagc ?_
        refine OX.p rfl rfl (WantE.none rfl) ?_
        refine OX.tagc ?_
        refine OX.p rfl rfl (WantE.none rfl) ?_
        refine OX.tagc ?_
        refine OX.p rfl rfl (WantE.none rfl) ?_
        refine OX.tagc ?_
        refine OX.p rfl rfl (WantE.none rfl) ?_
        refine OX.tagc ?_
        refine OX.p rfl rfl (WantE.none rfl) ?_
        refine OX.tagc ?_
        refine OX.gsplit rfl rfl rfl ?_ ?_
        intro hb
        have hb' := of_decide_eq_true hb
        refine OX.p rfl rfl (WantE.yes rfl rfl rfl (by assumption)) ?_
        refine OX.tagc ?_
        refine OX.p rfl rfl (WantE.yes rfl rfl rfl (by assumption)) ?_
        refine OX.tagc ?_
        refine OX.q rfl (WantE.none rfl) (Qy.pick_tb rfl rfl rfl (by assumption)) ?_
        refine OX.tagn ?_
        refine qT_n ?_
        refine EW.cond rfl ?_ ?_
        intro hb
        have hb' := of_decide_eq_true hb
        refine EW.skip ?_
        refine qT_n ?_
        refine EW.seq ?_
        refine EW.block ?_
        refine EW.sreg rfl ?_
        refine OX.tagc ?_
        refine OX.p rfl rfl (WantE.none rfl) ?_
        refine OX.tagc ?_
        refine OX.p rfl rfl (WantE.none rfl) ?_
        refine OX.tagc ?_
        refine OX.p rfl rfl (WantE.none rfl) ?_
        refine OX.tagc ?_
        refine OX.q rfl (WantE.none rfl) (Qy.indexRd rfl rfl rfl rfl rfl hF.out.1 rfl (by omega)) ?_
        refine OX.tagc ?_
        refine OX.q rfl (WantE.none rfl) (Qy.loadElk rfl rfl rfl rfl hF.out.1 rfl (by omega)) ?_
        refine OX.tagc ?_
        rotate_left
        intro hb
        have hb' := of_decide_eq_false hb
        (exfalso; omega)
        intro hb
        have hb' := of_decide_eq_false hb
        (exfalso; omega)
      refine OX.ac rfl rfl (WantE.none rfl) (Runs.mapOp (by first | exact hF.out.1 | exact hF.out.2.1 | exact hF.out.2.2.1 | exact hF.out.2.2.2.1 | exact hF.out.2.2.2.2.1 | exact hF.out.2.2.2.2.2.1 | exact hF.out.2.2.2.2.2.2.1 | exact hF.out.2.2.2.2.2.2.2.1 | exact hF.out.2.2.2.2.2.2.2.2.1 | assumption) hM rfl rfl (fun h2 hE => take_any h2 h1.size b A c q (ix l (i : Int)) (hM.ext hE) ((hE4.trans hE).1)) ?_)
      intro g5 A5 c5 h5 hG5 hC5 hE5 hM5 hV5
      replace hF := hK.up hE5
      focus
        refine OX.tagn ?_
        refine qB_n ?_
        refine qT_n ?_
        refine EW.sreg rfl ?_
        refine OX.tagc ?_
        refine OX.p rfl rfl (WantE.none rfl) ?_
        refine OX.tagc ?_
        refine OX.q rfl (WantE.none rfl) (Qy.addi rfl rfl rfl (by omega)) ?_
        refine OX.tagc ?_
        refine OX.p rfl rfl (WantE.none rfl) ?_
        refine OX.tagn ?_
        refine qT_n ?_
        rotate_left
      exact ⟨i + 1, ⟨rfl, rfl, rfl, rfl, trivial⟩, ⟨hE5, by omega, _, A5, c5, hM5⟩, by omega⟩
    · focus
        refine EW.seq ?_
        refine EW.seq ?_
        refine EW.sreg rfl ?_
        refine OX.tagc ?_
        refine OX.p rfl rfl (WantE.none rfl) ?_
        refine OX.tagc ?_
        refine OX.p rfl rfl (WantE.none rfl) ?_
        refine OX.tagc ?_
        refine OX.p rfl rfl (WantE.none rfl) ?_
        refine OX.tagc ?_
        refine OX.p rfl rfl (WantE.none rfl) ?_
        refine OX.tagc ?_
        refine OX.p rfl rfl (WantE.none rfl) ?_
        refine OX.tagc ?_
        refine OX.gsplit rfl rfl rfl ?_ ?_
        intro hb
        have hb' := of_decide_eq_true hb
        refine OX.p rfl rfl (WantE.yes rfl rfl rfl (by assumption)) ?_
        refine OX.tagc ?_
        refine OX.p rfl rfl (WantE.yes rfl rfl rfl (by assumption)) ?_
        refine OX.tagc ?_
        refine OX.q rfl (WantE.none rfl) (Qy.pick_tb rfl rfl rfl (by assumption)) ?_
        refine OX.tagn ?_
        refine qT_n ?_
        refine EW.cond rfl ?_ ?_
        intro hb
        have hb' := of_decide_eq_true hb
        (exfalso; omega)
        intro hb
        have hb' := of_decide_eq_false hb
        refine EW.exit ?_
        refine qT_exit ?_
        refine qT_exit ?_
        refine qB_hit ?_
        refine qT_n ?_
        refine EW.seq ?_
        refine EW.sreg rfl ?_
        refine OX.tagc ?_
        refine OX.p rfl rfl (WantE.none rfl) ?_
        refine OX.tagc ?_
        rotate_left
        intro hb
        have hb' := of_decide_eq_false hb
        (exfalso; omega)
      focus
        rotate_left
      refine OX.gr rfl rfl (WantE.none rfl) (Gr.call (R := fun h2 v h' => ∃ A' c', v = .slice A' (hl q q.length).length c' ∧ Own h' h2.size 35 A' c' (hl q q.length)) rfl rfl (fun h2 hE => holes_any h2 _ b A c q (hM.ext hE)) ?_)
      rintro h5 v h6 hE5 hE6 ⟨Aw, cw, rfl, hW⟩
      replace hF := hF.up (hE5.trans hE6)
      focus
        refine OX.tagc ?_
        refine OX.p rfl rfl (WantE.none rfl) ?_
        refine OX.tagn ?_
        refine qT_n ?_
        refine EW.seq ?_
        refine EW.sreg rfl ?_
        refine OX.tagc ?_
        refine OX.p rfl rfl (WantE.none rfl) ?_
        refine OX.tagc ?_
        rotate_left
      refine OX.gr rfl rfl (WantE.none rfl) (Gr.call (R := fun h2 v h' => ∃ b' A' c', v = .pointer (some ⟨b', 0, none⟩) ∧ MapQ h' h2.size b' A' c' q) rfl rfl (fun h2 hE => copy_any h2 _ b A c q (hM.ext (hE5.trans (hE6.trans hE)))) ?_)
      rintro h7 v h8 hE7 hE8 ⟨b', A', c', rfl, hC⟩
      have hx8 : Ext h4 h8 := (hE5.trans hE6).trans (hE7.trans hE8)
      have hMx := hM.ext hx8
      have hoC : Off (b' :: blk A') b A := hM.off hC (by have := hE5.1; have := hE6.1; have := hE7.1; omega)
      have hoW : Off (blk Aw) b A := fun x hx hm => by have := hW.blk_ge x hx; have := hM.lt x hm; have := hE5.1; omega
      have hWx := hW.ext (hE7.trans hE8)
      replace hF := (hF.up (hE7.trans hE8)).since (Ext.refl h8)
      have hll := hl_len q q.length
      have hl4 : q.length ≤ 4096 := by obtain ⟨_, _, _, _, h4⟩ := hM; exact h4
      obtain ⟨cnt, hcnt⟩ : ∃ cnt, cnt = 1 + n % 256 % 30 := ⟨_, rfl⟩
      have hc1 : 1 ≤ cnt := by omega
      rcases allocQ_or q cnt hc1 with hal | ⟨k, hal, hmay, hall⟩
      · focus
          refine OX.tagc ?_
          refine OX.p rfl rfl (WantE.none rfl) ?_
          refine OX.tagn ?_
          refine qT_n ?_
          refine EW.seq ?_
          refine EW.sreg rfl ?_
          refine OX.tagc ?_
          refine OX.p rfl rfl (WantE.none rfl) ?_
          refine OX.tagc ?_
          refine OX.p rfl rfl (WantE.none rfl) ?_
          refine OX.tagc ?_
          refine OX.q rfl (WantE.none rfl) (Qy.andm 8 256 rfl rfl rfl rfl rfl rfl) ?_
          refine OX.tagc ?_
          refine OX.q rfl (WantE.none rfl) (Qy.remi rfl rfl rfl (by omega)) ?_
          refine OX.tagc ?_
          refine OX.q rfl (WantE.none rfl) (Qy.addi rfl rfl rfl (by omega)) ?_
          refine OX.tagc ?_
          rotate_left
        rw [← hcnt]
        refine OX.ac rfl rfl (WantE.none rfl) (Runs.mapOp (by first | exact hF.out.1 | exact hF.out.2.1 | exact hF.out.2.2.1 | exact hF.out.2.2.2.1 | exact hF.out.2.2.2.2.1 | exact hF.out.2.2.2.2.2.1 | exact hF.out.2.2.2.2.2.2.1 | exact hF.out.2.2.2.2.2.2.2.1 | exact hF.out.2.2.2.2.2.2.2.2.1 | assumption) hMx rfl rfl (fun h2 hE => by have := alloc_any h2 h1.size b A c q cnt (hMx.ext hE) (((hE4.trans hx8).trans hE).1); simp only [hal] at this; exact this) ?_)
        intro g9 A9 c9 h9 hG9 hC9 hE9 hM9 hV9
        have hs9 := hG9.1
        have ht9 := hC9.1
        have hoC9 := hoC.moved hV9 (fun x hx => by have := hC.lt x hx; omega)
        have hoW9 := hoW.moved hV9 (fun x hx => by have := hWx.blk_lt x hx; omega)
        have hCm9 := (hC.ext hG9).chg hC9 (hoC _ List.mem_cons_self) (fun x hx => hoC x (List.mem_cons_of_mem _ hx))
        have hW9 := (hWx.ext hG9).chg hC9 (fun x hx => hoW x hx)
        replace hF := ((hK.up hE9).since (Ext.refl h9)).rd hW9.rd
        focus
          refine OX.tagc ?_
          refine OX.p rfl rfl (WantE.none rfl) ?_
          refine OX.tagc ?_
          refine OX.p rfl rfl (WantE.none rfl) ?_
          refine OX.tagc ?_
          refine OX.p rfl rfl (WantE.none rfl) ?_
          refine OX.tagc ?_
          (refine OX.gr rfl rfl (WantE.none rfl) (Gr.allocF rfl rfl ?_); intro b_ h_ hb_ hE hB; have hz_ := hE.1; have hy_ := hb_; have hAlc := And.intro hb_ (And.intro hE hB); clear hE hB)
          refine OX.tagc ?_
          (refine OX.ac0 rfl rfl (WantE.none rfl) (Runs.storeF rfl rfl rfl rfl rfl hAlc.2.2 rfl rfl rfl ?_); intro h_ hC hB; replace hF := (hF.up (Chg.fresh hAlc.2.1 hC (by simpa using hAlc.1))).blk hB; clear hAlc hC hB)
          refine OX.tagc ?_
          refine OX.p rfl rfl (WantE.none rfl) ?_
          refine OX.tagn ?_
          refine qT_n ?_
          refine EW.seq ?_
          refine EW.seq ?_
          refine EW.sreg rfl ?_
          refine OX.tagc ?_
          refine OX.p rfl rfl (WantE.none rfl) ?_
          refine OX.tagc ?_
          refine OX.p rfl rfl (WantE.none rfl) ?_
          refine OX.tagc ?_
          refine OX.p rfl rfl (WantE.none rfl) ?_
          refine OX.tagc ?_
          refine OX.p rfl rfl (WantE.yes rfl rfl rfl rfl) ?_
          refine OX.tagc ?_
          rotate_left
        refine OX.gr rfl rfl (WantE.yes rfl rfl rfl (by first | rfl | assumption | exact decide_eq_true rfl)) (Gr.call (R := fun h2 v h' => ∃ A' c', v = .slice A' (hl q q.length).length c' ∧ Own h' h2.size 35 A' c' (hl q q.length)) rfl rfl (fun h2 hE => holes_any h2 _ b' A' c' q (hCm9.ext (((by first | exact hF.out.1 | exact hF.out.2.1 | exact hF.out.2.2.1 | exact hF.out.2.2.2.1 | exact hF.out.2.2.2.2.1 | exact hF.out.2.2.2.2.2.1 | exact hF.out.2.2.2.2.2.2.1 | exact hF.out.2.2.2.2.2.2.2.1 | exact hF.out.2.2.2.2.2.2.2.2.1 | assumption) : Ext h9 _).trans hE))) ?_)
        rintro h10 v h11 hE10 hE11 ⟨Ax, cx, rfl, hX11⟩
        replace hF := (hF.up (hE10.trans hE11)).rd hX11.rd
        focus
          refine OX.tagc ?_
          refine OX.p rfl rfl (WantE.yes rfl rfl rfl rfl) ?_
          refine OX.tagc ?_
          refine OX.q rfl (by first | exact WantE.none rfl | exact WantE.yes rfl rfl rfl (by first | assumption | rfl | exact decide_eq_true rfl)) (Qy.call rfl rfl (fun h1 hE => rsame_c h1 Ax Aw cx cw _ _ (Rd.ext (by first | exact hF.out.1 | exact hF.out.2.1 | exact hF.out.2.2.1 | exact hF.out.2.2.2.1 | exact hF.out.2.2.2.2.1 | exact hF.out.2.2.2.2.2.1 | exact hF.out.2.2.2.2.2.2.1 | exact hF.out.2.2.2.2.2.2.2.1 | exact hF.out.2.2.2.2.2.2.2.2.1 | assumption) hE) (Rd.ext (by first | exact hF.out.1 | exact hF.out.2.1 | exact hF.out.2.2.1 | exact hF.out.2.2.2.1 | exact hF.out.2.2.2.2.1 | exact hF.out.2.2.2.2.2.1 | exact hF.out.2.2.2.2.2.2.1 | exact hF.out.2.2.2.2.2.2.2.1 | exact hF.out.2.2.2.2.2.2.2.2.1 | assumption) hE) (by omega))) ?_
          refine OX.tagc ?_
          refine OX.p rfl rfl (WantE.yes rfl rfl rfl rfl) ?_
          refine OX.tagc ?_
          refine OX.q rfl (WantE.none rfl) (Qy.pick_fb rfl rfl rfl rfl) ?_
          refine OX.tagn ?_
          refine qT_n ?_
          refine EW.cond_f rfl (congrArg not (decide_eq_true rfl)) ?_
          refine EW.skip ?_
          refine qT_n ?_
          refine EW.seq ?_
          refine EW.seq ?_
          refine EW.sreg rfl ?_
          refine OX.tagc ?_
          refine OX.p rfl rfl (WantE.none rfl) ?_
          refine OX.tagc ?_
          refine OX.p rfl rfl (WantE.none rfl) ?_
          refine OX.tagn ?_
          refine qT_n ?_
          refine EW.cond_t rfl rfl ?_
          refine EW.seq ?_
          refine EW.sreg rfl ?_
          refine OX.tagc ?_
          refine OX.p rfl rfl (WantE.none rfl) ?_
          refine OX.tagc ?_
          rotate_left
        refine OX.gr rfl rfl (WantE.none rfl) (Gr.call (R := fun h2 v h' => ∃ A' c', v = .slice A' (hl q q.length).length c' ∧ Own h' h2.size 35 A' c' (hl q q.length)) rfl rfl (fun h2 hE => holes_any h2 _ b A9 c9 q (hM9.ext (((by first | exact hF.out.1 | exact hF.out.2.1 | exact hF.out.2.2.1 | exact hF.out.2.2.2.1 | exact hF.out.2.2.2.2.1 | exact hF.out.2.2.2.2.2.1 | exact hF.out.2.2.2.2.2.2.1 | exact hF.out.2.2.2.2.2.2.2.1 | exact hF.out.2.2.2.2.2.2.2.2.1 | assumption) : Ext h9 _).trans hE))) ?_)
        rintro h12 v h13 hE12 hE13 ⟨Ay, cy, rfl, hY⟩
        replace hF := (hF.up (hE12.trans hE13)).rd hY.rd
        focus
          refine OX.tagc ?_
          refine OX.p rfl rfl (WantE.none rfl) ?_
          refine OX.tagc ?_
          refine OX.q rfl (by first | exact WantE.none rfl | exact WantE.yes rfl rfl rfl (by first | assumption | rfl | exact decide_eq_true rfl)) (Qy.call rfl rfl (fun h1 hE => rsame_c h1 Ay Aw cy cw _ _ (Rd.ext (by first | exact hF.out.1 | exact hF.out.2.1 | exact hF.out.2.2.1 | exact hF.out.2.2.2.1 | exact hF.out.2.2.2.2.1 | exact hF.out.2.2.2.2.2.1 | exact hF.out.2.2.2.2.2.2.1 | exact hF.out.2.2.2.2.2.2.2.1 | exact hF.out.2.2.2.2.2.2.2.2.1 | assumption) hE) (Rd.ext (by first | exact hF.out.1 | exact hF.out.2.1 | exact hF.out.2.2.1 | exact hF.out.2.2.2.1 | exact hF.out.2.2.2.2.1 | exact hF.out.2.2.2.2.2.1 | exact hF.out.2.2.2.2.2.2.1 | exact hF.out.2.2.2.2.2.2.2.1 | exact hF.out.2.2.2.2.2.2.2.2.1 | assumption) hE) (by omega))) ?_
          refine OX.tagc ?_
          refine OX.p rfl rfl (WantE.none rfl) ?_
          refine OX.tagc ?_
          refine OX.q rfl (by first | exact WantE.none rfl | exact WantE.yes rfl rfl rfl (by first | assumption | rfl | exact decide_eq_true rfl)) (Qy.callG rfl rfl (fun h1 hE => awake_c _)) ?_
          refine OX.tagc ?_
          refine OX.q rfl (WantE.none rfl) (Qy.pick_tb rfl rfl rfl (decide_eq_true rfl)) ?_
          refine OX.tagc ?_
          refine OX.p rfl rfl (WantE.none rfl) ?_
          refine OX.tagn ?_
          refine qT_n ?_
          refine EW.ret ?_
          refine qT_ret ?_
          refine rQ_ret ?_
          refine Rets.one rfl ?_
          rotate_left
        exact ⟨Ext.chg (by first | exact hF.out.1 | exact hF.out.2.1 | exact hF.out.2.2.1 | exact hF.out.2.2.2.1 | exact hF.out.2.2.2.2.1 | exact hF.out.2.2.2.2.2.1 | exact hF.out.2.2.2.2.2.2.1 | exact hF.out.2.2.2.2.2.2.2.1 | exact hF.out.2.2.2.2.2.2.2.2.1 | assumption) _, rfl⟩
      · focus
          refine OX.tagc ?_
          refine OX.p rfl rfl (WantE.none rfl) ?_
          refine OX.tagn ?_
          refine qT_n ?_
          refine EW.seq ?_
          refine EW.sreg rfl ?_
          refine OX.tagc ?_
          refine OX.p rfl rfl (WantE.none rfl) ?_
          refine OX.tagc ?_
          refine OX.p rfl rfl (WantE.none rfl) ?_
          refine OX.tagc ?_
          refine OX.q rfl (WantE.none rfl) (Qy.andm 8 256 rfl rfl rfl rfl rfl rfl) ?_
          refine OX.tagc ?_
          refine OX.q rfl (WantE.none rfl) (Qy.remi rfl rfl rfl (by omega)) ?_
          refine OX.tagc ?_
          refine OX.q rfl (WantE.none rfl) (Qy.addi rfl rfl rfl (by omega)) ?_
          refine OX.tagc ?_
          rotate_left
        rw [← hcnt]
        refine OX.ac rfl rfl (WantE.none rfl) (Runs.mapOp (by first | exact hF.out.1 | exact hF.out.2.1 | exact hF.out.2.2.1 | exact hF.out.2.2.2.1 | exact hF.out.2.2.2.2.1 | exact hF.out.2.2.2.2.2.1 | exact hF.out.2.2.2.2.2.2.1 | exact hF.out.2.2.2.2.2.2.2.1 | exact hF.out.2.2.2.2.2.2.2.2.1 | assumption) hMx rfl rfl (fun h2 hE => by have := alloc_any h2 h1.size b A c q cnt (hMx.ext hE) (((hE4.trans hx8).trans hE).1); simp only [hal] at this; exact this) ?_)
        intro g9 A9 c9 h9 hG9 hC9 hE9 hM9 hV9
        have hs9 := hG9.1
        have ht9 := hC9.1
        have hoC9 := hoC.moved hV9 (fun x hx => by have := hC.lt x hx; omega)
        have hoW9 := hoW.moved hV9 (fun x hx => by have := hWx.blk_lt x hx; omega)
        have hCm9 := (hC.ext hG9).chg hC9 (hoC _ List.mem_cons_self) (fun x hx => hoC x (List.mem_cons_of_mem _ hx))
        have hW9 := (hWx.ext hG9).chg hC9 (fun x hx => hoW x hx)
        replace hF := ((hK.up hE9).since (Ext.refl h9)).rd hW9.rd
        focus
          refine OX.tagc ?_
          refine OX.p rfl rfl (WantE.none rfl) ?_
          refine OX.tagc ?_
          refine OX.p rfl rfl (WantE.none rfl) ?_
          refine OX.tagc ?_
          refine OX.p rfl rfl (WantE.none rfl) ?_
          refine OX.tagc ?_
          (refine OX.gr rfl rfl (WantE.none rfl) (Gr.allocF rfl rfl ?_); intro b_ h_ hb_ hE hB; have hz_ := hE.1; have hy_ := hb_; have hAlc := And.intro hb_ (And.intro hE hB); clear hE hB)
          refine OX.tagc ?_
          (refine OX.ac0 rfl rfl (WantE.none rfl) (Runs.storeF rfl rfl rfl rfl rfl hAlc.2.2 rfl rfl rfl ?_); intro h_ hC hB; replace hF := (hF.up (Chg.fresh hAlc.2.1 hC (by simpa using hAlc.1))).blk hB; clear hAlc hC hB)
          refine OX.tagc ?_
          refine OX.p rfl rfl (WantE.none rfl) ?_
          refine OX.tagn ?_
          refine qT_n ?_
          refine EW.seq ?_
          refine EW.seq ?_
          refine EW.sreg rfl ?_
          refine OX.tagc ?_
          refine OX.p rfl rfl (WantE.none rfl) ?_
          refine OX.tagc ?_
          refine OX.p rfl rfl (WantE.none rfl) ?_
          refine OX.tagc ?_
          refine OX.p rfl rfl (WantE.none rfl) ?_
          refine OX.tagc ?_
          refine OX.p rfl rfl (WantE.yes rfl rfl rfl rfl) ?_
          refine OX.tagc ?_
          rotate_left
        have hB10 := hF.out.1
        have hb10 := hb_
        refine OX.gr rfl rfl (WantE.yes rfl rfl rfl (by first | rfl | assumption | exact decide_eq_true rfl)) (Gr.call (R := fun h2 v h' => ∃ A' c', v = .slice A' (hl q q.length).length c' ∧ Own h' h2.size 35 A' c' (hl q q.length)) rfl rfl (fun h2 hE => holes_any h2 _ b' A' c' q (hCm9.ext (((by first | exact hF.out.1 | exact hF.out.2.1 | exact hF.out.2.2.1 | exact hF.out.2.2.2.1 | exact hF.out.2.2.2.2.1 | exact hF.out.2.2.2.2.2.1 | exact hF.out.2.2.2.2.2.2.1 | exact hF.out.2.2.2.2.2.2.2.1 | exact hF.out.2.2.2.2.2.2.2.2.1 | assumption) : Ext h9 _).trans hE))) ?_)
        rintro h10 v h11 hE10 hE11 ⟨Ax, cx, rfl, hX11⟩
        replace hF := (hF.up (hE10.trans hE11)).rd hX11.rd
        focus
          refine OX.tagc ?_
          refine OX.p rfl rfl (WantE.yes rfl rfl rfl rfl) ?_
          refine OX.tagc ?_
          refine OX.q rfl (by first | exact WantE.none rfl | exact WantE.yes rfl rfl rfl (by first | assumption | rfl | exact decide_eq_true rfl)) (Qy.call rfl rfl (fun h1 hE => rsame_c h1 Ax Aw cx cw _ _ (Rd.ext (by first | exact hF.out.1 | exact hF.out.2.1 | exact hF.out.2.2.1 | exact hF.out.2.2.2.1 | exact hF.out.2.2.2.2.1 | exact hF.out.2.2.2.2.2.1 | exact hF.out.2.2.2.2.2.2.1 | exact hF.out.2.2.2.2.2.2.2.1 | exact hF.out.2.2.2.2.2.2.2.2.1 | assumption) hE) (Rd.ext (by first | exact hF.out.1 | exact hF.out.2.1 | exact hF.out.2.2.1 | exact hF.out.2.2.2.1 | exact hF.out.2.2.2.2.1 | exact hF.out.2.2.2.2.2.1 | exact hF.out.2.2.2.2.2.2.1 | exact hF.out.2.2.2.2.2.2.2.1 | exact hF.out.2.2.2.2.2.2.2.2.1 | assumption) hE) (by omega))) ?_
          refine OX.tagc ?_
          refine OX.p rfl rfl (WantE.yes rfl rfl rfl rfl) ?_
          refine OX.tagc ?_
          refine OX.q rfl (WantE.none rfl) (Qy.pick_fb rfl rfl rfl rfl) ?_
          refine OX.tagn ?_
          refine qT_n ?_
          refine EW.cond_f rfl (congrArg not (decide_eq_true rfl)) ?_
          refine EW.skip ?_
          refine qT_n ?_
          refine EW.seq ?_
          refine EW.seq ?_
          refine EW.sreg rfl ?_
          refine OX.tagc ?_
          refine OX.p rfl rfl (WantE.none rfl) ?_
          refine OX.tagc ?_
          refine OX.p rfl rfl (WantE.none rfl) ?_
          refine OX.tagn ?_
          refine qT_n ?_
          refine EW.cond_f rfl rfl ?_
          refine EW.skip ?_
          refine qT_n ?_
          refine EW.seq ?_
          refine EW.sreg rfl ?_
          refine OX.tagc ?_
          refine OX.p rfl rfl (WantE.none rfl) ?_
          refine OX.tagc ?_
          refine OX.q rfl (WantE.none rfl) (Qy.loadk rfl rfl rfl rfl (Blk.at0 hF.out.2.1)) ?_
          refine OX.tagc ?_
          rotate_left
        have hsb : setQ (setR q (k : Int) cnt.toNat true) ⟨(k : Int), cnt⟩ false = (q, 0) := set_back hmay hall
        have hsn : setQ q ⟨(k : Int), cnt⟩ false = (q, 3) := set_no hmay hall
        have hsy : setQ q ⟨(k : Int), cnt⟩ true = (setR q (k : Int) cnt.toNat true, 0) := set_yes hmay hall
        have hx11 : Ext h9 h11 := (by first | exact hF.out.1 | exact hF.out.2.1 | exact hF.out.2.2.1 | exact hF.out.2.2.2.1 | exact hF.out.2.2.2.2.1 | exact hF.out.2.2.2.2.2.1 | exact hF.out.2.2.2.2.2.2.1 | exact hF.out.2.2.2.2.2.2.2.1 | exact hF.out.2.2.2.2.2.2.2.2.1 | assumption)
        refine OX.ac rfl rfl (WantE.none rfl) (Runs.mapOp (by first | exact hF.out.1 | exact hF.out.2.1 | exact hF.out.2.2.1 | exact hF.out.2.2.2.1 | exact hF.out.2.2.2.2.1 | exact hF.out.2.2.2.2.2.1 | exact hF.out.2.2.2.2.2.2.1 | exact hF.out.2.2.2.2.2.2.2.1 | exact hF.out.2.2.2.2.2.2.2.2.1 | assumption) (hM9.ext hx11) rfl rfl (fun h2 hE => by have := free_any h2 h1.size b A9 c9 _ ⟨(k : Int), cnt⟩ ((hM9.ext hx11).ext hE) (((hE9.trans hx11).trans hE).1); simp only [hsb] at this; exact this) ?_)
        intro g12 A12 c12 h12 hG12 hC12 hE12 hM12 hV12
        have hs12 := hG12.1
        have ht12 := hC12.1
        have hoC12 := hoC9.moved hV12 (fun x hx => by have := (hCm9.ext hx11).lt x hx; omega)
        have hoW12 := hoW9.moved hV12 (fun x hx => by have := (hW9.ext hx11).blk_lt x hx; omega)
        have hCm12 := ((hCm9.ext hx11).ext hG12).chg hC12 (hoC9 _ List.mem_cons_self) (fun x hx => hoC9 x (List.mem_cons_of_mem _ hx))
        have hW12 := ((hW9.ext hx11).ext hG12).chg hC12 (fun x hx => hoW9 x hx)
        have hB12 := (hB10.ext ((hE10.trans hE11).trans hG12)).chg hC12 (fun hm => by have := hM9.lt _ hm; omega)
        replace hF := (((hK.up hE12).since (Ext.refl h12)).rd hW12.rd).blk hB12
        focus
          refine OX.tagc ?_
          refine OX.p rfl rfl (WantE.none rfl) ?_
          refine OX.tagc ?_
          refine OX.p rfl rfl (WantE.none rfl) ?_
          refine OX.tagc ?_
          refine OX.p rfl rfl (WantE.yes rfl rfl rfl rfl) ?_
          refine OX.tagc ?_
          rotate_left
        refine OX.gr rfl rfl (WantE.yes rfl rfl rfl (by first | rfl | assumption | exact decide_eq_true rfl)) (Gr.call (R := fun h2 v h' => ∃ A' c', v = .slice A' (hl q q.length).length c' ∧ Own h' h2.size 35 A' c' (hl q q.length)) rfl rfl (fun h2 hE => holes_any h2 _ b A12 c12 q (hM12.ext (((by first | exact hF.out.1 | exact hF.out.2.1 | exact hF.out.2.2.1 | exact hF.out.2.2.2.1 | exact hF.out.2.2.2.2.1 | exact hF.out.2.2.2.2.2.1 | exact hF.out.2.2.2.2.2.2.1 | exact hF.out.2.2.2.2.2.2.2.1 | exact hF.out.2.2.2.2.2.2.2.2.1 | assumption) : Ext h12 _).trans hE))) ?_)
        rintro h14 v h15 hE14 hE15 ⟨Ay, cy, rfl, hY⟩
        replace hF := (hF.up (hE14.trans hE15)).rd hY.rd
        focus
          refine OX.tagc ?_
          refine OX.p rfl rfl (WantE.yes rfl rfl rfl rfl) ?_
          refine OX.tagc ?_
          refine OX.q rfl (by first | exact WantE.none rfl | exact WantE.yes rfl rfl rfl (by first | assumption | rfl | exact decide_eq_true rfl)) (Qy.call rfl rfl (fun h1 hE => rsame_c h1 Ay Aw cy cw _ _ (Rd.ext (by first | exact hF.out.1 | exact hF.out.2.1 | exact hF.out.2.2.1 | exact hF.out.2.2.2.1 | exact hF.out.2.2.2.2.1 | exact hF.out.2.2.2.2.2.1 | exact hF.out.2.2.2.2.2.2.1 | exact hF.out.2.2.2.2.2.2.2.1 | exact hF.out.2.2.2.2.2.2.2.2.1 | assumption) hE) (Rd.ext (by first | exact hF.out.1 | exact hF.out.2.1 | exact hF.out.2.2.1 | exact hF.out.2.2.2.1 | exact hF.out.2.2.2.2.1 | exact hF.out.2.2.2.2.2.1 | exact hF.out.2.2.2.2.2.2.1 | exact hF.out.2.2.2.2.2.2.2.1 | exact hF.out.2.2.2.2.2.2.2.2.1 | assumption) hE) (by omega))) ?_
          refine OX.tagc ?_
          refine OX.q rfl (WantE.none rfl) (Qy.pick_tb rfl rfl rfl rfl) ?_
          refine OX.tagc ?_
          refine OX.p rfl rfl (WantE.none rfl) ?_
          refine OX.tagc ?_
          refine OX.p rfl rfl (WantE.yes rfl rfl rfl (decide_eq_true rfl)) ?_
          refine OX.tagc ?_
          refine OX.q rfl (WantE.yes rfl rfl rfl (decide_eq_true rfl)) (Qy.loadk rfl rfl rfl rfl (Blk.at0 hF.out.2.1)) ?_
          refine OX.tagc ?_
          rotate_left
        have hx15 : Ext h12 h15 := (by first | exact hF.out.1 | exact hF.out.2.1 | exact hF.out.2.2.1 | exact hF.out.2.2.2.1 | exact hF.out.2.2.2.2.1 | exact hF.out.2.2.2.2.2.1 | exact hF.out.2.2.2.2.2.2.1 | exact hF.out.2.2.2.2.2.2.2.1 | exact hF.out.2.2.2.2.2.2.2.2.1 | assumption)
        refine OX.ac rfl rfl (WantE.yes rfl rfl rfl (by first | rfl | assumption | exact decide_eq_true rfl)) (Runs.mapOp (by first | exact hF.out.1 | exact hF.out.2.1 | exact hF.out.2.2.1 | exact hF.out.2.2.2.1 | exact hF.out.2.2.2.2.1 | exact hF.out.2.2.2.2.2.1 | exact hF.out.2.2.2.2.2.2.1 | exact hF.out.2.2.2.2.2.2.2.1 | exact hF.out.2.2.2.2.2.2.2.2.1 | assumption) (hM12.ext hx15) rfl rfl (fun h2 hE => by have := free_any h2 h1.size b A12 c12 _ ⟨(k : Int), cnt⟩ ((hM12.ext hx15).ext hE) (((hE12.trans hx15).trans hE).1); simp only [hsn] at this; exact this) ?_)
        intro g16 A16 c16 h16 hG16 hC16 hE16 hM16 hV16
        have hs16 := hG16.1
        have ht16 := hC16.1
        have hoC16 := hoC12.moved hV16 (fun x hx => by have := (hCm12.ext hx15).lt x hx; omega)
        have hoW16 := hoW12.moved hV16 (fun x hx => by have := (hW12.ext hx15).blk_lt x hx; omega)
        have hCm16 := ((hCm12.ext hx15).ext hG16).chg hC16 (hoC12 _ List.mem_cons_self) (fun x hx => hoC12 x (List.mem_cons_of_mem _ hx))
        have hW16 := ((hW12.ext hx15).ext hG16).chg hC16 (fun x hx => hoW12 x hx)
        have hB16 := ((hB12.ext hx15).ext hG16).chg hC16 (fun hm => by
          rcases List.mem_cons.1 hm with rfl | hm
          · have := hM9.lt _ List.mem_cons_self; omega
          · rcases hV12 with hV12 | hV12
            · rw [hV12] at hm; have := hM9.lt _ (List.mem_cons_of_mem _ hm); omega
            · have := hV12 _ hm; have := hB10.lt; have := hE10.1; have := hE11.1; have := hG12.1; omega)
        replace hF := ((hK.up hE16).since (Ext.refl h16)).blk hB16
        focus
          refine OX.tagc ?_
          refine OX.p rfl rfl (WantE.yes rfl rfl rfl (decide_eq_true rfl)) ?_
          refine OX.tagc ?_
          refine OX.q rfl (WantE.none rfl) (Qy.pick_tb rfl rfl rfl (decide_eq_true rfl)) ?_
          refine OX.tagc ?_
          refine OX.p rfl rfl (WantE.none rfl) ?_
          refine OX.tagc ?_
          refine OX.p rfl rfl (WantE.yes rfl rfl rfl rfl) ?_
          refine OX.tagc ?_
          refine OX.q rfl (WantE.yes rfl rfl rfl rfl) (Qy.loadk rfl rfl rfl rfl (Blk.at0 hF.out.1)) ?_
          refine OX.tagc ?_
          rotate_left
        have hCb : MapQ h16 h1.size b' A' c' q := hCm16.mono (by have := hE4.1; have := hE5.1; have := hE6.1; have := hE7.1; omega)
        refine OX.ac rfl rfl (WantE.yes rfl rfl rfl (by first | rfl | assumption | exact decide_eq_true rfl)) (Runs.mapOp (by first | exact hF.out.1 | exact hF.out.2.1 | exact hF.out.2.2.1 | exact hF.out.2.2.2.1 | exact hF.out.2.2.2.2.1 | exact hF.out.2.2.2.2.2.1 | exact hF.out.2.2.2.2.2.2.1 | exact hF.out.2.2.2.2.2.2.2.1 | exact hF.out.2.2.2.2.2.2.2.2.1 | assumption) hCb rfl rfl (fun h2 hE => by have := take_any h2 h1.size b' A' c' _ ⟨(k : Int), cnt⟩ (hCb.ext hE) ((hE16.trans hE).1); simp only [hsy] at this; exact this) ?_)
        intro g18 A18 c18 h18 hG18 hC18 hE18 hM18 hV18
        have hs18 := hG18.1
        have ht18 := hC18.1
        replace hF := hK.up hE18
        focus
          refine OX.tagc ?_
          refine OX.p rfl rfl (WantE.yes rfl rfl rfl rfl) ?_
          refine OX.tagc ?_
          refine OX.q rfl (WantE.none rfl) (Qy.pick_tb rfl rfl rfl rfl) ?_
          refine OX.tagc ?_
          refine OX.p rfl rfl (WantE.none rfl) ?_
          refine OX.tagc ?_
          refine OX.q rfl (by first | exact WantE.none rfl | exact WantE.yes rfl rfl rfl (by first | assumption | rfl | exact decide_eq_true rfl)) (Qy.callG rfl rfl (fun h1 hE => awake_c _)) ?_
          refine OX.tagc ?_
          refine OX.q rfl (WantE.none rfl) (Qy.pick_tb rfl rfl rfl rfl) ?_
          refine OX.tagc ?_
          refine OX.p rfl rfl (WantE.none rfl) ?_
          refine OX.tagn ?_
          refine qT_n ?_
          refine EW.ret ?_
          refine rQ_ret ?_
          refine Rets.one rfl ?_
          rotate_left
        exact ⟨Ext.chg (by first | exact hF.out.1 | exact hF.out.2.1 | exact hF.out.2.2.1 | exact hF.out.2.2.2.1 | exact hF.out.2.2.2.2.1 | exact hF.out.2.2.2.2.2.1 | exact hF.out.2.2.2.2.2.2.1 | exact hF.out.2.2.2.2.2.2.2.1 | exact hF.out.2.2.2.2.2.2.2.2.1 | assumption) _, rfl⟩
  · focus
      refine EW.seq ?_
      refine EW.seq ?_
      refine EW.sreg rfl ?_
      refine OX.tagc ?_
      refine OX.p rfl rfl (WantE.none rfl) ?_
      refine OX.tagc ?_
      refine OX.p rfl rfl (WantE.none rfl) ?_
      refine OX.tagc ?_
      refine OX.p rfl rfl (WantE.none rfl) ?_
      refine OX.tagc ?_
      refine OX.p rfl rfl (WantE.none rfl) ?_
      refine OX.tagc ?_
      refine OX.p rfl rfl (WantE.none rfl) ?_
      refine OX.tagc ?_
      refine OX.gsplit rfl rfl rfl ?_ ?_
      intro hb
      have hb' := of_decide_eq_true hb
      (exfalso; omega)
      intro hb
      have hb' := of_decide_eq_false hb
      refine OX.sk rfl (WantE.no rfl rfl rfl (by assumption)) ?_
      refine OX.tagc ?_
      refine OX.sk rfl (WantE.no rfl rfl rfl (by assumption)) ?_
      refine OX.tagc ?_
      refine OX.q rfl (WantE.none rfl) (Qy.pick_fb rfl rfl rfl (by assumption)) ?_
      refine OX.tagn ?_
      refine qT_n ?_
      refine EW.cond_f rfl rfl ?_
      refine EW.exit ?_
      refine qT_exit ?_
      refine qT_exit ?_
      refine qB_hit ?_
      refine qT_n ?_
      refine EW.seq ?_
      refine EW.sreg rfl ?_
      refine OX.tagc ?_
      refine OX.p rfl rfl (WantE.none rfl) ?_
      refine OX.tagc ?_
      rotate_left
    focus
      rotate_left
    refine OX.gr rfl rfl (WantE.none rfl) (Gr.call (R := fun h2 v h' => ∃ A' c', v = .slice A' (hl q q.length).length c' ∧ Own h' h2.size 35 A' c' (hl q q.length)) rfl rfl (fun h2 hE => holes_any h2 _ b A c q (hM.ext hE)) ?_)
    rintro h5 v h6 hE5 hE6 ⟨Aw, cw, rfl, hW⟩
    replace hF := hF.up (hE5.trans hE6)
    focus
      refine OX.tagc ?_
      refine OX.p rfl rfl (WantE.none rfl) ?_
      refine OX.tagn ?_
      refine qT_n ?_
      refine EW.seq ?_
      refine EW.sreg rfl ?_
      refine OX.tagc ?_
      refine OX.p rfl rfl (WantE.none rfl) ?_
      refine OX.tagc ?_
      rotate_left
    refine OX.gr rfl rfl (WantE.none rfl) (Gr.call (R := fun h2 v h' => ∃ b' A' c', v = .pointer (some ⟨b', 0, none⟩) ∧ MapQ h' h2.size b' A' c' q) rfl rfl (fun h2 hE => copy_any h2 _ b A c q (hM.ext (hE5.trans (hE6.trans hE)))) ?_)
    rintro h7 v h8 hE7 hE8 ⟨b', A', c', rfl, hC⟩
    have hx8 : Ext h4 h8 := (hE5.trans hE6).trans (hE7.trans hE8)
    have hMx := hM.ext hx8
    have hoC : Off (b' :: blk A') b A := hM.off hC (by have := hE5.1; have := hE6.1; have := hE7.1; omega)
    have hoW : Off (blk Aw) b A := fun x hx hm => by have := hW.blk_ge x hx; have := hM.lt x hm; have := hE5.1; omega
    have hWx := hW.ext (hE7.trans hE8)
    replace hF := (hF.up (hE7.trans hE8)).since (Ext.refl h8)
    have hll := hl_len q q.length
    have hl4 : q.length ≤ 4096 := by obtain ⟨_, _, _, _, h4⟩ := hM; exact h4
    obtain ⟨cnt, hcnt⟩ : ∃ cnt, cnt = 1 + n % 256 % 30 := ⟨_, rfl⟩
    have hc1 : 1 ≤ cnt := by omega
    rcases allocQ_or q cnt hc1 with hal | ⟨k, hal, hmay, hall⟩
    · focus
        refine OX.tagc ?_
        refine OX.p rfl rfl (WantE.none rfl) ?_
        refine OX.tagn ?_
        refine qT_n ?_
        refine EW.seq ?_
        refine EW.sreg rfl ?_
        refine OX.tagc ?_
        refine OX.p rfl rfl (WantE.none rfl) ?_
        refine OX.tagc ?_
        refine OX.p rfl rfl (WantE.none rfl) ?_
        refine OX.tagc ?_
        refine OX.q rfl (WantE.none rfl) (Qy.andm 8 256 rfl rfl rfl rfl rfl rfl) ?_
        refine OX.tagc ?_
        refine OX.q rfl (WantE.none rfl) (Qy.remi rfl rfl rfl (by omega)) ?_
        refine OX.tagc ?_
        refine OX.q rfl (WantE.none rfl) (Qy.addi rfl rfl rfl (by omega)) ?_
        refine OX.tagc ?_
        rotate_left
      rw [← hcnt]
      refine OX.ac rfl rfl (WantE.none rfl) (Runs.mapOp (by first | exact hF.out.1 | exact hF.out.2.1 | exact hF.out.2.2.1 | exact hF.out.2.2.2.1 | exact hF.out.2.2.2.2.1 | exact hF.out.2.2.2.2.2.1 | exact hF.out.2.2.2.2.2.2.1 | exact hF.out.2.2.2.2.2.2.2.1 | exact hF.out.2.2.2.2.2.2.2.2.1 | assumption) hMx rfl rfl (fun h2 hE => by have := alloc_any h2 h1.size b A c q cnt (hMx.ext hE) (((hE4.trans hx8).trans hE).1); simp only [hal] at this; exact this) ?_)
      intro g9 A9 c9 h9 hG9 hC9 hE9 hM9 hV9
      have hs9 := hG9.1
      have ht9 := hC9.1
      have hoC9 := hoC.moved hV9 (fun x hx => by have := hC.lt x hx; omega)
      have hoW9 := hoW.moved hV9 (fun x hx => by have := hWx.blk_lt x hx; omega)
      have hCm9 := (hC.ext hG9).chg hC9 (hoC _ List.mem_cons_self) (fun x hx => hoC x (List.mem_cons_of_mem _ hx))
      have hW9 := (hWx.ext hG9).chg hC9 (fun x hx => hoW x hx)
      replace hF := ((hK.up hE9).since (Ext.refl h9)).rd hW9.rd
      focus
        refine OX.tagc ?_
        refine OX.p rfl rfl (WantE.none rfl) ?_
        refine OX.tagc ?_
        refine OX.p rfl rfl (WantE.none rfl) ?_
        refine OX.tagc ?_
        refine OX.p rfl rfl (WantE.none rfl) ?_
        refine OX.tagc ?_
        (refine OX.gr rfl rfl (WantE.none rfl) (Gr.allocF rfl rfl ?_); intro b_ h_ hb_ hE hB; have hz_ := hE.1; have hy_ := hb_; have hAlc := And.intro hb_ (And.intro hE hB); clear hE hB)
        refine OX.tagc ?_
        (refine OX.ac0 rfl rfl (WantE.none rfl) (Runs.storeF rfl rfl rfl rfl rfl hAlc.2.2 rfl rfl rfl ?_); intro h_ hC hB; replace hF := (hF.up (Chg.fresh hAlc.2.1 hC (by simpa using hAlc.1))).blk hB; clear hAlc hC hB)
        refine OX.tagc ?_
        refine OX.p rfl rfl (WantE.none rfl) ?_
        refine OX.tagn ?_
        refine qT_n ?_
        refine EW.seq ?_
        refine EW.seq ?_
        refine EW.sreg rfl ?_
        refine OX.tagc ?_
        refine OX.p rfl rfl (WantE.none rfl) ?_
        refine OX.tagc ?_
        refine OX.p rfl rfl (WantE.none rfl) ?_
        refine OX.tagc ?_
        refine OX.p rfl rfl (WantE.none rfl) ?_
        refine OX.tagc ?_
        refine OX.p rfl rfl (WantE.yes rfl rfl rfl rfl) ?_
        refine OX.tagc ?_
        rotate_left
      refine OX.gr rfl rfl (WantE.yes rfl rfl rfl (by first | rfl | assumption | exact decide_eq_true rfl)) (Gr.call (R := fun h2 v h' => ∃ A' c', v = .slice A' (hl q q.length).length c' ∧ Own h' h2.size 35 A' c' (hl q q.length)) rfl rfl (fun h2 hE => holes_any h2 _ b' A' c' q (hCm9.ext (((by first | exact hF.out.1 | exact hF.out.2.1 | exact hF.out.2.2.1 | exact hF.out.2.2.2.1 | exact hF.out.2.2.2.2.1 | exact hF.out.2.2.2.2.2.1 | exact hF.out.2.2.2.2.2.2.1 | exact hF.out.2.2.2.2.2.2.2.1 | exact hF.out.2.2.2.2.2.2.2.2.1 | assumption) : Ext h9 _).trans hE))) ?_)
      rintro h10 v h11 hE10 hE11 ⟨Ax, cx, rfl, hX11⟩
      replace hF := (hF.up (hE10.trans hE11)).rd hX11.rd
      focus
        refine OX.tagc ?_
        refine OX.p rfl rfl (WantE.yes rfl rfl rfl rfl) ?_
        refine OX.tagc ?_
        refine OX.q rfl (by first | exact WantE.none rfl | exact WantE.yes rfl rfl rfl (by first | assumption | rfl | exact decide_eq_true rfl)) (Qy.call rfl rfl (fun h1 hE => rsame_c h1 Ax Aw cx cw _ _ (Rd.ext (by first | exact hF.out.1 | exact hF.out.2.1 | exact hF.out.2.2.1 | exact hF.out.2.2.2.1 | exact hF.out.2.2.2.2.1 | exact hF.out.2.2.2.2.2.1 | exact hF.out.2.2.2.2.2.2.1 | exact hF.out.2.2.2.2.2.2.2.1 | exact hF.out.2.2.2.2.2.2.2.2.1 | assumption) hE) (Rd.ext (by first | exact hF.out.1 | exact hF.out.2.1 | exact hF.out.2.2.1 | exact hF.out.2.2.2.1 | exact hF.out.2.2.2.2.1 | exact hF.out.2.2.2.2.2.1 | exact hF.out.2.2.2.2.2.2.1 | exact hF.out.2.2.2.2.2.2.2.1 | exact hF.out.2.2.2.2.2.2.2.2.1 | assumption) hE) (by omega))) ?_
        refine OX.tagc ?_
        refine OX.p rfl rfl (WantE.yes rfl rfl rfl rfl) ?_
        refine OX.tagc ?_
        refine OX.q rfl (WantE.none rfl) (Qy.pick_fb rfl rfl rfl rfl) ?_
        refine OX.tagn ?_
        refine qT_n ?_
        refine EW.cond_f rfl (congrArg not (decide_eq_true rfl)) ?_
        refine EW.skip ?_
        refine qT_n ?_
        refine EW.seq ?_
        refine EW.seq ?_
        refine EW.sreg rfl ?_
        refine OX.tagc ?_
        refine OX.p rfl rfl (WantE.none rfl) ?_
        refine OX.tagc ?_
        refine OX.p rfl rfl (WantE.none rfl) ?_
        refine OX.tagn ?_
        refine qT_n ?_
        refine EW.cond_t rfl rfl ?_
        refine EW.seq ?_
        refine EW.sreg rfl ?_
        refine OX.tagc ?_
        refine OX.p rfl rfl (WantE.none rfl) ?_
        refine OX.tagc ?_
        rotate_left
      refine OX.gr rfl rfl (WantE.none rfl) (Gr.call (R := fun h2 v h' => ∃ A' c', v = .slice A' (hl q q.length).length c' ∧ Own h' h2.size 35 A' c' (hl q q.length)) rfl rfl (fun h2 hE => holes_any h2 _ b A9 c9 q (hM9.ext (((by first | exact hF.out.1 | exact hF.out.2.1 | exact hF.out.2.2.1 | exact hF.out.2.2.2.1 | exact hF.out.2.2.2.2.1 | exact hF.out.2.2.2.2.2.1 | exact hF.out.2.2.2.2.2.2.1 | exact hF.out.2.2.2.2.2.2.2.1 | exact hF.out.2.2.2.2.2.2.2.2.1 | assumption) : Ext h9 _).trans hE))) ?_)
      rintro h12 v h13 hE12 hE13 ⟨Ay, cy, rfl, hY⟩
      replace hF := (hF.up (hE12.trans hE13)).rd hY.rd
      focus
        refine OX.tagc ?_
        refine OX.p rfl rfl (WantE.none rfl) ?_
        refine OX.tagc ?_
        refine OX.q rfl (by first | exact WantE.none rfl | exact WantE.yes rfl rfl rfl (by first | assumption | rfl | exact decide_eq_true rfl)) (Qy.call rfl rfl (fun h1 hE => rsame_c h1 Ay Aw cy cw _ _ (Rd.ext (by first | exact hF.out.1 | exact hF.out.2.1 | exact hF.out.2.2.1 | exact hF.out.2.2.2.1 | exact hF.out.2.2.2.2.1 | exact hF.out.2.2.2.2.2.1 | exact hF.out.2.2.2.2.2.2.1 | exact hF.out.2.2.2.2.2.2.2.1 | exact hF.out.2.2.2.2.2.2.2.2.1 | assumption) hE) (Rd.ext (by first | exact hF.out.1 | exact hF.out.2.1 | exact hF.out.2.2.1 | exact hF.out.2.2.2.1 | exact hF.out.2.2.2.2.1 | exact hF.out.2.2.2.2.2.1 | exact hF.out.2.2.2.2.2.2.1 | exact hF.out.2.2.2.2.2.2.2.1 | exact hF.out.2.2.2.2.2.2.2.2.1 | assumption) hE) (by omega))) ?_
        refine OX.tagc ?_
        refine OX.p rfl rfl (WantE.none rfl) ?_
        refine OX.tagc ?_
        refine OX.q rfl (by first | exact WantE.none rfl | exact WantE.yes rfl rfl rfl (by first | assumption | rfl | exact decide_eq_true rfl)) (Qy.callG rfl rfl (fun h1 hE => awake_c _)) ?_
        refine OX.tagc ?_
        refine OX.q rfl (WantE.none rfl) (Qy.pick_tb rfl rfl rfl (decide_eq_true rfl)) ?_
        refine OX.tagc ?_
        refine OX.p rfl rfl (WantE.none rfl) ?_
        refine OX.tagn ?_
        refine qT_n ?_
        refine EW.ret ?_
        refine qT_ret ?_
        refine rQ_ret ?_
        refine Rets.one rfl ?_
        rotate_left
      exact ⟨Ext.chg (by first | exact hF.out.1 | exact hF.out.2.1 | exact hF.out.2.2.1 | exact hF.out.2.2.2.1 | exact hF.out.2.2.2.2.1 | exact hF.out.2.2.2.2.2.1 | exact hF.out.2.2.2.2.2.2.1 | exact hF.out.2.2.2.2.2.2.2.1 | exact hF.out.2.2.2.2.2.2.2.2.1 | assumption) _, rfl⟩
    · focus
        refine OX.tagc ?_
        refine OX.p rfl rfl (WantE.none rfl) ?_
        refine OX.tagn ?_
        refine qT_n ?_
        refine EW.seq ?_
        refine EW.sreg rfl ?_
        refine OX.tagc ?_
        refine OX.p rfl rfl (WantE.none rfl) ?_
        refine OX.tagc ?_
        refine OX.p rfl rfl (WantE.none rfl) ?_
        refine OX.tagc ?_
        refine OX.q rfl (WantE.none rfl) (Qy.andm 8 256 rfl rfl rfl rfl rfl rfl) ?_
        refine OX.tagc ?_
        refine OX.q rfl (WantE.none rfl) (Qy.remi rfl rfl rfl (by omega)) ?_
        refine OX.tagc ?_
        refine OX.q rfl (WantE.none rfl) (Qy.addi rfl rfl rfl (by omega)) ?_
        refine OX.tagc ?_
        rotate_left
      rw [← hcnt]
      refine OX.ac rfl rfl (WantE.none rfl) (Runs.mapOp (by first | exact hF.out.1 | exact hF.out.2.1 | exact hF.out.2.2.1 | exact hF.out.2.2.2.1 | exact hF.out.2.2.2.2.1 | exact hF.out.2.2.2.2.2.1 | exact hF.out.2.2.2.2.2.2.1 | exact hF.out.2.2.2.2.2.2.2.1 | exact hF.out.2.2.2.2.2.2.2.2.1 | assumption) hMx rfl rfl (fun h2 hE => by have := alloc_any h2 h1.size b A c q cnt (hMx.ext hE) (((hE4.trans hx8).trans hE).1); simp only [hal] at this; exact this) ?_)
      intro g9 A9 c9 h9 hG9 hC9 hE9 hM9 hV9
      have hs9 := hG9.1
      have ht9 := hC9.1
      have hoC9 := hoC.moved hV9 (fun x hx => by have := hC.lt x hx; omega)
      have hoW9 := hoW.moved hV9 (fun x hx => by have := hWx.blk_lt x hx; omega)
      have hCm9 := (hC.ext hG9).chg hC9 (hoC _ List.mem_cons_self) (fun x hx => hoC x (List.mem_cons_of_mem _ hx))
      have hW9 := (hWx.ext hG9).chg hC9 (fun x hx => hoW x hx)
      replace hF := ((hK.up hE9).since (Ext.refl h9)).rd hW9.rd
      focus
        refine OX.tagc ?_
        refine OX.p rfl rfl (WantE.none rfl) ?_
        refine OX.tagc ?_
        refine OX.p rfl rfl (WantE.none rfl) ?_
        refine OX.tagc ?_
        refine OX.p rfl rfl (WantE.none rfl) ?_
        refine OX.tagc ?_
        (refine OX.gr rfl rfl (WantE.none rfl) (Gr.allocF rfl rfl ?_); intro b_ h_ hb_ hE hB; have hz_ := hE.1; have hy_ := hb_; have hAlc := And.intro hb_ (And.intro hE hB); clear hE hB)
        refine OX.tagc ?_
        (refine OX.ac0 rfl rfl (WantE.none rfl) (Runs.storeF rfl rfl rfl rfl rfl hAlc.2.2 rfl rfl rfl ?_); intro h_ hC hB; replace hF := (hF.up (Chg.fresh hAlc.2.1 hC (by simpa using hAlc.1))).blk hB; clear hAlc hC hB)
        refine OX.tagc ?_
        refine OX.p rfl rfl (WantE.none rfl) ?_
        refine OX.tagn ?_
        refine qT_n ?_
        refine EW.seq ?_
        refine EW.seq ?_
        refine EW.sreg rfl ?_
        refine OX.tagc ?_
        refine OX.p rfl rfl (WantE.none rfl) ?_
        refine OX.tagc ?_
        refine OX.p rfl rfl (WantE.none rfl) ?_
        refine OX.tagc ?_
        refine OX.p rfl rfl (WantE.none rfl) ?_
        refine OX.tagc ?_
        refine OX.p rfl rfl (WantE.yes rfl rfl rfl rfl) ?_
        refine OX.tagc ?_
        rotate_left
      have hB10 := hF.out.1
      have hb10 := hb_
      refine OX.gr rfl rfl (WantE.yes rfl rfl rfl (by first | rfl | assumption | exact decide_eq_true rfl)) (Gr.call (R := fun h2 v h' => ∃ A' c', v = .slice A' (hl q q.length).length c' ∧ Own h' h2.size 35 A' c' (hl q q.length)) rfl rfl (fun h2 hE => holes_any h2 _ b' A' c' q (hCm9.ext (((by first | exact hF.out.1 | exact hF.out.2.1 | exact hF.out.2.2.1 | exact hF.out.2.2.2.1 | exact hF.out.2.2.2.2.1 | exact hF.out.2.2.2.2.2.1 | exact hF.out.2.2.2.2.2.2.1 | exact hF.out.2.2.2.2.2.2.2.1 | exact hF.out.2.2.2.2.2.2.2.2.1 | assumption) : Ext h9 _).trans hE))) ?_)
      rintro h10 v h11 hE10 hE11 ⟨Ax, cx, rfl, hX11⟩
      replace hF := (hF.up (hE10.trans hE11)).rd hX11.rd
      focus
        refine OX.tagc ?_
        refine OX.p rfl rfl (WantE.yes rfl rfl rfl rfl) ?_
        refine OX.tagc ?_
        refine OX.q rfl (by first | exact WantE.none rfl | exact WantE.yes rfl rfl rfl (by first | assumption | rfl | exact decide_eq_true rfl)) (Qy.call rfl rfl (fun h1 hE => rsame_c h1 Ax Aw cx cw _ _ (Rd.ext (by first | exact hF.out.1 | exact hF.out.2.1 | exact hF.out.2.2.1 | exact hF.out.2.2.2.1 | exact hF.out.2.2.2.2.1 | exact hF.out.2.2.2.2.2.1 | exact hF.out.2.2.2.2.2.2.1 | exact hF.out.2.2.2.2.2.2.2.1 | exact hF.out.2.2.2.2.2.2.2.2.1 | assumption) hE) (Rd.ext (by first | exact hF.out.1 | exact hF.out.2.1 | exact hF.out.2.2.1 | exact hF.out.2.2.2.1 | exact hF.out.2.2.2.2.1 | exact hF.out.2.2.2.2.2.1 | exact hF.out.2.2.2.2.2.2.1 | exact hF.out.2.2.2.2.2.2.2.1 | exact hF.out.2.2.2.2.2.2.2.2.1 | assumption) hE) (by omega))) ?_
        refine OX.tagc ?_
        refine OX.p rfl rfl (WantE.yes rfl rfl rfl rfl) ?_
        refine OX.tagc ?_
        refine OX.q rfl (WantE.none rfl) (Qy.pick_fb rfl rfl rfl rfl) ?_
        refine OX.tagn ?_
        refine qT_n ?_
        refine EW.cond_f rfl (congrArg not (decide_eq_true rfl)) ?_
        refine EW.skip ?_
        refine qT_n ?_
        refine EW.seq ?_
        refine EW.seq ?_
        refine EW.sreg rfl ?_
        refine OX.tagc ?_
        refine OX.p rfl rfl (WantE.none rfl) ?_
        refine OX.tagc ?_
        refine OX.p rfl rfl (WantE.none rfl) ?_
        refine OX.tagn ?_
        refine qT_n ?_
        refine EW.cond_f rfl rfl ?_
        refine EW.skip ?_
        refine qT_n ?_
        refine EW.seq ?_
        refine EW.sreg rfl ?_
        refine OX.tagc ?_
        refine OX.p rfl rfl (WantE.none rfl) ?_
        refine OX.tagc ?_
        refine OX.q rfl (WantE.none rfl) (Qy.loadk rfl rfl rfl rfl (Blk.at0 hF.out.2.1)) ?_
        refine OX.tagc ?_
        rotate_left
      have hsb : setQ (setR q (k : Int) cnt.toNat true) ⟨(k : Int), cnt⟩ false = (q, 0) := set_back hmay hall
      have hsn : setQ q ⟨(k : Int), cnt⟩ false = (q, 3) := set_no hmay hall
      have hsy : setQ q ⟨(k : Int), cnt⟩ true = (setR q (k : Int) cnt.toNat true, 0) := set_yes hmay hall
      have hx11 : Ext h9 h11 := (by first | exact hF.out.1 | exact hF.out.2.1 | exact hF.out.2.2.1 | exact hF.out.2.2.2.1 | exact hF.out.2.2.2.2.1 | exact hF.out.2.2.2.2.2.1 | exact hF.out.2.2.2.2.2.2.1 | exact hF.out.2.2.2.2.2.2.2.1 | exact hF.out.2.2.2.2.2.2.2.2.1 | assumption)
      refine OX.ac rfl rfl (WantE.none rfl) (Runs.mapOp (by first | exact hF.out.1 | exact hF.out.2.1 | exact hF.out.2.2.1 | exact hF.out.2.2.2.1 | exact hF.out.2.2.2.2.1 | exact hF.out.2.2.2.2.2.1 | exact hF.out.2.2.2.2.2.2.1 | exact hF.out.2.2.2.2.2.2.2.1 | exact hF.out.2.2.2.2.2.2.2.2.1 | assumption) (hM9.ext hx11) rfl rfl (fun h2 hE => by have := free_any h2 h1.size b A9 c9 _ ⟨(k : Int), cnt⟩ ((hM9.ext hx11).ext hE) (((hE9.trans hx11).trans hE).1); simp only [hsb] at this; exact this) ?_)
      intro g12 A12 c12 h12 hG12 hC12 hE12 hM12 hV12
      have hs12 := hG12.1
      have ht12 := hC12.1
      have hoC12 := hoC9.moved hV12 (fun x hx => by have := (hCm9.ext hx11).lt x hx; omega)
      have hoW12 := hoW9.moved hV12 (fun x hx => by have := (hW9.ext hx11).blk_lt x hx; omega)
      have hCm12 := ((hCm9.ext hx11).ext hG12).chg hC12 (hoC9 _ List.mem_cons_self) (fun x hx => hoC9 x (List.mem_cons_of_mem _ hx))
      have hW12 := ((hW9.ext hx11).ext hG12).chg hC12 (fun x hx => hoW9 x hx)
      have hB12 := (hB10.ext ((hE10.trans hE11).trans hG12)).chg hC12 (fun hm => by have := hM9.lt _ hm; omega)
      replace hF := (((hK.up hE12).since (Ext.refl h12)).rd hW12.rd).blk hB12
      focus
        refine OX.tagc ?_
        refine OX.p rfl rfl (WantE.none rfl) ?_
        refine OX.tagc ?_
        refine OX.p rfl rfl (WantE.none rfl) ?_
        refine OX.tagc ?_
        refine OX.p rfl rfl (WantE.yes rfl rfl rfl rfl) ?_
        refine OX.tagc ?_
        rotate_left
      refine OX.gr rfl rfl (WantE.yes rfl rfl rfl (by first | rfl | assumption | exact decide_eq_true rfl)) (Gr.call (R := fun h2 v h' => ∃ A' c', v = .slice A' (hl q q.length).length c' ∧ Own h' h2.size 35 A' c' (hl q q.length)) rfl rfl (fun h2 hE => holes_any h2 _ b A12 c12 q (hM12.ext (((by first | exact hF.out.1 | exact hF.out.2.1 | exact hF.out.2.2.1 | exact hF.out.2.2.2.1 | exact hF.out.2.2.2.2.1 | exact hF.out.2.2.2.2.2.1 | exact hF.out.2.2.2.2.2.2.1 | exact hF.out.2.2.2.2.2.2.2.1 | exact hF.out.2.2.2.2.2.2.2.2.1 | assumption) : Ext h12 _).trans hE))) ?_)
      rintro h14 v h15 hE14 hE15 ⟨Ay, cy, rfl, hY⟩
      replace hF := (hF.up (hE14.trans hE15)).rd hY.rd
      focus
        refine OX.tagc ?_
        refine OX.p rfl rfl (WantE.yes rfl rfl rfl rfl) ?_
        refine OX.tagc ?_
        refine OX.q rfl (by first | exact WantE.none rfl | exact WantE.yes rfl rfl rfl (by first | assumption | rfl | exact decide_eq_true rfl)) (Qy.call rfl rfl (fun h1 hE => rsame_c h1 Ay Aw cy cw _ _ (Rd.ext (by first | exact hF.out.1 | exact hF.out.2.1 | exact hF.out.2.2.1 | exact hF.out.2.2.2.1 | exact hF.out.2.2.2.2.1 | exact hF.out.2.2.2.2.2.1 | exact hF.out.2.2.2.2.2.2.1 | exact hF.out.2.2.2.2.2.2.2.1 | exact hF.out.2.2.2.2.2.2.2.2.1 | assumption) hE) (Rd.ext (by first | exact hF.out.1 | exact hF.out.2.1 | exact hF.out.2.2.1 | exact hF.out.2.2.2.1 | exact hF.out.2.2.2.2.1 | exact hF.out.2.2.2.2.2.1 | exact hF.out.2.2.2.2.2.2.1 | exact hF.out.2.2.2.2.2.2.2.1 | exact hF.out.2.2.2.2.2.2.2.2.1 | assumption) hE) (by omega))) ?_
        refine OX.tagc ?_
        refine OX.q rfl (WantE.none rfl) (Qy.pick_tb rfl rfl rfl rfl) ?_
        refine OX.tagc ?_
        refine OX.p rfl rfl (WantE.none rfl) ?_
        refine OX.tagc ?_
        refine OX.p rfl rfl (WantE.yes rfl rfl rfl (decide_eq_true rfl)) ?_
        refine OX.tagc ?_
        refine OX.q rfl (WantE.yes rfl rfl rfl (decide_eq_true rfl)) (Qy.loadk rfl rfl rfl rfl (Blk.at0 hF.out.2.1)) ?_
        refine OX.tagc ?_
        rotate_left
      have hx15 : Ext h12 h15 := (by first | exact hF.out.1 | exact hF.out.2.1 | exact hF.out.2.2.1 | exact hF.out.2.2.2.1 | exact hF.out.2.2.2.2.1 | exact hF.out.2.2.2.2.2.1 | exact hF.out.2.2.2.2.2.2.1 | exact hF.out.2.2.2.2.2.2.2.1 | exact hF.out.2.2.2.2.2.2.2.2.1 | assumption)
      refine OX.ac rfl rfl (WantE.yes rfl rfl rfl (by first | rfl | assumption | exact decide_eq_true rfl)) (Runs.mapOp (by first | exact hF.out.1 | exact hF.out.2.1 | exact hF.out.2.2.1 | exact hF.out.2.2.2.1 | exact hF.out.2.2.2.2.1 | exact hF.out.2.2.2.2.2.1 | exact hF.out.2.2.2.2.2.2.1 | exact hF.out.2.2.2.2.2.2.2.1 | exact hF.out.2.2.2.2.2.2.2.2.1 | assumption) (hM12.ext hx15) rfl rfl (fun h2 hE => by have := free_any h2 h1.size b A12 c12 _ ⟨(k : Int), cnt⟩ ((hM12.ext hx15).ext hE) (((hE12.trans hx15).trans hE).1); simp only [hsn] at this; exact this) ?_)
      intro g16 A16 c16 h16 hG16 hC16 hE16 hM16 hV16
      have hs16 := hG16.1
      have ht16 := hC16.1
      have hoC16 := hoC12.moved hV16 (fun x hx => by have := (hCm12.ext hx15).lt x hx; omega)
      have hoW16 := hoW12.moved hV16 (fun x hx => by have := (hW12.ext hx15).blk_lt x hx; omega)
      have hCm16 := ((hCm12.ext hx15).ext hG16).chg hC16 (hoC12 _ List.mem_cons_self) (fun x hx => hoC12 x (List.mem_cons_of_mem _ hx))
      have hW16 := ((hW12.ext hx15).ext hG16).chg hC16 (fun x hx => hoW12 x hx)
      have hB16 := ((hB12.ext hx15).ext hG16).chg hC16 (fun hm => by
        rcases List.mem_cons.1 hm with rfl | hm
        · have := hM9.lt _ List.mem_cons_self; omega
        · rcases hV12 with hV12 | hV12
          · rw [hV12] at hm; have := hM9.lt _ (List.mem_cons_of_mem _ hm); omega
          · have := hV12 _ hm; have := hB10.lt; have := hE10.1; have := hE11.1; have := hG12.1; omega)
      replace hF := ((hK.up hE16).since (Ext.refl h16)).blk hB16
      focus
        refine OX.tagc ?_
        refine OX.p rfl rfl (WantE.yes rfl rfl rfl (decide_eq_true rfl)) ?_
        refine OX.tagc ?_
        refine OX.q rfl (WantE.none rfl) (Qy.pick_tb rfl rfl rfl (decide_eq_true rfl)) ?_
        refine OX.tagc ?_
        refine OX.p rfl rfl (WantE.none rfl) ?_
        refine OX.tagc ?_
        refine OX.p rfl rfl (WantE.yes rfl rfl rfl rfl) ?_
        refine OX.tagc ?_
        refine OX.q rfl (WantE.yes rfl rfl rfl rfl) (Qy.loadk rfl rfl rfl rfl (Blk.at0 hF.out.1)) ?_
        refine OX.tagc ?_
        rotate_left
      have hCb : MapQ h16 h1.size b' A' c' q := hCm16.mono (by have := hE4.1; have := hE5.1; have := hE6.1; have := hE7.1; omega)
      refine OX.ac rfl rfl (WantE.yes rfl rfl rfl (by first | rfl | assumption | exact decide_eq_true rfl)) (Runs.mapOp (by first | exact hF.out.1 | exact hF.out.2.1 | exact hF.out.2.2.1 | exact hF.out.2.2.2.1 | exact hF.out.2.2.2.2.1 | exact hF.out.2.2.2.2.2.1 | exact hF.out.2.2.2.2.2.2.1 | exact hF.out.2.2.2.2.2.2.2.1 | exact hF.out.2.2.2.2.2.2.2.2.1 | assumption) hCb rfl rfl (fun h2 hE => by have := take_any h2 h1.size b' A' c' _ ⟨(k : Int), cnt⟩ (hCb.ext hE) ((hE16.trans hE).1); simp only [hsy] at this; exact this) ?_)
      intro g18 A18 c18 h18 hG18 hC18 hE18 hM18 hV18
      have hs18 := hG18.1
      have ht18 := hC18.1
      replace hF := hK.up hE18
      focus
        refine OX.tagc ?_
        refine OX.p rfl rfl (WantE.yes rfl rfl rfl rfl) ?_
        refine OX.tagc ?_
        refine OX.q rfl (WantE.none rfl) (Qy.pick_tb rfl rfl rfl rfl) ?_
        refine OX.tagc ?_
        refine OX.p rfl rfl (WantE.none rfl) ?_
        refine OX.tagc ?_
        refine OX.q rfl (by first | exact WantE.none rfl | exact WantE.yes rfl rfl rfl (by first | assumption | rfl | exact decide_eq_true rfl)) (Qy.callG rfl rfl (fun h1 hE => awake_c _)) ?_
        refine OX.tagc ?_
        refine OX.q rfl (WantE.none rfl) (Qy.pick_tb rfl rfl rfl rfl) ?_
        refine OX.tagc ?_
        refine OX.p rfl rfl (WantE.none rfl) ?_
        refine OX.tagn ?_
        refine qT_n ?_
        refine EW.ret ?_
        refine rQ_ret ?_
        refine Rets.one rfl ?_
        rotate_left
      exact ⟨Ext.chg (by first | exact hF.out.1 | exact hF.out.2.1 | exact hF.out.2.2.1 | exact hF.out.2.2.2.1 | exact hF.out.2.2.2.2.1 | exact hF.out.2.2.2.2.2.1 | exact hF.out.2.2.2.2.2.2.1 | exact hF.out.2.2.2.2.2.2.2.1 | exact hF.out.2.2.2.2.2.2.2.2.1 | assumption) _, rfl⟩
end Go.Px.Ext_
