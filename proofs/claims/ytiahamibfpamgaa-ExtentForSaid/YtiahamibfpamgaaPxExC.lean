/- Steps of a proof: contracts of functions, walked. -/
import Derived.Test.YtiahamibfpamgaaPxExB
set_option linter.unusedVariables false
set_option linter.unusedSimpArgs false
set_option maxRecDepth 10000
namespace Go.Px.Ext_
open Go.Proofs Go.Px
theorem own_cells {α : Type} [Enc α] {h : Heap} {base : Nat} {t : TypeId} {A : Option Addr} {c : Nat} {xs : List α} (own : Own h base t A c xs) (hn : 0 < c) :
    ∃ g cur, A = some ⟨g, 0, none⟩ ∧ base ≤ g ∧ Blk h g t cur ∧ xs.length ≤ c ∧ c ≤ maxLen ∧ cur.size = c * Enc.k α ∧ cur.toList.take (xs.length * Enc.k α) = encs xs := by
  rcases own with ⟨_, h, _⟩ | h
  · omega
  · exact h
theorem put_one (cur : Array Value) (E1 Y : List Value) (q : Nat) (hq : cur.toList.take q = E1) (hl : q + Y.length ≤ cur.size) : (putAt cur q Y).toList.take (q + Y.length) = E1 ++ Y := by
  have hl' : q + Y.length ≤ cur.toList.length := by simpa using hl
  have h1 : (cur.toList.take q ++ Y).length = q + Y.length := by rw [List.length_append, List.length_take]; omega
  rw [putAt_list, ← hq, ← h1]
  exact List.take_left
set_option maxHeartbeats 4000000 in
theorem replace_c (h : Heap) (base : Nat) (A : Option Addr) (c : Nat) (xs : List Ex) (i j : Nat) (V : Option Addr) (vc : Nat) (ys : List Ex) (own : Own h base 35 A c xs) (rd : Own h 0 35 V vc ys)
    (hne : ∀ b ∈ blk A, b ∉ blk V) (hij : i ≤ j) (hj : j ≤ xs.length) (hbase : base ≤ h.size) (hl : xs.length + ys.length ≤ 4294967296) :
    FC Try.prog 35 [.slice A xs.length c, .int .i64 (i : Int), .int .i64 (j : Int), .slice V ys.length vc] h (blk A) (RowPost h base 35 A (xs.take i ++ ys ++ xs.drop j)) := by
  refine FC.of_EW (fun a w => Try.call35 a w) Try.func35 rfl rfl fun s h1 hX => ?_
  have hF := (((Know.nil h1).since hX).own (rd.ext hX)).own (own.ext hX)
  have hK := hF
  have hle := own.le
  have hres : (xs.take i ++ ys ++ xs.drop j).length = i + ys.length + (xs.length - j) := by simp; omega
  have hkc : Enc.k Ex = 2 := rfl
  have hti : ((i : Int).toNat) = i := rfl
  have htj : ((j : Int).toNat) = j := rfl
  by_cases h0 : i = j
  · subst h0
    focus
      refine EW.seq ?_
      refine EW.sreg rfl ?_
      refine OX.tagc ?_
      refine OX.p rfl rfl (WantE.none rfl) ?_
      refine OX.tagn ?_
      refine qT_n ?_
      refine EW.seq ?_
      refine EW.sreg rfl ?_
      refine OX.tagc ?_
      refine OX.p rfl rfl (WantE.none rfl) ?_
      refine OX.tagc ?_
      refine OX.p rfl rfl (WantE.none rfl) ?_
      refine OX.tagc ?_
      refine OX.p rfl rfl (WantE.none rfl) ?_
      refine OX.tagc ?_
      refine OX.q rfl (WantE.none rfl) (Qy.cutBoth rfl rfl rfl rfl rfl rfl (by omega)) ?_
      refine OX.tagn ?_
      refine qT_n ?_
      refine EW.seq ?_
      refine EW.seq ?_
      refine EW.sreg rfl ?_
      refine OX.tagc ?_
      refine OX.p rfl rfl (WantE.none rfl) ?_
      refine OX.tagc ?_
      refine OX.p rfl rfl (WantE.none rfl) ?_
      refine OX.tagc ?_
      refine OX.p rfl rfl (WantE.none rfl) ?_
      refine OX.tagn ?_
      refine qT_n ?_
      refine EW.cond_t rfl (decide_eq_true rfl) ?_
      refine EW.seq ?_
      refine EW.sreg rfl ?_
      refine OX.tagc ?_
      refine OX.p rfl rfl (WantE.none rfl) ?_
      refine OX.tagc ?_
      refine OX.p rfl rfl (WantE.none rfl) ?_
      refine OX.tagc ?_
      refine OX.p rfl rfl (WantE.none rfl) ?_
      refine OX.tagc ?_
      rotate_left
    refine OX.ac rfl rfl (WantE.none rfl) (Runs.call (R := fun h2 => RowPost h2 base 35 A (xs.take i ++ ys ++ xs.drop i)) rfl rfl (fun h2 hE => insert_c h2 base A c xs i V vc ys (hF.out.1.ext hE) (hF.out.2.1.ext hE) hne hj (by have := hE.1; have := hX.1; omega) hl) ?_)
    rintro h2 v h3 hE hC ⟨A', c', rfl, hO, hM⟩
    focus
      refine OX.tagc ?_
      refine OX.p rfl rfl (WantE.none rfl) ?_
      refine OX.tagn ?_
      refine qT_n ?_
      refine EW.ret ?_
      refine qT_ret ?_
      refine rQ_ret ?_
      refine Rets.one rfl ?_
      rotate_left
    refine ⟨Chg.of_ext_left (hX.trans hE) hC, A', c', rfl, hO, ?_⟩
    rcases hM with hM | hM
    · exact .inl hM
    · exact .inr fun b hb => Nat.le_trans (hX.trans hE).1 (hM b hb)
  by_cases hjn : j = xs.length
  · subst hjn
    have e1 : xs.take i ++ ys ++ xs.drop xs.length = xs.take i ++ ys := by simp
    rw [e1]
    have hlt : (xs.take i).length = i := by rw [List.length_take]; omega
    by_cases hroom : i + ys.length < xs.length
    · obtain ⟨g, cur, rfl, hbg, hBg0, hlc, hcm, hsz0, htk⟩ := own_cells own (by omega)
      have hBg := hBg0.ext hX
      have hsz : cur.size = c * 2 := hsz0
      focus
        refine EW.seq ?_
        refine EW.sreg rfl ?_
        refine OX.tagc ?_
        refine OX.p rfl rfl (WantE.none rfl) ?_
        refine OX.tagn ?_
        refine qT_n ?_
        refine EW.seq ?_
        refine EW.sreg rfl ?_
        refine OX.tagc ?_
        refine OX.p rfl rfl (WantE.none rfl) ?_
        refine OX.tagc ?_
        refine OX.p rfl rfl (WantE.none rfl) ?_
        refine OX.tagc ?_
        refine OX.p rfl rfl (WantE.none rfl) ?_
        refine OX.tagc ?_
        refine OX.q rfl (WantE.none rfl) (Qy.cutBoth rfl rfl rfl rfl rfl rfl (by omega)) ?_
        refine OX.tagn ?_
        refine qT_n ?_
        refine EW.seq ?_
        refine EW.seq ?_
        refine EW.sreg rfl ?_
        refine OX.tagc ?_
        refine OX.p rfl rfl (WantE.none rfl) ?_
        refine OX.tagc ?_
        refine OX.p rfl rfl (WantE.none rfl) ?_
        refine OX.tagc ?_
        refine OX.p rfl rfl (WantE.none rfl) ?_
        refine OX.tagn ?_
        refine qT_n ?_
        refine EW.cond rfl ?_ ?_
        intro hb
        have hb' := of_decide_eq_true hb
        (exfalso; omega)
        intro hb
        have hb' := of_decide_eq_false hb
        refine EW.skip ?_
        refine qT_n ?_
        refine EW.seq ?_
        refine EW.seq ?_
        refine EW.sreg rfl ?_
        refine OX.tagc ?_
        refine OX.p rfl rfl (WantE.none rfl) ?_
        refine OX.tagc ?_
        refine OX.p rfl rfl (WantE.none rfl) ?_
        refine OX.tagc ?_
        refine OX.p rfl rfl (WantE.none rfl) ?_
        refine OX.tagc ?_
        refine OX.p rfl rfl (WantE.none rfl) ?_
        refine OX.tagn ?_
        refine qT_n ?_
        refine EW.cond_t rfl (decide_eq_true rfl) ?_
        refine EW.seq ?_
        refine EW.sreg rfl ?_
        refine OX.tagc ?_
        refine OX.p rfl rfl (WantE.none rfl) ?_
        refine OX.tagc ?_
        refine OX.p rfl rfl (WantE.none rfl) ?_
        refine OX.tagc ?_
        refine OX.q rfl (WantE.none rfl) (Qy.cutHi rfl rfl rfl rfl rfl (by omega)) ?_
        refine OX.tagc ?_
        refine OX.p rfl rfl (WantE.none rfl) ?_
        refine OX.tagc ?_
        rotate_left
      refine OX.ac rfl rfl (WantE.none rfl) (Runs.appendRoom (k := 2) (bytes := 16) (news := encs ys) rfl rfl rfl rfl rfl rfl hBg hF.out.2.1.rd.1 hF.out.2.1.rd.2 (encs_len ys) (encs_one ys) (by omega) (by rw [wlen]; omega) ?_)
      intro h2 hC2 hB2
      focus
        refine OX.tagc ?_
        refine OX.p rfl rfl (WantE.none rfl) ?_
        refine OX.tagn ?_
        refine qT_n ?_
        refine EW.seq ?_
        refine EW.seq ?_
        refine EW.sreg rfl ?_
        refine OX.tagc ?_
        refine OX.p rfl rfl (WantE.none rfl) ?_
        refine OX.tagc ?_
        refine OX.p rfl rfl (WantE.none rfl) ?_
        refine OX.tagc ?_
        refine OX.p rfl rfl (WantE.none rfl) ?_
        refine OX.tagc ?_
        refine OX.p rfl rfl (WantE.none rfl) ?_
        refine OX.tagc ?_
        refine OX.p rfl rfl (WantE.none rfl) ?_
        refine OX.tagn ?_
        refine qT_n ?_
        refine EW.cond rfl ?_ ?_
        intro hb
        have hb' := of_decide_eq_true hb
        refine EW.sreg rfl ?_
        refine OX.tagc ?_
        refine OX.p rfl rfl (WantE.none rfl) ?_
        refine OX.tagc ?_
        refine OX.p rfl rfl (WantE.none rfl) ?_
        refine OX.tagc ?_
        refine OX.p rfl rfl (WantE.none rfl) ?_
        refine OX.tagc ?_
        refine OX.q rfl (WantE.none rfl) (Qy.cutLo rfl rfl rfl rfl rfl (by omega) (by omega)) ?_
        refine OX.tagc ?_
        rotate_left
        intro hb
        have hb' := of_decide_eq_false hb
        (exfalso; omega)
      have hp : (((i + ys.length : Nat) : Int).toNat) = i + ys.length := rfl
      have hs1 : (putAt cur (i * 2) (encs ys)).size = cur.size := putAt_size _ _ _ (by rw [wlen]; omega)
      refine OX.ac0 rfl rfl (WantE.none rfl) (Runs.clear (g := g) (of := (i + ys.length) * 2) (k := 2) (bytes := 16) (cur := putAt cur (i * 2) (encs ys)) (t' := 35) rfl rfl rfl rfl rfl (fun _ => cut_blk (by omega)) hB2 (fun _ => by omega) ?_)
      intro h3 zs hC3 hzl hB3
      rw [if_neg (by omega)] at hB3
      focus
        refine OX.tagn ?_
        refine qT_n ?_
        refine EW.seq ?_
        refine EW.sreg rfl ?_
        refine OX.tagc ?_
        refine OX.p rfl rfl (WantE.none rfl) ?_
        refine OX.tagc ?_
        refine OX.p rfl rfl (WantE.none rfl) ?_
        refine OX.tagn ?_
        refine qT_n ?_
        refine EW.ret ?_
        refine qT_ret ?_
        refine rQ_ret ?_
        refine Rets.one rfl ?_
        rotate_left
      have hlr : (xs.take i ++ ys).length = i + ys.length := by simp; omega
      refine ⟨(Chg.of_ext_left hF.out.2.2.1 hC2).trans hC3, some ⟨g, 0, none⟩, c, ?_, ?_, .inl rfl⟩
      · rw [hlr]; rfl
      · refine Own.mk_ hB3 hbg (by rw [hlr]; omega) hcm ?_ ?_
        · rw [putAt_size _ _ _ (by rw [hzl]; omega), hs1, hsz]; rfl
        · rw [hlr, hkc, put_take _ _ _ _ (Nat.le_refl _) (by omega), encs_append, show (i + ys.length) * 2 = i * 2 + (encs ys).length by rw [wlen]; omega]
          exact put_one cur _ _ _ (first_cells htk (by omega)) (by rw [wlen]; omega)
    · focus
        refine EW.seq ?_
        refine EW.sreg rfl ?_
        refine OX.tagc ?_
        refine OX.p rfl rfl (WantE.none rfl) ?_
        refine OX.tagn ?_
        refine qT_n ?_
        refine EW.seq ?_
        refine EW.sreg rfl ?_
        refine OX.tagc ?_
        refine OX.p rfl rfl (WantE.none rfl) ?_
        refine OX.tagc ?_
        refine OX.p rfl rfl (WantE.none rfl) ?_
        refine OX.tagc ?_
        refine OX.p rfl rfl (WantE.none rfl) ?_
        refine OX.tagc ?_
        refine OX.q rfl (WantE.none rfl) (Qy.cutBoth rfl rfl rfl rfl rfl rfl (by omega)) ?_
        refine OX.tagn ?_
        refine qT_n ?_
        refine EW.seq ?_
        refine EW.seq ?_
        refine EW.sreg rfl ?_
        refine OX.tagc ?_
        refine OX.p rfl rfl (WantE.none rfl) ?_
        refine OX.tagc ?_
        refine OX.p rfl rfl (WantE.none rfl) ?_
        refine OX.tagc ?_
        refine OX.p rfl rfl (WantE.none rfl) ?_
        refine OX.tagn ?_
        refine qT_n ?_
        refine EW.cond rfl ?_ ?_
        intro hb
        have hb' := of_decide_eq_true hb
        (exfalso; omega)
        intro hb
        have hb' := of_decide_eq_false hb
        refine EW.skip ?_
        refine qT_n ?_
        refine EW.seq ?_
        refine EW.seq ?_
        refine EW.sreg rfl ?_
        refine OX.tagc ?_
        refine OX.p rfl rfl (WantE.none rfl) ?_
        refine OX.tagc ?_
        refine OX.p rfl rfl (WantE.none rfl) ?_
        refine OX.tagc ?_
        refine OX.p rfl rfl (WantE.none rfl) ?_
        refine OX.tagc ?_
        refine OX.p rfl rfl (WantE.none rfl) ?_
        refine OX.tagn ?_
        refine qT_n ?_
        refine EW.cond_t rfl (decide_eq_true rfl) ?_
        refine EW.seq ?_
        refine EW.sreg rfl ?_
        refine OX.tagc ?_
        refine OX.p rfl rfl (WantE.none rfl) ?_
        refine OX.tagc ?_
        refine OX.p rfl rfl (WantE.none rfl) ?_
        refine OX.tagc ?_
        refine OX.q rfl (WantE.none rfl) (Qy.cutHi rfl rfl rfl rfl rfl (by omega)) ?_
        refine OX.tagc ?_
        refine OX.p rfl rfl (WantE.none rfl) ?_
        refine OX.tagc ?_
        rotate_left
      refine OX.ac rfl rfl (WantE.none rfl) (Runs.append (xs := xs.take i) (ys := ys) (base := base) (bytes := 16) rfl rfl rfl rfl (congrArg (fun n => Value.slice A n c) hlt.symm) rfl (Own.takeN hF.out.1 i) hF.out.2.1.rd (by have := hX.1; omega) (by omega) ?_)
      intro A' c' h2 hO2 hC hM
      have hlr : (xs.take i ++ ys).length = i + ys.length := by simp; omega
      focus
        refine OX.tagc ?_
        refine OX.p rfl rfl (WantE.none rfl) ?_
        refine OX.tagn ?_
        refine qT_n ?_
        refine EW.seq ?_
        refine EW.seq ?_
        refine EW.sreg rfl ?_
        refine OX.tagc ?_
        refine OX.p rfl rfl (WantE.none rfl) ?_
        refine OX.tagc ?_
        refine OX.p rfl rfl (WantE.none rfl) ?_
        refine OX.tagc ?_
        refine OX.p rfl rfl (WantE.none rfl) ?_
        refine OX.tagc ?_
        refine OX.p rfl rfl (WantE.none rfl) ?_
        refine OX.tagc ?_
        refine OX.p rfl rfl (WantE.none rfl) ?_
        refine OX.tagn ?_
        refine qT_n ?_
        refine EW.cond rfl ?_ ?_
        intro hb
        have hb' := of_decide_eq_true hb
        (exfalso; omega)
        intro hb
        have hb' := of_decide_eq_false hb
        refine EW.skip ?_
        refine qT_n ?_
        refine EW.seq ?_
        refine EW.sreg rfl ?_
        refine OX.tagc ?_
        refine OX.p rfl rfl (WantE.none rfl) ?_
        refine OX.tagc ?_
        refine OX.p rfl rfl (WantE.none rfl) ?_
        refine OX.tagn ?_
        refine qT_n ?_
        refine EW.ret ?_
        refine qT_ret ?_
        refine rQ_ret ?_
        refine Rets.one rfl ?_
        rotate_left
      refine ⟨Chg.of_ext_left hF.out.2.2.1 hC, A', c', rfl, hO2, ?_⟩
      rcases hM with hM | hM
      · exact .inl hM
      · exact .inr fun b hb => Nat.le_trans hX.1 (hM b hb)
  have hnz : 0 < xs.length := by omega
  obtain ⟨g, cur, rfl, hbg, hBg0, hlc, hcm, hsz0, htk⟩ := own_cells own (by omega)
  have hBg := hBg0.ext hX
  have hsz : cur.size = c * 2 := hsz0
  have hdl : (encs (xs.drop j)).length = (xs.length - j) * 2 := by rw [wlen, List.length_drop]
  have hdj : (cur.toList.drop (j * 2)).take ((xs.length - j) * 2) = encs (xs.drop j) := part_cells htk j
  by_cases hg : c < i + ys.length + (xs.length - j)
  · focus
      refine EW.seq ?_
      refine EW.sreg rfl ?_
      refine OX.tagc ?_
      refine OX.p rfl rfl (WantE.none rfl) ?_
      refine OX.tagn ?_
      refine qT_n ?_
      refine EW.seq ?_
      refine EW.sreg rfl ?_
      refine OX.tagc ?_
      refine OX.p rfl rfl (WantE.none rfl) ?_
      refine OX.tagc ?_
      refine OX.p rfl rfl (WantE.none rfl) ?_
      refine OX.tagc ?_
      refine OX.p rfl rfl (WantE.none rfl) ?_
      refine OX.tagc ?_
      refine OX.q rfl (WantE.none rfl) (Qy.cutBoth rfl rfl rfl rfl rfl rfl (by omega)) ?_
      refine OX.tagn ?_
      refine qT_n ?_
      refine EW.seq ?_
      refine EW.seq ?_
      refine EW.sreg rfl ?_
      refine OX.tagc ?_
      refine OX.p rfl rfl (WantE.none rfl) ?_
      refine OX.tagc ?_
      refine OX.p rfl rfl (WantE.none rfl) ?_
      refine OX.tagc ?_
      refine OX.p rfl rfl (WantE.none rfl) ?_
      refine OX.tagn ?_
      refine qT_n ?_
      refine EW.cond rfl ?_ ?_
      intro hb
      have hb' := of_decide_eq_true hb
      (exfalso; omega)
      intro hb
      have hb' := of_decide_eq_false hb
      refine EW.skip ?_
      refine qT_n ?_
      refine EW.seq ?_
      refine EW.seq ?_
      refine EW.sreg rfl ?_
      refine OX.tagc ?_
      refine OX.p rfl rfl (WantE.none rfl) ?_
      refine OX.tagc ?_
      refine OX.p rfl rfl (WantE.none rfl) ?_
      refine OX.tagc ?_
      refine OX.p rfl rfl (WantE.none rfl) ?_
      refine OX.tagc ?_
      refine OX.p rfl rfl (WantE.none rfl) ?_
      refine OX.tagn ?_
      refine qT_n ?_
      refine EW.cond rfl ?_ ?_
      intro hb
      have hb' := of_decide_eq_true hb
      (exfalso; omega)
      intro hb
      have hb' := of_decide_eq_false hb
      refine EW.skip ?_
      refine qT_n ?_
      refine EW.seq ?_
      (refine EW.drawT ord35 tab35 rfl (by kernel_rfl) (by kernel_rfl) (by kernel_rfl) ?_)
      refine OX.p rfl rfl (WantE.none rfl) ?_
      refine OX.p rfl rfl (WantE.none rfl) ?_
      refine OX.q rfl (WantE.none rfl) (Qy.cutHi rfl rfl rfl rfl rfl (by omega)) ?_
      refine OX.p rfl rfl (WantE.none rfl) ?_
      refine OX.p rfl rfl (WantE.none rfl) ?_
      refine OX.p rfl rfl (WantE.none rfl) ?_
      refine OX.q rfl (WantE.none rfl) (Qy.addi rfl rfl rfl (by omega)) ?_
      refine OX.p rfl rfl (WantE.none rfl) ?_
      refine OX.p rfl rfl (WantE.none rfl) ?_
      refine OX.q rfl (WantE.none rfl) (Qy.cutLo rfl rfl rfl rfl rfl (by omega) (by omega)) ?_
      refine OX.p rfl rfl (WantE.none rfl) ?_
      refine OX.q rfl (WantE.none rfl) (Qy.addi rfl rfl rfl (by omega)) ?_
      refine OX.p rfl rfl (WantE.none rfl) ?_
      refine OX.nil ?_
      refine qT_n ?_
      refine EW.seq ?_
      refine EW.seq ?_
      refine EW.sreg rfl ?_
      refine OX.tagc ?_
      refine OX.p rfl rfl (WantE.none rfl) ?_
      refine OX.tagc ?_
      refine OX.p rfl rfl (WantE.none rfl) ?_
      refine OX.tagc ?_
      refine OX.q rfl (WantE.none rfl) (Qy.cap rfl rfl rfl) ?_
      refine OX.tagc ?_
      refine OX.p rfl rfl (WantE.none rfl) ?_
      refine OX.tagn ?_
      refine qT_n ?_
      refine EW.cond rfl ?_ ?_
      intro hb
      have hb' := of_decide_eq_true hb
      refine EW.seq ?_
      refine EW.sreg rfl ?_
      refine OX.tagc ?_
      refine OX.p rfl rfl (WantE.none rfl) ?_
      refine OX.tagc ?_
      refine OX.p rfl rfl (WantE.none rfl) ?_
      refine OX.tagc ?_
      refine OX.q rfl (WantE.none rfl) (Qy.cutHi rfl rfl rfl rfl rfl (by omega)) ?_
      refine OX.tagc ?_
      refine OX.p rfl rfl (WantE.none rfl) ?_
      refine OX.tagc ?_
      refine OX.p rfl rfl (WantE.none rfl) ?_
      refine OX.tagc ?_
      refine OX.q rfl (WantE.none rfl) (Qy.subi rfl rfl rfl (by omega)) ?_
      refine OX.tagc ?_
      rotate_left
      intro hb
      have hb' := of_decide_eq_false hb
      (exfalso; omega)
    refine OX.ac rfl rfl (WantE.none rfl) ?_
    refine Runs.of_Gr (Gr.appendZeros (k := 2) (bytes := 16) (olds := encs (xs.take i)) rfl rfl rfl rfl (by decide) rfl rfl (by omega) (fun hp => rfl) (hF.out.1.rd.take i).2 ?_ (by omega) (by omega) ?_)
    · rw [encs_len, List.length_take, Nat.min_eq_left (by omega)]; rfl
    intro b1 c1 cs h2 hb1 hE hB hc1 hcm1 hsz1 htk1
    replace hF := (hF.up hE).blk hB
    focus
      refine OX.tagc ?_
      refine OX.p rfl rfl (WantE.none rfl) ?_
      refine OX.tagn ?_
      refine qT_n ?_
      refine EW.seq ?_
      refine EW.sreg rfl ?_
      refine OX.tagc ?_
      refine OX.p rfl rfl (WantE.none rfl) ?_
      refine OX.tagc ?_
      refine OX.p rfl rfl (WantE.none rfl) ?_
      refine OX.tagc ?_
      refine OX.q rfl (WantE.none rfl) (Qy.cutLo rfl rfl rfl rfl rfl (by omega) (by omega)) ?_
      refine OX.tagc ?_
      refine OX.p rfl rfl (WantE.none rfl) ?_
      refine OX.tagc ?_
      rotate_left
    refine OX.ac rfl rfl (WantE.none rfl) (Runs.copy (g := b1) (of := i * 2) (n := ys.length) (k := 2) (bytes := 16) (cs := encs ys) (cur := cs) (t' := 35) rfl rfl rfl rfl rfl (by omega) (fun _ => cut_blk (by omega)) hF.out.2.2.1.rd.1 hF.out.2.2.1.rd.2 (encs_len ys) hF.out.1 (fun _ => by omega) (encs_one ys) ?_)
    intro h3 hC hB3
    obtain ⟨cs3, hcs3⟩ : ∃ cs3, cs3 = (if ys.length = 0 then cs else putAt cs (i * 2) (encs ys)) := ⟨_, rfl⟩
    have hcs4 : cs3 = putAt cs (i * 2) (encs ys) := by
      rw [hcs3]; split
      · have : ys = [] := List.eq_nil_of_length_eq_zero (by omega)
        subst this; exact (putAt_nil _ _).symm
      · rfl
    rw [← hcs3] at hB3
    have hE3 : Ext h1 h3 := Chg.fresh hE hC (by simpa using hb1)
    replace hF := (hK.up hE3).blk hB3
    focus
      refine OX.tagn ?_
      refine qT_n ?_
      refine EW.seq ?_
      (refine EW.drawT ord35 tab35 rfl (by kernel_rfl) (by kernel_rfl) (by kernel_rfl) ?_)
      refine OX.p rfl rfl (WantE.none rfl) ?_
      refine OX.p rfl rfl (WantE.none rfl) ?_
      refine OX.p rfl rfl (WantE.none rfl) ?_
      refine OX.p rfl rfl (WantE.none rfl) ?_
      refine OX.q rfl (WantE.none rfl) (Qy.addi rfl rfl rfl (by omega)) ?_
      refine OX.q rfl (WantE.none rfl) (Qy.cutLo rfl rfl rfl rfl rfl (by omega) (by omega)) ?_
      refine OX.p rfl rfl (WantE.none rfl) ?_
      refine OX.p rfl rfl (WantE.none rfl) ?_
      refine OX.q rfl (WantE.none rfl) (Qy.cutLo rfl rfl rfl rfl rfl (by omega) (by omega)) ?_
      rotate_left
    have hs3 : cs3.size = cs.size := by rw [hcs4]; exact putAt_size _ _ _ (by rw [wlen]; omega)
    refine OX.ac rfl rfl (WantE.none rfl) (Runs.copy (g := b1) (of := ((i : Int) + (ys.length : Int)).toNat * 2) (n := xs.length - j) (k := 2) (bytes := 16) (cs := encs (xs.drop j)) (cur := cs3) (t' := 35) rfl rfl rfl rfl rfl (by omega) (fun _ => cut_blk (by omega)) (fun _ => by
        rw [if_neg (by omega)]; rfl) ?_ hdl hF.out.1 (fun _ => by omega) (encs_one _) ?_)
    · rw [if_neg (by omega)]; exact (hF.out.2.1.rd.drop j).2
    intro h4 hC4 hB4
    rw [if_neg (by omega)] at hB4
    have hE4 : Ext h1 h4 := Chg.fresh hE3 hC4 (by simpa using hb1)
    focus
      refine OX.nil ?_
      refine qT_n ?_
      refine EW.seq ?_
      refine EW.sreg rfl ?_
      refine OX.tagc ?_
      refine OX.p rfl rfl (WantE.none rfl) ?_
      refine OX.tagc ?_
      refine OX.p rfl rfl (WantE.none rfl) ?_
      refine OX.tagn ?_
      refine qT_n ?_
      refine EW.ret ?_
      refine qT_ret ?_
      refine rQ_ret ?_
      refine Rets.one rfl ?_
      rotate_left
    have hp : ((i : Int) + (ys.length : Int)).toNat * 2 = i * 2 + (encs ys).length := by rw [wlen]; omega
    refine ⟨(hX.trans hE4).chg _, some ⟨b1, 0, none⟩, c1, ?_, ?_, .inr fun b hb => by simp [blk] at hb; subst hb; exact Nat.le_trans hX.1 hb1⟩
    · show Value.slice _ _ _ = _
      congr 1
      omega
    · refine Own.mk_ hB4 (by have := hX.1; omega) (by rw [hres]; omega) hcm1 ?_ ?_
      · rw [putAt_size _ _ _ (by rw [hdl]; omega), hs3, hsz1]; rfl
      · rw [hcs4, put_up cs (encs (xs.take i)) (encs (xs.drop j)) (encs ys) _ (i * 2) htk1 (by rw [wlen, List.length_take]; omega) hp.symm (by omega)]
        rw [← encs_append, ← encs_append]
        rw [← encs_len]
        exact List.take_left
  by_cases hfit : i + ys.length ≤ j
  · focus
      refine EW.seq ?_
      refine EW.sreg rfl ?_
      refine OX.tagc ?_
      refine OX.p rfl rfl (WantE.none rfl) ?_
      refine OX.tagn ?_
      refine qT_n ?_
      refine EW.seq ?_
      refine EW.sreg rfl ?_
      refine OX.tagc ?_
      refine OX.p rfl rfl (WantE.none rfl) ?_
      refine OX.tagc ?_
      refine OX.p rfl rfl (WantE.none rfl) ?_
      refine OX.tagc ?_
      refine OX.p rfl rfl (WantE.none rfl) ?_
      refine OX.tagc ?_
      refine OX.q rfl (WantE.none rfl) (Qy.cutBoth rfl rfl rfl rfl rfl rfl (by omega)) ?_
      refine OX.tagn ?_
      refine qT_n ?_
      refine EW.seq ?_
      refine EW.seq ?_
      refine EW.sreg rfl ?_
      refine OX.tagc ?_
      refine OX.p rfl rfl (WantE.none rfl) ?_
      refine OX.tagc ?_
      refine OX.p rfl rfl (WantE.none rfl) ?_
      refine OX.tagc ?_
      refine OX.p rfl rfl (WantE.none rfl) ?_
      refine OX.tagn ?_
      refine qT_n ?_
      refine EW.cond rfl ?_ ?_
      intro hb
      have hb' := of_decide_eq_true hb
      (exfalso; omega)
      intro hb
      have hb' := of_decide_eq_false hb
      refine EW.skip ?_
      refine qT_n ?_
      refine EW.seq ?_
      refine EW.seq ?_
      refine EW.sreg rfl ?_
      refine OX.tagc ?_
      refine OX.p rfl rfl (WantE.none rfl) ?_
      refine OX.tagc ?_
      refine OX.p rfl rfl (WantE.none rfl) ?_
      refine OX.tagc ?_
      refine OX.p rfl rfl (WantE.none rfl) ?_
      refine OX.tagc ?_
      refine OX.p rfl rfl (WantE.none rfl) ?_
      refine OX.tagn ?_
      refine qT_n ?_
      refine EW.cond rfl ?_ ?_
      intro hb
      have hb' := of_decide_eq_true hb
      (exfalso; omega)
      intro hb
      have hb' := of_decide_eq_false hb
      refine EW.skip ?_
      refine qT_n ?_
      refine EW.seq ?_
      (refine EW.drawT ord35 tab35 rfl (by kernel_rfl) (by kernel_rfl) (by kernel_rfl) ?_)
      refine OX.p rfl rfl (WantE.none rfl) ?_
      refine OX.p rfl rfl (WantE.none rfl) ?_
      refine OX.q rfl (WantE.none rfl) (Qy.cutHi rfl rfl rfl rfl rfl (by omega)) ?_
      refine OX.p rfl rfl (WantE.none rfl) ?_
      refine OX.p rfl rfl (WantE.none rfl) ?_
      refine OX.p rfl rfl (WantE.none rfl) ?_
      refine OX.q rfl (WantE.none rfl) (Qy.addi rfl rfl rfl (by omega)) ?_
      refine OX.p rfl rfl (WantE.none rfl) ?_
      refine OX.p rfl rfl (WantE.none rfl) ?_
      refine OX.q rfl (WantE.none rfl) (Qy.cutLo rfl rfl rfl rfl rfl (by omega) (by omega)) ?_
      refine OX.p rfl rfl (WantE.none rfl) ?_
      refine OX.q rfl (WantE.none rfl) (Qy.addi rfl rfl rfl (by omega)) ?_
      refine OX.p rfl rfl (WantE.none rfl) ?_
      refine OX.nil ?_
      refine qT_n ?_
      refine EW.seq ?_
      refine EW.seq ?_
      refine EW.sreg rfl ?_
      refine OX.tagc ?_
      refine OX.p rfl rfl (WantE.none rfl) ?_
      refine OX.tagc ?_
      refine OX.p rfl rfl (WantE.none rfl) ?_
      refine OX.tagc ?_
      refine OX.q rfl (WantE.none rfl) (Qy.cap rfl rfl rfl) ?_
      refine OX.tagc ?_
      refine OX.p rfl rfl (WantE.none rfl) ?_
      refine OX.tagn ?_
      refine qT_n ?_
      refine EW.cond rfl ?_ ?_
      intro hb
      have hb' := of_decide_eq_true hb
      (exfalso; omega)
      intro hb
      have hb' := of_decide_eq_false hb
      refine EW.skip ?_
      refine qT_n ?_
      refine EW.seq ?_
      refine EW.sreg rfl ?_
      refine OX.tagc ?_
      refine OX.p rfl rfl (WantE.none rfl) ?_
      refine OX.tagc ?_
      refine OX.p rfl rfl (WantE.none rfl) ?_
      refine OX.tagc ?_
      refine OX.q rfl (WantE.none rfl) (Qy.cutHi rfl rfl rfl rfl rfl (by omega)) ?_
      refine OX.tagc ?_
      refine OX.p rfl rfl (WantE.none rfl) ?_
      refine OX.tagn ?_
      refine qT_n ?_
      refine EW.seq ?_
      refine EW.seq ?_
      refine EW.sreg rfl ?_
      refine OX.tagc ?_
      refine OX.p rfl rfl (WantE.none rfl) ?_
      refine OX.tagc ?_
      refine OX.p rfl rfl (WantE.none rfl) ?_
      refine OX.tagc ?_
      refine OX.p rfl rfl (WantE.none rfl) ?_
      refine OX.tagc ?_
      refine OX.q rfl (WantE.none rfl) (Qy.addi rfl rfl rfl (by omega)) ?_
      refine OX.tagc ?_
      refine OX.p rfl rfl (WantE.none rfl) ?_
      refine OX.tagc ?_
      refine OX.p rfl rfl (WantE.none rfl) ?_
      refine OX.tagn ?_
      refine qT_n ?_
      refine EW.cond rfl ?_ ?_
      intro hb
      have hb' := of_decide_eq_true hb
      refine EW.seq ?_
      refine EW.sreg rfl ?_
      refine OX.tagc ?_
      refine OX.p rfl rfl (WantE.none rfl) ?_
      refine OX.tagc ?_
      refine OX.p rfl rfl (WantE.none rfl) ?_
      refine OX.tagc ?_
      refine OX.q rfl (WantE.none rfl) (Qy.cutLo rfl rfl rfl rfl rfl (by omega) (by omega)) ?_
      refine OX.tagc ?_
      refine OX.p rfl rfl (WantE.none rfl) ?_
      refine OX.tagc ?_
      rotate_left
      intro hb
      have hb' := of_decide_eq_false hb
      (exfalso; omega)
    refine OX.ac rfl rfl (WantE.none rfl) (Runs.copy (g := g) (of := i * 2) (n := ys.length) (k := 2) (bytes := 16) (cs := encs ys) (cur := cur) (t' := 35) rfl rfl rfl rfl rfl (by omega) (fun _ => cut_blk (by omega)) hF.out.2.1.rd.1 hF.out.2.1.rd.2 (encs_len ys) hBg (fun _ => by omega) (encs_one ys) ?_)
    intro h2 hC2 hB2
    obtain ⟨cs3, hcs3⟩ : ∃ cs3, cs3 = (if ys.length = 0 then cur else putAt cur (i * 2) (encs ys)) := ⟨_, rfl⟩
    have hcs4 : cs3 = putAt cur (i * 2) (encs ys) := by
      rw [hcs3]; split
      · have : ys = [] := List.eq_nil_of_length_eq_zero (by omega)
        subst this; exact (putAt_nil _ _).symm
      · rfl
    rw [← hcs3] at hB2
    have hs3 : cs3.size = cur.size := by rw [hcs4]; exact putAt_size _ _ _ (by rw [wlen]; omega)
    have hX2 : Chg [g] h h2 := Chg.of_ext_left hF.out.2.2.1 hC2
    have hd3 : (cs3.toList.drop (j * 2)).take ((xs.length - j) * 2) = encs (xs.drop j) := by
      rw [hcs4, put_drop _ _ _ _ (by rw [wlen]; omega) (by omega)]; exact hdj
    have ha3 : At h2 ⟨g, j * 2, none⟩ (encs (xs.drop j)) := hd3 ▸ hB2.from_ (j * 2) ((xs.length - j) * 2)
    focus
      refine OX.tagn ?_
      refine qT_n ?_
      refine EW.seq ?_
      (refine EW.drawT ord35 tab35 rfl (by kernel_rfl) (by kernel_rfl) (by kernel_rfl) ?_)
      refine OX.p rfl rfl (WantE.none rfl) ?_
      refine OX.p rfl rfl (WantE.none rfl) ?_
      refine OX.p rfl rfl (WantE.none rfl) ?_
      refine OX.p rfl rfl (WantE.none rfl) ?_
      refine OX.q rfl (WantE.none rfl) (Qy.addi rfl rfl rfl (by omega)) ?_
      refine OX.q rfl (WantE.none rfl) (Qy.cutLo rfl rfl rfl rfl rfl (by omega) (by omega)) ?_
      refine OX.p rfl rfl (WantE.none rfl) ?_
      refine OX.p rfl rfl (WantE.none rfl) ?_
      refine OX.q rfl (WantE.none rfl) (Qy.cutLo rfl rfl rfl rfl rfl (by omega) (by omega)) ?_
      rotate_left
    refine OX.ac rfl rfl (WantE.none rfl) (Runs.copy (g := g) (of := ((i : Int) + (ys.length : Int)).toNat * 2) (n := xs.length - j) (k := 2) (bytes := 16) (cs := encs (xs.drop j)) (cur := cs3) (t' := 35) rfl rfl rfl rfl rfl (by omega) (fun _ => cut_blk (by omega)) (fun _ => by
        rw [if_neg (by omega)]; rfl) ?_ hdl hB2 (fun _ => by omega) (encs_one _) ?_)
    · rw [cut_blk (by omega)]; exact ha3
    intro h3 hC3 hB3
    rw [if_neg (by omega)] at hB3
    obtain ⟨cs5, hcs5⟩ : ∃ cs5, cs5 = putAt cs3 (((i : Int) + (ys.length : Int)).toNat * 2) (encs (xs.drop j)) := ⟨_, rfl⟩
    rw [← hcs5] at hB3
    have hs5 : cs5.size = cur.size := by rw [hcs5, putAt_size _ _ _ (by rw [hdl]; omega), hs3]
    focus
      refine OX.nil ?_
      refine qT_n ?_
      refine EW.seq ?_
      refine EW.sreg rfl ?_
      refine OX.tagc ?_
      refine OX.p rfl rfl (WantE.none rfl) ?_
      refine OX.tagc ?_
      refine OX.p rfl rfl (WantE.none rfl) ?_
      refine OX.tagc ?_
      refine OX.q rfl (WantE.none rfl) (Qy.cutLo rfl rfl rfl rfl rfl (by omega) (by omega)) ?_
      refine OX.tagc ?_
      rotate_left
    have hlc2 : ((i : Int) + (ys.length : Int) + ((xs.length : Int) - (j : Int))).toNat = i + ys.length + (xs.length - j) := by omega
    refine OX.ac0 rfl rfl (WantE.none rfl) (Runs.clear (g := g) (of := ((((i : Int).toNat : Nat) : Int) + (ys.length : Int) + ((xs.length - (j : Int).toNat : Nat) : Int)).toNat * 2) (k := 2) (bytes := 16) (cur := cs5) (t' := 35) rfl rfl rfl rfl rfl (fun _ => cut_blk (by omega)) hB3 (fun _ => by omega) ?_)
    intro h4 zs hC4 hzl hB4
    focus
      refine OX.tagn ?_
      refine qT_n ?_
      refine EW.seq ?_
      refine EW.sreg rfl ?_
      refine OX.tagc ?_
      refine OX.p rfl rfl (WantE.none rfl) ?_
      refine OX.tagc ?_
      refine OX.p rfl rfl (WantE.none rfl) ?_
      refine OX.tagn ?_
      refine qT_n ?_
      refine EW.ret ?_
      refine qT_ret ?_
      refine rQ_ret ?_
      refine Rets.one rfl ?_
      rotate_left
    have hp : ((i : Int) + (ys.length : Int)).toNat * 2 = i * 2 + (encs ys).length := by rw [wlen]; omega
    have hfin : cs5.toList.take ((xs.take i ++ ys ++ xs.drop j).length * 2) = encs (xs.take i ++ ys ++ xs.drop j) := by
      rw [hcs5, hcs4, put_up cur (encs (xs.take i)) (encs (xs.drop j)) (encs ys) _ (i * 2) (first_cells htk (by omega)) (by rw [wlen, List.length_take]; omega) hp.symm (by omega)]
      rw [← encs_append, ← encs_append]
      rw [← hkc, ← encs_len]
      exact List.take_left
    refine ⟨(hX2.trans hC3).trans hC4, some ⟨g, 0, none⟩, c, ?_, ?_, .inl rfl⟩
    · show Value.slice _ _ _ = _
      congr 1
      omega
    · split at hB4
      · exact Own.mk_ hB4 hbg (by rw [hres]; omega) hcm (by rw [hs5, hsz]; rfl) hfin
      · refine Own.mk_ hB4 hbg (by rw [hres]; omega) hcm ?_ ?_
        · rw [putAt_size _ _ _ (by rw [hzl]; omega), hs5, hsz]; rfl
        · rw [hkc, put_take _ _ _ _ (by omega) (by omega)]; exact hfin
  · obtain ⟨vb, rfl⟩ : ∃ vb, V = some ⟨vb, 0, none⟩ := by
      rcases rd with ⟨_, _, rfl⟩ | ⟨g, cur, rfl, _⟩
      · simp at hfit; omega
      · exact ⟨g, rfl⟩
    obtain ⟨vcur, hBv0, hvs⟩ : ∃ vcur, Blk h vb 35 vcur ∧ vcur.size ≠ 0 := by
      rcases rd with ⟨h, _⟩ | ⟨g', cur', h, _, h2, h3, _, h5, _⟩
      · cases h
      · injection h with h; injection h with h; subst h
        exact ⟨cur', h2, by rw [h5]; have : 0 < vc * Enc.k Ex := Nat.mul_pos (by omega) (by decide); omega⟩
    have hgv : vb ≠ g := fun h => hne g (by simp [blk]) (by simp [blk, h])
    focus
      refine EW.seq ?_
      refine EW.sreg rfl ?_
      refine OX.tagc ?_
      refine OX.p rfl rfl (WantE.none rfl) ?_
      refine OX.tagn ?_
      refine qT_n ?_
      refine EW.seq ?_
      refine EW.sreg rfl ?_
      refine OX.tagc ?_
      refine OX.p rfl rfl (WantE.none rfl) ?_
      refine OX.tagc ?_
      refine OX.p rfl rfl (WantE.none rfl) ?_
      refine OX.tagc ?_
      refine OX.p rfl rfl (WantE.none rfl) ?_
      refine OX.tagc ?_
      refine OX.q rfl (WantE.none rfl) (Qy.cutBoth rfl rfl rfl rfl rfl rfl (by omega)) ?_
      refine OX.tagn ?_
      refine qT_n ?_
      refine EW.seq ?_
      refine EW.seq ?_
      refine EW.sreg rfl ?_
      refine OX.tagc ?_
      refine OX.p rfl rfl (WantE.none rfl) ?_
      refine OX.tagc ?_
      refine OX.p rfl rfl (WantE.none rfl) ?_
      refine OX.tagc ?_
      refine OX.p rfl rfl (WantE.none rfl) ?_
      refine OX.tagn ?_
      refine qT_n ?_
      refine EW.cond rfl ?_ ?_
      intro hb
      have hb' := of_decide_eq_true hb
      (exfalso; omega)
      intro hb
      have hb' := of_decide_eq_false hb
      refine EW.skip ?_
      refine qT_n ?_
      refine EW.seq ?_
      refine EW.seq ?_
      refine EW.sreg rfl ?_
      refine OX.tagc ?_
      refine OX.p rfl rfl (WantE.none rfl) ?_
      refine OX.tagc ?_
      refine OX.p rfl rfl (WantE.none rfl) ?_
      refine OX.tagc ?_
      refine OX.p rfl rfl (WantE.none rfl) ?_
      refine OX.tagc ?_
      refine OX.p rfl rfl (WantE.none rfl) ?_
      refine OX.tagn ?_
      refine qT_n ?_
      refine EW.cond rfl ?_ ?_
      intro hb
      have hb' := of_decide_eq_true hb
      (exfalso; omega)
      intro hb
      have hb' := of_decide_eq_false hb
      refine EW.skip ?_
      refine qT_n ?_
      refine EW.seq ?_
      (refine EW.drawT ord35 tab35 rfl (by kernel_rfl) (by kernel_rfl) (by kernel_rfl) ?_)
      refine OX.p rfl rfl (WantE.none rfl) ?_
      refine OX.p rfl rfl (WantE.none rfl) ?_
      refine OX.q rfl (WantE.none rfl) (Qy.cutHi rfl rfl rfl rfl rfl (by omega)) ?_
      refine OX.p rfl rfl (WantE.none rfl) ?_
      refine OX.p rfl rfl (WantE.none rfl) ?_
      refine OX.p rfl rfl (WantE.none rfl) ?_
      refine OX.q rfl (WantE.none rfl) (Qy.addi rfl rfl rfl (by omega)) ?_
      refine OX.p rfl rfl (WantE.none rfl) ?_
      refine OX.p rfl rfl (WantE.none rfl) ?_
      refine OX.q rfl (WantE.none rfl) (Qy.cutLo rfl rfl rfl rfl rfl (by omega) (by omega)) ?_
      refine OX.p rfl rfl (WantE.none rfl) ?_
      refine OX.q rfl (WantE.none rfl) (Qy.addi rfl rfl rfl (by omega)) ?_
      refine OX.p rfl rfl (WantE.none rfl) ?_
      refine OX.nil ?_
      refine qT_n ?_
      refine EW.seq ?_
      refine EW.seq ?_
      refine EW.sreg rfl ?_
      refine OX.tagc ?_
      refine OX.p rfl rfl (WantE.none rfl) ?_
      refine OX.tagc ?_
      refine OX.p rfl rfl (WantE.none rfl) ?_
      refine OX.tagc ?_
      refine OX.q rfl (WantE.none rfl) (Qy.cap rfl rfl rfl) ?_
      refine OX.tagc ?_
      refine OX.p rfl rfl (WantE.none rfl) ?_
      refine OX.tagn ?_
      refine qT_n ?_
      refine EW.cond rfl ?_ ?_
      intro hb
      have hb' := of_decide_eq_true hb
      (exfalso; omega)
      intro hb
      have hb' := of_decide_eq_false hb
      refine EW.skip ?_
      refine qT_n ?_
      refine EW.seq ?_
      refine EW.sreg rfl ?_
      refine OX.tagc ?_
      refine OX.p rfl rfl (WantE.none rfl) ?_
      refine OX.tagc ?_
      refine OX.p rfl rfl (WantE.none rfl) ?_
      refine OX.tagc ?_
      refine OX.q rfl (WantE.none rfl) (Qy.cutHi rfl rfl rfl rfl rfl (by omega)) ?_
      refine OX.tagc ?_
      refine OX.p rfl rfl (WantE.none rfl) ?_
      refine OX.tagn ?_
      refine qT_n ?_
      refine EW.seq ?_
      refine EW.seq ?_
      refine EW.sreg rfl ?_
      refine OX.tagc ?_
      refine OX.p rfl rfl (WantE.none rfl) ?_
      refine OX.tagc ?_
      refine OX.p rfl rfl (WantE.none rfl) ?_
      refine OX.tagc ?_
      refine OX.p rfl rfl (WantE.none rfl) ?_
      refine OX.tagc ?_
      refine OX.q rfl (WantE.none rfl) (Qy.addi rfl rfl rfl (by omega)) ?_
      refine OX.tagc ?_
      refine OX.p rfl rfl (WantE.none rfl) ?_
      refine OX.tagc ?_
      refine OX.p rfl rfl (WantE.none rfl) ?_
      refine OX.tagn ?_
      refine qT_n ?_
      refine EW.cond rfl ?_ ?_
      intro hb
      have hb' := of_decide_eq_true hb
      (exfalso; omega)
      intro hb
      have hb' := of_decide_eq_false hb
      refine EW.skip ?_
      refine qT_n ?_
      refine EW.seq ?_
      refine EW.seq ?_
      refine EW.sreg rfl ?_
      refine OX.tagc ?_
      refine OX.p rfl rfl (WantE.none rfl) ?_
      refine OX.tagc ?_
      refine OX.p rfl rfl (WantE.none rfl) ?_
      refine OX.tagc ?_
      refine OX.p rfl rfl (WantE.none rfl) ?_
      refine OX.tagc ?_
      refine OX.p rfl rfl (WantE.none rfl) ?_
      refine OX.tagc ?_
      refine OX.q rfl (WantE.none rfl) (Qy.addi rfl rfl rfl (by omega)) ?_
      refine OX.tagc ?_
      refine OX.q rfl (WantE.none rfl) (Qy.cutLo rfl rfl rfl rfl rfl (by omega) (by omega)) ?_
      refine OX.tagc ?_
      refine OX.p rfl rfl (WantE.none rfl) ?_
      refine OX.tagc ?_
      refine OX.q rfl (WantE.none rfl) (Qy.overlaps rfl rfl rfl ovl rfl rfl (.inr (.inr (.inr (.inr ⟨_, _, cut_blk (by omega), rfl, Ne.symm hgv, ⟨_, _, hBg⟩, ⟨_, _, hBv0.ext hX, hvs⟩⟩))))) ?_
      refine OX.tagc ?_
      refine OX.p rfl rfl (WantE.none rfl) ?_
      refine OX.tagn ?_
      refine qT_n ?_
      refine EW.cond_t rfl rfl ?_
      refine EW.seq ?_
      (refine EW.drawT ord35 tab35 rfl (by kernel_rfl) (by kernel_rfl) (by kernel_rfl) ?_)
      refine OX.p rfl rfl (WantE.none rfl) ?_
      refine OX.p rfl rfl (WantE.none rfl) ?_
      refine OX.p rfl rfl (WantE.none rfl) ?_
      refine OX.p rfl rfl (WantE.none rfl) ?_
      refine OX.q rfl (WantE.none rfl) (Qy.addi rfl rfl rfl (by omega)) ?_
      refine OX.q rfl (WantE.none rfl) (Qy.cutLo rfl rfl rfl rfl rfl (by omega) (by omega)) ?_
      refine OX.p rfl rfl (WantE.none rfl) ?_
      refine OX.p rfl rfl (WantE.none rfl) ?_
      refine OX.q rfl (WantE.none rfl) (Qy.cutLo rfl rfl rfl rfl rfl (by omega) (by omega)) ?_
      rotate_left
    refine OX.ac rfl rfl (WantE.none rfl) (Runs.copy (g := g) (of := ((i : Int) + (ys.length : Int)).toNat * 2) (n := xs.length - j) (k := 2) (bytes := 16) (cs := encs (xs.drop j)) (cur := cur) (t' := 35) rfl rfl rfl rfl rfl (by omega) (fun _ => cut_blk (by omega)) (fun _ => by
        rw [if_neg (by omega)]; rfl) ?_ hdl hBg (fun _ => by omega) (encs_one _) ?_)
    · rw [if_neg (by omega)]; exact (hF.out.1.rd.drop j).2
    intro h2 hC2 hB2
    rw [if_neg (by omega)] at hB2
    have hO2 : Own h2 0 35 (some ⟨vb, 0, none⟩) vc ys := hF.out.2.1.chg hC2 (by simpa [blk] using hgv)
    have hX2 : Chg [g] h h2 := Chg.of_ext_left hF.out.2.2.1 hC2
    have hF := ((Know.nil h2).own hO2).blk hB2
    focus
      refine OX.nil ?_
      refine qT_n ?_
      refine EW.seq ?_
      refine EW.sreg rfl ?_
      refine OX.tagc ?_
      refine OX.p rfl rfl (WantE.none rfl) ?_
      refine OX.tagc ?_
      refine OX.p rfl rfl (WantE.none rfl) ?_
      refine OX.tagc ?_
      refine OX.q rfl (WantE.none rfl) (Qy.cutLo rfl rfl rfl rfl rfl (by omega) (by omega)) ?_
      refine OX.tagc ?_
      refine OX.p rfl rfl (WantE.none rfl) ?_
      refine OX.tagc ?_
      rotate_left
    have hsz1 : (putAt cur (((i : Int) + (ys.length : Int)).toNat * 2) (encs (xs.drop j))).size = cur.size := putAt_size _ _ _ (by rw [hdl]; omega)
    refine OX.ac rfl rfl (WantE.none rfl) (Runs.copy (g := g) (of := i * 2) (n := ys.length) (k := 2) (bytes := 16) (cs := encs ys) (cur := putAt cur (((i : Int) + (ys.length : Int)).toNat * 2) (encs (xs.drop j))) (t' := 35) rfl rfl rfl rfl rfl (by omega) (fun _ => cut_blk (by omega)) (fun _ => rfl) hO2.rd.2 (encs_len ys) hB2 (fun _ => by omega) (encs_one ys) ?_)
    intro h3 hC3 hB3
    rw [if_neg (by omega)] at hB3
    focus
      refine OX.tagn ?_
      refine qT_n ?_
      refine EW.seq ?_
      refine EW.sreg rfl ?_
      refine OX.tagc ?_
      refine OX.p rfl rfl (WantE.none rfl) ?_
      refine OX.tagc ?_
      refine OX.p rfl rfl (WantE.none rfl) ?_
      refine OX.tagn ?_
      refine qT_n ?_
      refine EW.ret ?_
      refine qT_ret ?_
      refine rQ_ret ?_
      refine Rets.one rfl ?_
      rotate_left
    have hp : ((i : Int) + (ys.length : Int)).toNat * 2 = i * 2 + (encs ys).length := by rw [wlen]; omega
    refine ⟨hX2.trans hC3, some ⟨g, 0, none⟩, c, ?_, ?_, .inl rfl⟩
    · show Value.slice _ _ _ = _
      congr 1
      omega
    · refine Own.mk_ hB3 hbg (by rw [hres]; omega) hcm ?_ ?_
      · rw [putAt_size _ _ _ (by rw [wlen]; omega), hsz1, hsz]; rfl
      · rw [put_down cur (encs (xs.take i)) (encs (xs.drop j)) (encs ys) _ (i * 2) (first_cells htk (by omega)) (by rw [wlen, List.length_take]; omega) hp.symm (by omega)]
        rw [← encs_append, ← encs_append, ← encs_len]
        exact List.take_left
end Go.Px.Ext_
