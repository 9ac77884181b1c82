/- Steps of a proof: contracts of functions, walked. -/
import Derived.Test.YtiahamibfpamgaaPxExI
set_option linter.unusedVariables false
set_option linter.unusedSimpArgs false
set_option maxRecDepth 10000
namespace Go.Px.Ext_
open Go.Proofs Go.Px
def bump (l : List Ex) : List Ex := l.set (((l.length : Int) - 1).toNat) ⟨(ix l ((l.length : Int) - 1)).first, (ix l ((l.length : Int) - 1)).count + 1⟩
def hl (q : List Bool) : Nat → List Ex
  | 0 => []
  | n + 1 => if ix q (n : Int) then hl q n else if 0 < n ∧ ix q ((n : Int) - 1) = false then bump (hl q n) else hl q n ++ [⟨(n : Int), 1⟩]
theorem bump_len (l : List Ex) : (bump l).length = l.length := by simp [bump]
theorem hl_len (q : List Bool) : ∀ n, (hl q n).length ≤ n
  | 0 => by simp [hl]
  | n + 1 => by
    have := hl_len q n
    rw [hl]
    split
    · omega
    · split
      · rw [bump_len]; omega
      · simp; omega
theorem hl_pos (q : List Bool) (n : Nat) (h : ix q (n : Int) = false) : 0 < (hl q (n + 1)).length := by
  rw [hl, if_neg (by simp [h])]
  split
  · rename_i h2
    rw [bump_len]
    obtain ⟨m, rfl⟩ : ∃ m, n = m + 1 := ⟨n - 1, by omega⟩
    exact hl_pos q m (by have := h2.2; rwa [show (((m + 1 : Nat) : Int) - 1) = (m : Int) by omega] at this)
  · simp
theorem not_f {b : Bool} (h : (!b) = true) : b = false := by cases b <;> simp at h ⊢
theorem not_t {b : Bool} (h : (!b) = false) : b = true := by cases b <;> simp at h ⊢
def lastC (l : List Ex) : Prop := ∀ x ∈ l, 0 ≤ x.count ∧ x.count ≤ 4096
theorem hl_count (q : List Bool) : ∀ n, ∀ x ∈ hl q n, 0 ≤ x.count ∧ x.count ≤ n
  | 0 => by simp [hl]
  | n + 1 => by
    have ih := hl_count q n
    intro x hx
    rw [hl] at hx
    split at hx
    · have := ih x hx; omega
    · split at hx
      · rename_i h2 h3
        have hpos : 0 < (hl q n).length := by
          obtain ⟨m, rfl⟩ : ∃ m, n = m + 1 := ⟨n - 1, by omega⟩
          exact hl_pos q m (by have := h3.2; rwa [show (((m + 1 : Nat) : Int) - 1) = (m : Int) by omega] at this)
        unfold bump at hx
        rcases List.mem_or_eq_of_mem_set hx with hx | rfl
        · have := ih x hx; omega
        · have := ih _ (ix_mem (xs := hl q n) (i := (((hl q n).length : Int) - 1)) (by omega) (by omega))
          show 0 ≤ (ix (hl q n) _).count + 1 ∧ (ix (hl q n) _).count + 1 ≤ _
          omega
      · rw [List.mem_append, List.mem_singleton] at hx
        rcases hx with hx | rfl
        · have := ih x hx; omega
        · show (0 : Int) ≤ 1 ∧ (1 : Int) ≤ _
          omega
set_option maxHeartbeats 4000000 in
theorem rholes_c (h : Heap) (A : Option Addr) (c : Nat) (q : List Bool) (hr : Rd h A q) (hlen : q.length ≤ 4096) :
    FC Try.prog 39 [.slice A q.length c] h [] (fun v h' => ∃ A' c', v = .slice A' (hl q q.length).length c' ∧ Own h' h.size 35 A' c' (hl q q.length)) := by
  refine FC.of_EW (fun a w => Try.call39 a w) Try.func39 rfl rfl fun s h1 hX => ?_
  have hF := ((Know.nil h1).since hX).rd (hr.ext hX)
  have hK := hF
  focus
    refine EW.seq ?_
    refine EW.sreg rfl ?_
    refine OX.tagc ?_
    refine OX.p rfl rfl (WantE.none rfl) ?_
    refine OX.tagn ?_
    refine qT_n ?_
    refine EW.seq ?_
    refine EW.sreg rfl ?_
    refine OX.tagc ?_
    refine OX.p rfl rfl (WantE.none rfl) ?_
    refine OX.tagn ?_
    refine qT_n ?_
    refine EW.seq ?_
    refine EW.seq ?_
    refine EW.sreg rfl ?_
    refine OX.tagc ?_
    refine OX.p rfl rfl (WantE.none rfl) ?_
    refine OX.tagn ?_
    refine qT_n ?_
    refine EW.block ?_
    rotate_left
  refine EW.loopA (fun (i : Nat) A' c' => [(0, .slice A q.length c), (3, .slice A' (hl q i).length c'), (4, .int .i64 i)]) (fun i A' c' h' => Ext h1 h' ∧ i ≤ q.length ∧ Own h' h1.size 35 A' c' (hl q i)) (fun i => q.length - i) 0 none 0
    ⟨rfl, rfl, rfl, trivial⟩ ⟨Ext.refl _, by omega, Own.nil _ _ _⟩ ?_
  rintro i A' c' e h2 ⟨hE2, hi, hO⟩
  replace hF := (hK.up hE2).rd hO.rd
  have hll := hl_len q i
  have hs := hl.eq_2 q i
  cases hq : ix q (i : Int) with
  | true =>
    rw [hq, if_pos rfl] at hs
    by_cases hlt : i < q.length
    · focus
        refine EW.seq ?_
        refine EW.seq ?_
        refine EW.sreg rfl ?_
        refine OX.tagc ?_
        refine OX.p rfl rfl (WantE.none rfl) ?_
        refine OX.tagc ?_
        refine OX.p rfl rfl (WantE.none rfl) ?_
        refine OX.tagc ?_
        refine OX.p rfl rfl (WantE.none rfl) ?_
        refine OX.tagc ?_
        refine OX.p rfl rfl (WantE.none rfl) ?_
        refine OX.tagn ?_
        refine qT_n ?_
        refine EW.cond rfl ?_ ?_
        intro hb
        have hb' := of_decide_eq_true hb
        refine EW.skip ?_
        refine qT_n ?_
        refine EW.seq ?_
        refine EW.block ?_
        refine EW.seq ?_
        refine EW.seq ?_
        refine EW.sreg rfl ?_
        refine OX.tagc ?_
        refine OX.p rfl rfl (WantE.none rfl) ?_
        refine OX.tagc ?_
        refine OX.p rfl rfl (WantE.none rfl) ?_
        refine OX.tagc ?_
        refine OX.q rfl (WantE.none rfl) (Qy.indexRd rfl rfl rfl rfl rfl hF.out.2.1 rfl (by omega)) ?_
        refine OX.tagc ?_
        refine OX.q rfl (WantE.none rfl) (Qy.loadEl0 rfl rfl rfl hF.out.2.1 rfl (by omega) rfl) ?_
        refine OX.tagn ?_
        refine qT_n ?_
        refine EW.cond_t rfl (by assumption) ?_
        refine EW.exit ?_
        refine qT_exit ?_
        refine qB_hit ?_
        refine qT_n ?_
        refine EW.sreg rfl ?_
        refine OX.tagc ?_
        refine OX.p rfl rfl (WantE.none rfl) ?_
        refine OX.tagc ?_
        refine OX.q rfl (WantE.none rfl) (Qy.addi rfl rfl rfl (by omega)) ?_
        refine OX.tagc ?_
        refine OX.p rfl rfl (WantE.none rfl) ?_
        refine OX.tagn ?_
        refine qT_n ?_
        rotate_left
        intro hb
        have hb' := of_decide_eq_false hb
        (exfalso; omega)
      exact ⟨i + 1, A', c', ⟨rfl, by rw [hs]; rfl, rfl, trivial⟩, ⟨hE2, by omega, by rw [hs]; exact hO⟩, by omega⟩
    · have hiq : i = q.length := by omega
      subst hiq
      focus
        refine EW.seq ?_
        refine EW.seq ?_
        refine EW.sreg rfl ?_
        refine OX.tagc ?_
        refine OX.p rfl rfl (WantE.none rfl) ?_
        refine OX.tagc ?_
        refine OX.p rfl rfl (WantE.none rfl) ?_
        refine OX.tagc ?_
        refine OX.p rfl rfl (WantE.none rfl) ?_
        refine OX.tagc ?_
        refine OX.p rfl rfl (WantE.none rfl) ?_
        refine OX.tagn ?_
        refine qT_n ?_
        refine EW.cond rfl ?_ ?_
        intro hb
        have hb' := of_decide_eq_true hb
        (exfalso; omega)
        intro hb
        have hb' := of_decide_eq_false hb
        refine EW.exit ?_
        refine qT_exit ?_
        refine qT_exit ?_
        refine qB_hit ?_
        refine qT_n ?_
        refine EW.seq ?_
        refine EW.sreg rfl ?_
        refine OX.tagc ?_
        refine OX.p rfl rfl (WantE.none rfl) ?_
        refine OX.tagc ?_
        refine OX.p rfl rfl (WantE.none rfl) ?_
        refine OX.tagn ?_
        refine qT_n ?_
        refine EW.ret ?_
        refine rQ_ret ?_
        refine Rets.one rfl ?_
        rotate_left
      exact ⟨(hX.trans hE2).chg _, A', c', rfl, hO.mono hX.1⟩
  | false =>
    rw [hq, if_neg (by simp)] at hs
    by_cases hlt : i < q.length
    · by_cases hz : 0 < i ∧ ix q ((i : Int) - 1) = false
      · rw [if_pos hz] at hs
        have hz1 := hz.1
        have hz2 := hz.2
        have hpos : 0 < (hl q i).length := by
          obtain ⟨m, rfl⟩ : ∃ m, i = m + 1 := ⟨i - 1, by omega⟩
          exact hl_pos q m (by rwa [show (((m + 1 : Nat) : Int) - 1) = (m : Int) by omega] at hz2)
        have hcnt := hl_count q i _ (ix_mem (xs := hl q i) (i := (((hl q i).length : Int) - 1)) (by omega) (by omega))
        focus
          refine EW.seq ?_
          refine EW.seq ?_
          refine EW.sreg rfl ?_
          refine OX.tagc ?_
          refine OX.p rfl rfl (WantE.none rfl) ?_
          refine OX.tagc ?_
          refine OX.p rfl rfl (WantE.none rfl) ?_
          refine OX.tagc ?_
          refine OX.p rfl rfl (WantE.none rfl) ?_
          refine OX.tagc ?_
          refine OX.p rfl rfl (WantE.none rfl) ?_
          refine OX.tagn ?_
          refine qT_n ?_
          refine EW.cond rfl ?_ ?_
          intro hb
          have hb' := of_decide_eq_true hb
          refine EW.skip ?_
          refine qT_n ?_
          refine EW.seq ?_
          refine EW.block ?_
          refine EW.seq ?_
          refine EW.seq ?_
          refine EW.sreg rfl ?_
          refine OX.tagc ?_
          refine OX.p rfl rfl (WantE.none rfl) ?_
          refine OX.tagc ?_
          refine OX.p rfl rfl (WantE.none rfl) ?_
          refine OX.tagc ?_
          refine OX.q rfl (WantE.none rfl) (Qy.indexRd rfl rfl rfl rfl rfl hF.out.2.1 rfl (by omega)) ?_
          refine OX.tagc ?_
          refine OX.q rfl (WantE.none rfl) (Qy.loadEl0 rfl rfl rfl hF.out.2.1 rfl (by omega) rfl) ?_
          refine OX.tagn ?_
          refine qT_n ?_
          refine EW.cond_f rfl (by assumption) ?_
          refine EW.skip ?_
          refine qT_n ?_
          refine EW.seq ?_
          refine EW.sreg rfl ?_
          refine OX.tagc ?_
          refine OX.p rfl rfl (WantE.none rfl) ?_
          refine OX.tagc ?_
          refine OX.p rfl rfl (WantE.none rfl) ?_
          refine OX.tagc ?_
          refine OX.p rfl rfl (WantE.none rfl) ?_
          refine OX.tagc ?_
          refine OX.gsplit rfl rfl rfl ?_ ?_
          intro hb
          have hb' := of_decide_eq_true hb
          refine OX.p rfl rfl (WantE.yes rfl rfl rfl (by assumption)) ?_
          refine OX.tagc ?_
          refine OX.p rfl rfl (WantE.yes rfl rfl rfl (by assumption)) ?_
          refine OX.tagc ?_
          refine OX.q rfl (WantE.yes rfl rfl rfl (by assumption)) (Qy.subi rfl rfl rfl (by omega)) ?_
          refine OX.tagc ?_
          refine OX.q rfl (WantE.yes rfl rfl rfl (by assumption)) (Qy.indexRd rfl rfl rfl rfl rfl hF.out.2.1 rfl (by omega)) ?_
          refine OX.tagc ?_
          refine OX.q rfl (WantE.yes rfl rfl rfl (by assumption)) (Qy.loadEl0 rfl rfl rfl hF.out.2.1 rfl (by omega) rfl) ?_
          refine OX.tagc ?_
          refine OX.p rfl rfl (WantE.yes rfl rfl rfl (by assumption)) ?_
          refine OX.tagc ?_
          refine OX.q rfl (WantE.none rfl) (Qy.pick_tb rfl rfl rfl (by assumption)) ?_
          refine OX.tagn ?_
          refine qT_n ?_
          refine EW.cond_t rfl (by simp only [*, Bool.not_false, Bool.not_true]) ?_
          refine EW.sreg rfl ?_
          refine OX.tagc ?_
          refine OX.p rfl rfl (WantE.none rfl) ?_
          refine OX.tagc ?_
          refine OX.p rfl rfl (WantE.none rfl) ?_
          refine OX.tagc ?_
          refine OX.p rfl rfl (WantE.none rfl) ?_
          refine OX.tagc ?_
          refine OX.q rfl (WantE.none rfl) (Qy.subi rfl rfl rfl (by omega)) ?_
          refine OX.tagc ?_
          refine OX.q rfl (WantE.none rfl) (Qy.indexRd rfl rfl rfl rfl rfl hF.out.1 rfl (by omega)) ?_
          refine OX.tagc ?_
          refine OX.p rfl rfl (WantE.none rfl) ?_
          refine OX.tagc ?_
          refine OX.q rfl (WantE.none rfl) (Qy.loadEl rfl rfl rfl hF.out.1 rfl (by omega) rfl) ?_
          refine OX.tagc ?_
          refine OX.q rfl (WantE.none rfl) (Qy.addi rfl rfl rfl (by omega)) ?_
          refine OX.tagc ?_
          refine OX.q rfl (WantE.none rfl) (Qy.indexRd rfl rfl rfl rfl rfl hF.out.1 rfl (by omega)) ?_
          refine OX.tagc ?_
          refine OX.p rfl rfl (WantE.none rfl) ?_
          refine OX.tagc ?_
          rotate_left
          intro hb
          have hb' := of_decide_eq_false hb
          (exfalso; omega)
          intro hb
          have hb' := of_decide_eq_false hb
          (exfalso; omega)
        · refine OX.ac0 rfl rfl (WantE.none rfl) (Runs.setFd (vs := [.int .i64 ((ix (hl q i) (((hl q i).length : Int) - 1)).count + 1)]) (y' := ⟨(ix (hl q i) (((hl q i).length : Int) - 1)).first, (ix (hl q i) (((hl q i).length : Int) - 1)).count + 1⟩) rfl rfl rfl rfl hO rfl (by omega) (by simp) rfl rfl ?_)
          intro h4 hC4 hO4
          have hE4 := Chg.fresh hE2 hC4 hO.blk_ge
          replace hF := hK.up hE4
          focus
            refine OX.tagn ?_
            refine qB_n ?_
            refine qT_n ?_
            refine EW.sreg rfl ?_
            refine OX.tagc ?_
            refine OX.p rfl rfl (WantE.none rfl) ?_
            refine OX.tagc ?_
            refine OX.q rfl (WantE.none rfl) (Qy.addi rfl rfl rfl (by omega)) ?_
            refine OX.tagc ?_
            refine OX.p rfl rfl (WantE.none rfl) ?_
            refine OX.tagn ?_
            refine qT_n ?_
            rotate_left
          exact ⟨i + 1, A', c', ⟨rfl, by rw [hs, bump_len]; rfl, rfl, trivial⟩, ⟨hE4, by omega, by rw [hs]; exact hO4⟩, by omega⟩
      · rw [if_neg hz] at hs
        focus
          refine EW.seq ?_
          refine EW.seq ?_
          refine EW.sreg rfl ?_
          refine OX.tagc ?_
          refine OX.p rfl rfl (WantE.none rfl) ?_
          refine OX.tagc ?_
          refine OX.p rfl rfl (WantE.none rfl) ?_
          refine OX.tagc ?_
          refine OX.p rfl rfl (WantE.none rfl) ?_
          refine OX.tagc ?_
          refine OX.p rfl rfl (WantE.none rfl) ?_
          refine OX.tagn ?_
          refine qT_n ?_
          refine EW.cond rfl ?_ ?_
          intro hb
          have hb' := of_decide_eq_true hb
          refine EW.skip ?_
          refine qT_n ?_
          refine EW.seq ?_
          refine EW.block ?_
          refine EW.seq ?_
          refine EW.seq ?_
          refine EW.sreg rfl ?_
          refine OX.tagc ?_
          refine OX.p rfl rfl (WantE.none rfl) ?_
          refine OX.tagc ?_
          refine OX.p rfl rfl (WantE.none rfl) ?_
          refine OX.tagc ?_
          refine OX.q rfl (WantE.none rfl) (Qy.indexRd rfl rfl rfl rfl rfl hF.out.2.1 rfl (by omega)) ?_
          refine OX.tagc ?_
          refine OX.q rfl (WantE.none rfl) (Qy.loadEl0 rfl rfl rfl hF.out.2.1 rfl (by omega) rfl) ?_
          refine OX.tagn ?_
          refine qT_n ?_
          refine EW.cond_f rfl (by assumption) ?_
          refine EW.skip ?_
          refine qT_n ?_
          refine EW.seq ?_
          refine EW.sreg rfl ?_
          refine OX.tagc ?_
          refine OX.p rfl rfl (WantE.none rfl) ?_
          refine OX.tagc ?_
          refine OX.p rfl rfl (WantE.none rfl) ?_
          refine OX.tagc ?_
          refine OX.p rfl rfl (WantE.none rfl) ?_
          refine OX.tagc ?_
          refine OX.gsplit rfl rfl rfl ?_ ?_
          intro hb
          have hb' := of_decide_eq_true hb
          refine OX.p rfl rfl (WantE.yes rfl rfl rfl (by assumption)) ?_
          refine OX.tagc ?_
          refine OX.p rfl rfl (WantE.yes rfl rfl rfl (by assumption)) ?_
          refine OX.tagc ?_
          refine OX.q rfl (WantE.yes rfl rfl rfl (by assumption)) (Qy.subi rfl rfl rfl (by omega)) ?_
          refine OX.tagc ?_
          refine OX.q rfl (WantE.yes rfl rfl rfl (by assumption)) (Qy.indexRd rfl rfl rfl rfl rfl hF.out.2.1 rfl (by omega)) ?_
          refine OX.tagc ?_
          refine OX.q rfl (WantE.yes rfl rfl rfl (by assumption)) (Qy.loadEl0 rfl rfl rfl hF.out.2.1 rfl (by omega) rfl) ?_
          refine OX.tagc ?_
          refine OX.p rfl rfl (WantE.yes rfl rfl rfl (by assumption)) ?_
          refine OX.tagc ?_
          refine OX.q rfl (WantE.none rfl) (Qy.pick_tb rfl rfl rfl (by assumption)) ?_
          refine OX.tagn ?_
          refine qT_n ?_
          refine EW.cond rfl ?_ ?_
          intro hb
          (focus (exfalso; simp_all; done))
          intro hb
          refine EW.sreg rfl ?_
          refine OX.tagc ?_
          refine OX.p rfl rfl (WantE.none rfl) ?_
          refine OX.tagc ?_
          refine OX.p rfl rfl (WantE.none rfl) ?_
          refine OX.tagc ?_
          refine OX.q rfl (WantE.none rfl) (Qy.buildF rfl rfl) ?_
          refine OX.tagc ?_
          rotate_left
          intro hb
          have hb' := of_decide_eq_false hb
          refine OX.sk rfl (WantE.no rfl rfl rfl (by assumption)) ?_
          refine OX.tagc ?_
          refine OX.sk rfl (WantE.no rfl rfl rfl (by assumption)) ?_
          refine OX.tagc ?_
          refine OX.sk rfl (WantE.no rfl rfl rfl (by assumption)) ?_
          refine OX.tagc ?_
          refine OX.sk rfl (WantE.no rfl rfl rfl (by assumption)) ?_
          refine OX.tagc ?_
          refine OX.sk rfl (WantE.no rfl rfl rfl (by assumption)) ?_
          refine OX.tagc ?_
          refine OX.sk rfl (WantE.no rfl rfl rfl (by assumption)) ?_
          refine OX.tagc ?_
          refine OX.q rfl (WantE.none rfl) (Qy.pick_fb rfl rfl rfl (by assumption)) ?_
          refine OX.tagn ?_
          refine qT_n ?_
          refine EW.cond_f rfl rfl ?_
          refine EW.sreg rfl ?_
          refine OX.tagc ?_
          refine OX.p rfl rfl (WantE.none rfl) ?_
          refine OX.tagc ?_
          refine OX.p rfl rfl (WantE.none rfl) ?_
          refine OX.tagc ?_
          refine OX.q rfl (WantE.none rfl) (Qy.buildF rfl rfl) ?_
          refine OX.tagc ?_
          rotate_left
          intro hb
          have hb' := of_decide_eq_false hb
          (exfalso; omega)
        all_goals
          refine OX.gr rfl rfl (WantE.none rfl) (Gr.lit (xs := [(⟨(i : Int), 1⟩ : Ex)]) (bytes := 16) rfl rfl rfl rfl rfl rfl (by decide) ?_)
          intro b1 h3 hb1 hE3 hlt3 hO3
          focus
            refine OX.tagc ?_
            rotate_left
          refine OX.ac rfl rfl (WantE.none rfl) (Runs.appF (h0 := h1) (xs := hl q i) (ys := [(⟨(i : Int), 1⟩ : Ex)]) (bytes := 16) (hE2.trans hE3) rfl rfl rfl rfl rfl rfl (hO.ext hE3) hO3.rd (by simp; omega) ?_)
          intro A2 c2 h4 hE4 hO4 hC4 hM4
          replace hF := hK.up hE4
          focus
            refine OX.tagc ?_
            refine OX.p rfl rfl (WantE.none rfl) ?_
            refine OX.tagn ?_
            refine qB_n ?_
            refine qT_n ?_
            refine EW.sreg rfl ?_
            refine OX.tagc ?_
            refine OX.p rfl rfl (WantE.none rfl) ?_
            refine OX.tagc ?_
            refine OX.q rfl (WantE.none rfl) (Qy.addi rfl rfl rfl (by omega)) ?_
            refine OX.tagc ?_
            refine OX.p rfl rfl (WantE.none rfl) ?_
            refine OX.tagn ?_
            refine qT_n ?_
            rotate_left
          exact ⟨i + 1, A2, c2, ⟨rfl, by rw [hs]; rfl, rfl, trivial⟩, ⟨hE4, by omega, by rw [hs]; exact hO4⟩, by omega⟩
    · have hiq : i = q.length := by omega
      subst hiq
      focus
        refine EW.seq ?_
        refine EW.seq ?_
        refine EW.sreg rfl ?_
        refine OX.tagc ?_
        refine OX.p rfl rfl (WantE.none rfl) ?_
        refine OX.tagc ?_
        refine OX.p rfl rfl (WantE.none rfl) ?_
        refine OX.tagc ?_
        refine OX.p rfl rfl (WantE.none rfl) ?_
        refine OX.tagc ?_
        refine OX.p rfl rfl (WantE.none rfl) ?_
        refine OX.tagn ?_
        refine qT_n ?_
        refine EW.cond rfl ?_ ?_
        intro hb
        have hb' := of_decide_eq_true hb
        (exfalso; omega)
        intro hb
        have hb' := of_decide_eq_false hb
        refine EW.exit ?_
        refine qT_exit ?_
        refine qT_exit ?_
        refine qB_hit ?_
        refine qT_n ?_
        refine EW.seq ?_
        refine EW.sreg rfl ?_
        refine OX.tagc ?_
        refine OX.p rfl rfl (WantE.none rfl) ?_
        refine OX.tagc ?_
        refine OX.p rfl rfl (WantE.none rfl) ?_
        refine OX.tagn ?_
        refine qT_n ?_
        refine EW.ret ?_
        refine rQ_ret ?_
        refine Rets.one rfl ?_
        rotate_left
      exact ⟨(hX.trans hE2).chg _, A', c', rfl, hO.mono hX.1⟩

end Go.Px.Ext_
