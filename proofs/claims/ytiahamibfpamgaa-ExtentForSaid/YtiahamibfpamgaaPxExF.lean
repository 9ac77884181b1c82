/- Steps of a proof: contracts of functions, walked. -/
import Derived.Test.YtiahamibfpamgaaPxExE
set_option linter.unusedVariables false
set_option linter.unusedSimpArgs false
set_option maxRecDepth 10000
namespace Go.Px.Ext_
open Go.Proofs Go.Px
theorem Chg.more {M N : List Nat} {a b c : Heap} (h : Chg M a b) (k : Chg N b c) (hN : ∀ m ∈ N, a.size ≤ m) : Chg M a c :=
  ⟨Nat.le_trans h.1 k.1, fun x hx hM => (k.2 x (Nat.lt_of_lt_of_le hx h.1) (fun hc => absurd (hN x hc) (by omega))).trans (h.2 x hx hM)⟩
theorem IsMap.chg {h h' : Heap} {base b : Nat} {n : Int} {A : Option Addr} {c : Nat} {hs : List Ex} {M : List Nat} (k : IsMap h base b n A c hs) (x : Chg M h h') (hb : b ∉ M) (hA : ∀ x ∈ blk A, x ∉ M) : IsMap h' base b n A c hs :=
  ⟨k.1.chg x hb, k.2.1.chg x hA, k.2.2⟩
theorem IsMap.notin {h : Heap} {base b : Nat} {n : Int} {A : Option Addr} {c : Nat} {hs : List Ex} (k : IsMap h base b n A c hs) {x : Nat} (hx : h.size ≤ x) : x ∉ b :: blk A := by
  intro hm
  rcases List.mem_cons.1 hm with rfl | hm
  · have := k.1.lt; omega
  · have := k.2.1.blk_lt x hm; omega
theorem idxF_cases {α : Type} [Inhabited α] (p : α → Bool) (xs : List α) : idxF p xs = -1 ∧ (∀ x ∈ xs, p x = false) ∨ ∃ k : Nat, k < xs.length ∧ idxF p xs = k ∧ p (ix xs k) = true ∧ ∀ j : Nat, j < k → p (ix xs j) = false := by
  unfold idxF
  cases h : xs.findIdx? p with
  | none => exact .inl ⟨rfl, fun x hx => by simpa using List.findIdx?_eq_none_iff.1 h x hx⟩
  | some i =>
    obtain ⟨h1, h2, h3⟩ := List.findIdx?_eq_some_iff_getElem.1 h
    refine .inr ⟨i, h1, rfl, by rw [ix_eq h1]; exact h2, fun j hj => ?_⟩
    rw [ix_eq (by omega)]
    simpa using h3 j hj
def aF (hs : List Ex) (count : Int) : Int := idxF (fun x => decide (count ≤ x.count)) hs
theorem alloc_no (h : Heap) (p : Value) (count : Int) (g : Bool) (hg : ∀ h1, Ext h h1 → FQ Try.prog 23 [p] h1 (.bool g)) (hb : g = false ∨ count < 1) : FG Try.prog 11 [p, .int .i64 count] h (.tuple #[exV ⟨0, 0⟩, .int .i64 1]) := by
  refine FC.of_EW (fun a w => Try.call11 a w) Try.func11 rfl rfl fun s h1 hX => ?_
  have hF := ((Know.nil h1).since (Ext.refl h1)).since hX
  cases g with
  | false =>
    focus
      refine EW.seq ?_
      refine EW.sreg rfl ?_
      refine OX.tagc ?_
      (refine OX.gr rfl rfl (WantE.none rfl) (Gr.boxF rfl rfl ?_); intro b_ h_ hb_ hE hB; have hz_ := hE.1; replace hF := (hF.up hE).blk hB)
      refine OX.tagc ?_
      (refine OX.gr rfl rfl (WantE.none rfl) (Gr.allocF rfl rfl ?_); intro b_ h_ hb_ hE hB; have hz_ := hE.1; have hy_ := hb_; have hAlc := And.intro hb_ (And.intro hE hB); clear hE hB)
      refine OX.tagc ?_
      refine OX.p rfl rfl (WantE.none rfl) ?_
      refine OX.tagn ?_
      refine qT_n ?_
      refine EW.seq ?_
      refine EW.seq ?_
      refine EW.sreg rfl ?_
      refine OX.tagc ?_
      refine OX.qa rfl (WantE.none rfl) (fun _ => Qy.copy rfl rfl) ?_
      refine OX.tagc ?_
      (replace hF := (hF.up hAlc.2.1).blk hAlc.2.2; clear hAlc)
      refine OX.q rfl (by first | exact WantE.none rfl | exact WantE.yes rfl rfl rfl (by first | assumption | rfl | exact decide_eq_true rfl)) (Qy.call rfl rfl (fun h1 hE => hg _ (((by first | exact hF.out.1 | exact hF.out.2.1 | exact hF.out.2.2.1 | exact hF.out.2.2.2.1 | exact hF.out.2.2.2.2.1 | exact hF.out.2.2.2.2.2.1 | exact hF.out.2.2.2.2.2.2.1 | exact hF.out.2.2.2.2.2.2.2.1 | exact hF.out.2.2.2.2.2.2.2.2.1 | assumption) : Ext h _).trans hE))) ?_
      refine OX.tagc ?_
      refine OX.p rfl rfl (WantE.none rfl) ?_
      refine OX.tagc ?_
      refine OX.p rfl rfl (WantE.none rfl) ?_
      refine OX.tagc ?_
      refine OX.sk rfl (WantE.no rfl rfl rfl rfl) ?_
      refine OX.tagc ?_
      refine OX.sk rfl (WantE.no rfl rfl rfl rfl) ?_
      refine OX.tagc ?_
      refine OX.q rfl (WantE.none rfl) (Qy.pick_tb rfl rfl rfl rfl) ?_
      refine OX.tagn ?_
      refine qT_n ?_
      refine EW.cond_t rfl rfl ?_
      refine EW.seq ?_
      refine EW.sreg rfl ?_
      refine OX.tagc ?_
      refine OX.q rfl (WantE.none rfl) (Qy.buildF rfl rfl) ?_
      refine OX.tagc ?_
      rotate_left
    refine OX.ac0 rfl rfl (WantE.none rfl) (Runs.storeF rfl rfl rfl rfl rfl hF.out.1 rfl rfl rfl ?_)
    intro h5 hC5 hB5
    have hX5 : Ext h1 h5 := Chg.fresh (by first | exact hF.out.1 | exact hF.out.2.1 | exact hF.out.2.2.1 | exact hF.out.2.2.2.1 | exact hF.out.2.2.2.2.1 | exact hF.out.2.2.2.2.2.1 | exact hF.out.2.2.2.2.2.2.1 | exact hF.out.2.2.2.2.2.2.2.1 | exact hF.out.2.2.2.2.2.2.2.2.1 | assumption) hC5 (by intro m hm; rw [List.mem_singleton] at hm; subst hm; omega)
    replace hF := (((Know.nil h1).since (Ext.refl h1)).up hX5).blk hB5
    focus
      refine OX.tagc ?_
      refine OX.p rfl rfl (WantE.none rfl) ?_
      refine OX.tagn ?_
      refine qT_n ?_
      refine EW.ret ?_
      refine qT_ret ?_
      refine rQ_ret ?_
      rotate_left
    refine Rets.gen2 rfl ⟨_, rfl, .inl ⟨rfl, _, rfl, Blk.at0 hF.out.1, rfl⟩⟩ rfl ?_
    exact ⟨(hX.trans hX5).chg _, rfl⟩
  | true =>
    have hb2 : count < 1 := by simpa using hb
    focus
      refine EW.seq ?_
      refine EW.sreg rfl ?_
      refine OX.tagc ?_
      (refine OX.gr rfl rfl (WantE.none rfl) (Gr.boxF rfl rfl ?_); intro b_ h_ hb_ hE hB; have hz_ := hE.1; replace hF := (hF.up hE).blk hB)
      refine OX.tagc ?_
      (refine OX.gr rfl rfl (WantE.none rfl) (Gr.allocF rfl rfl ?_); intro b_ h_ hb_ hE hB; have hz_ := hE.1; have hy_ := hb_; have hAlc := And.intro hb_ (And.intro hE hB); clear hE hB)
      refine OX.tagc ?_
      refine OX.p rfl rfl (WantE.none rfl) ?_
      refine OX.tagn ?_
      refine qT_n ?_
      refine EW.seq ?_
      refine EW.seq ?_
      refine EW.sreg rfl ?_
      refine OX.tagc ?_
      refine OX.qa rfl (WantE.none rfl) (fun _ => Qy.copy rfl rfl) ?_
      refine OX.tagc ?_
      (replace hF := (hF.up hAlc.2.1).blk hAlc.2.2; clear hAlc)
      refine OX.q rfl (by first | exact WantE.none rfl | exact WantE.yes rfl rfl rfl (by first | assumption | rfl | exact decide_eq_true rfl)) (Qy.call rfl rfl (fun h1 hE => hg _ (((by first | exact hF.out.1 | exact hF.out.2.1 | exact hF.out.2.2.1 | exact hF.out.2.2.2.1 | exact hF.out.2.2.2.2.1 | exact hF.out.2.2.2.2.2.1 | exact hF.out.2.2.2.2.2.2.1 | exact hF.out.2.2.2.2.2.2.2.1 | exact hF.out.2.2.2.2.2.2.2.2.1 | assumption) : Ext h _).trans hE))) ?_
      refine OX.tagc ?_
      refine OX.p rfl rfl (WantE.none rfl) ?_
      refine OX.tagc ?_
      refine OX.p rfl rfl (WantE.none rfl) ?_
      refine OX.tagc ?_
      refine OX.q rfl (WantE.yes rfl rfl rfl rfl) (Qy.load1 rfl rfl rfl (Blk.cell hF.out.2.1 rfl rfl)) ?_
      refine OX.tagc ?_
      refine OX.p rfl rfl (WantE.yes rfl rfl rfl rfl) ?_
      refine OX.tagc ?_
      refine OX.q rfl (WantE.none rfl) (Qy.pick_fb rfl rfl rfl rfl) ?_
      refine OX.tagn ?_
      refine qT_n ?_
      refine EW.cond rfl ?_ ?_
      intro hb
      have hb' := of_decide_eq_true hb
      refine EW.seq ?_
      refine EW.sreg rfl ?_
      refine OX.tagc ?_
      refine OX.q rfl (WantE.none rfl) (Qy.buildF rfl rfl) ?_
      refine OX.tagc ?_
      rotate_left
      intro hb
      have hb' := of_decide_eq_false hb
      (exfalso; omega)
    refine OX.ac0 rfl rfl (WantE.none rfl) (Runs.storeF rfl rfl rfl rfl rfl hF.out.1 rfl rfl rfl ?_)
    intro h5 hC5 hB5
    have hX5 : Ext h1 h5 := Chg.fresh (by first | exact hF.out.1 | exact hF.out.2.1 | exact hF.out.2.2.1 | exact hF.out.2.2.2.1 | exact hF.out.2.2.2.2.1 | exact hF.out.2.2.2.2.2.1 | exact hF.out.2.2.2.2.2.2.1 | exact hF.out.2.2.2.2.2.2.2.1 | exact hF.out.2.2.2.2.2.2.2.2.1 | assumption) hC5 (by intro m hm; rw [List.mem_singleton] at hm; subst hm; omega)
    replace hF := (((Know.nil h1).since (Ext.refl h1)).up hX5).blk hB5
    focus
      refine OX.tagc ?_
      refine OX.p rfl rfl (WantE.none rfl) ?_
      refine OX.tagn ?_
      refine qT_n ?_
      refine EW.ret ?_
      refine qT_ret ?_
      refine rQ_ret ?_
      rotate_left
    refine Rets.gen2 rfl ⟨_, rfl, .inl ⟨rfl, _, rfl, Blk.at0 hF.out.1, rfl⟩⟩ rfl ?_
    exact ⟨(hX.trans hX5).chg _, rfl⟩
theorem alloc_full (h : Heap) (base b : Nat) (n : Int) (A : Option Addr) (c : Nat) (hs : List Ex) (hm : IsMap h base b n A c hs) (hn : 0 < n) (hl : hs.length ≤ 1000000) (count : Int) (hc : 1 ≤ count) (hf : aF hs count = -1) :
    FG Try.prog 11 [.pointer (some ⟨b, 0, none⟩), .int .i64 count] h (.tuple #[exV ⟨0, 0⟩, .int .i64 2]) := by
  refine FC.of_EW (fun a w => Try.call11 a w) Try.func11 rfl rfl fun s h1 hX => ?_
  have hF := ((((Know.nil h1).since (Ext.refl h1)).since hX).rd (hm.2.1.rd.ext hX)).blk (hm.1.ext hX)
  have hq : ∀ (h1 : Heap) (pb : Nat), Rd h1 A hs → Blk h1 pb 3 #[.int .i64 count] → FQ Try.prog 24 [.slice A hs.length c, .func (.func 25) #[] #[.pointer (some ⟨pb, 0, none⟩)]] h1 (.int .i64 (-1)) := by
    intro h1 pb hr hb
    rw [← hf]
    exact indexFunc_c h1 A c hs hr (by omega) _ [.pointer (some ⟨pb, 0, none⟩)] _ (fun h2 hE x hx => ac1_c h2 pb x count (hb.ext hE))
  focus
    refine EW.seq ?_
    refine EW.sreg rfl ?_
    refine OX.tagc ?_
    (refine OX.gr rfl rfl (WantE.none rfl) (Gr.boxF rfl rfl ?_); intro b_ h_ hb_ hE hB; have hz_ := hE.1; replace hF := (hF.up hE).blk hB)
    refine OX.tagc ?_
    (refine OX.gr rfl rfl (WantE.none rfl) (Gr.allocF rfl rfl ?_); intro b_ h_ hb_ hE hB; have hz_ := hE.1; have hy_ := hb_; have hAlc := And.intro hb_ (And.intro hE hB); clear hE hB)
    refine OX.tagc ?_
    refine OX.p rfl rfl (WantE.none rfl) ?_
    refine OX.tagn ?_
    refine qT_n ?_
    refine EW.seq ?_
    refine EW.seq ?_
    refine EW.sreg rfl ?_
    refine OX.tagc ?_
    refine OX.p rfl rfl (WantE.none rfl) ?_
    refine OX.tagc ?_
    (replace hF := (hF.up hAlc.2.1).blk hAlc.2.2; clear hAlc)
    refine OX.q rfl (by first | exact WantE.none rfl | exact WantE.yes rfl rfl rfl (by first | assumption | rfl | exact decide_eq_true rfl)) (Qy.call rfl rfl (fun h1 hE => given_y _ b n _ (Blk.ext (by first | exact hF.out.1 | exact hF.out.2.1 | exact hF.out.2.2.1 | exact hF.out.2.2.2.1 | exact hF.out.2.2.2.2.1 | exact hF.out.2.2.2.2.2.1 | exact hF.out.2.2.2.2.2.2.1 | exact hF.out.2.2.2.2.2.2.2.1 | exact hF.out.2.2.2.2.2.2.2.2.1 | assumption) hE) hn)) ?_
    refine OX.tagc ?_
    refine OX.p rfl rfl (WantE.none rfl) ?_
    refine OX.tagc ?_
    refine OX.p rfl rfl (WantE.none rfl) ?_
    refine OX.tagc ?_
    refine OX.q rfl (WantE.yes rfl rfl rfl rfl) (Qy.load1 rfl rfl rfl (Blk.cell hF.out.2.1 rfl rfl)) ?_
    refine OX.tagc ?_
    refine OX.p rfl rfl (WantE.yes rfl rfl rfl rfl) ?_
    refine OX.tagc ?_
    refine OX.q rfl (WantE.none rfl) (Qy.pick_fb rfl rfl rfl rfl) ?_
    refine OX.tagn ?_
    refine qT_n ?_
    refine EW.cond rfl ?_ ?_
    intro hb
    have hb' := of_decide_eq_true hb
    (exfalso; omega)
    intro hb
    have hb' := of_decide_eq_false hb
    refine EW.skip ?_
    refine qT_n ?_
    refine EW.seq ?_
    refine EW.sreg rfl ?_
    refine OX.tagc ?_
    refine OX.p rfl rfl (WantE.none rfl) ?_
    refine OX.tagc ?_
    refine OX.p rfl rfl (WantE.none rfl) ?_
    refine OX.tagc ?_
    refine OX.p rfl rfl (WantE.none rfl) ?_
    refine OX.tagc ?_
    refine OX.q rfl (WantE.none rfl) (Qy.load1 rfl rfl rfl (Blk.cell hF.out.2.2.1 rfl rfl)) ?_
    refine OX.tagc ?_
    refine OX.q rfl (WantE.none rfl) (Qy.makeFuncF rfl rfl) ?_
    refine OX.tagc ?_
    refine OX.q rfl (by first | exact WantE.none rfl | exact WantE.yes rfl rfl rfl (by first | assumption | rfl | exact decide_eq_true rfl)) (Qy.call rfl rfl (fun h1 hE => hq _ _ (Rd.ext (by first | exact hF.out.1 | exact hF.out.2.1 | exact hF.out.2.2.1 | exact hF.out.2.2.2.1 | exact hF.out.2.2.2.2.1 | exact hF.out.2.2.2.2.2.1 | exact hF.out.2.2.2.2.2.2.1 | exact hF.out.2.2.2.2.2.2.2.1 | exact hF.out.2.2.2.2.2.2.2.2.1 | assumption) hE) (Blk.ext (by first | exact hF.out.1 | exact hF.out.2.1 | exact hF.out.2.2.1 | exact hF.out.2.2.2.1 | exact hF.out.2.2.2.2.1 | exact hF.out.2.2.2.2.2.1 | exact hF.out.2.2.2.2.2.2.1 | exact hF.out.2.2.2.2.2.2.2.1 | exact hF.out.2.2.2.2.2.2.2.2.1 | assumption) hE))) ?_
    refine OX.tagc ?_
    refine OX.p rfl rfl (WantE.none rfl) ?_
    refine OX.tagn ?_
    refine qT_n ?_
    refine EW.seq ?_
    refine EW.seq ?_
    refine EW.sreg rfl ?_
    refine OX.tagc ?_
    refine OX.p rfl rfl (WantE.none rfl) ?_
    refine OX.tagc ?_
    refine OX.p rfl rfl (WantE.none rfl) ?_
    refine OX.tagn ?_
    refine qT_n ?_
    refine EW.cond_t rfl rfl ?_
    refine EW.seq ?_
    refine EW.sreg rfl ?_
    refine OX.tagc ?_
    refine OX.q rfl (WantE.none rfl) (Qy.buildF rfl rfl) ?_
    refine OX.tagc ?_
    rotate_left
  refine OX.ac0 rfl rfl (WantE.none rfl) (Runs.storeF rfl rfl rfl rfl rfl hF.out.1 rfl rfl rfl ?_)
  intro h5 hC5 hB5
  have hX5 : Ext h1 h5 := Chg.fresh (by first | exact hF.out.1 | exact hF.out.2.1 | exact hF.out.2.2.1 | exact hF.out.2.2.2.1 | exact hF.out.2.2.2.2.1 | exact hF.out.2.2.2.2.2.1 | exact hF.out.2.2.2.2.2.2.1 | exact hF.out.2.2.2.2.2.2.2.1 | exact hF.out.2.2.2.2.2.2.2.2.1 | assumption) hC5 (by intro m hm; rw [List.mem_singleton] at hm; subst hm; omega)
  replace hF := (((Know.nil h1).since (Ext.refl h1)).up hX5).blk hB5
  focus
    refine OX.tagc ?_
    refine OX.p rfl rfl (WantE.none rfl) ?_
    refine OX.tagn ?_
    refine qT_n ?_
    refine EW.ret ?_
    refine qT_ret ?_
    refine rQ_ret ?_
    rotate_left
  refine Rets.gen2 rfl ⟨_, rfl, .inl ⟨rfl, _, rfl, Blk.at0 hF.out.1, rfl⟩⟩ rfl ?_
  exact ⟨(hX.trans hX5).chg _, rfl⟩
theorem alloc_c (h : Heap) (base b : Nat) (n : Int) (A : Option Addr) (c : Nat) (hs : List Ex) (hm : IsMap h base b n A c hs) (hn : 0 < n) (hl : hs.length ≤ 1000000) (count : Int) (hc : 1 ≤ count ∧ count ≤ 1000000) (k : Nat) (hf : aF hs count = k) (hk : k < hs.length)
    (hfit : Fit (ix hs k)) (hbase : base ≤ h.size) :
    FC Try.prog 11 [.pointer (some ⟨b, 0, none⟩), .int .i64 count] h (b :: blk A) (fun v h' => v = .tuple #[exV ⟨(ix hs k).first, count⟩, .int .i64 0] ∧ ∃ A' c', IsMap h' base b n A' c' (cutH hs k ⟨(ix hs k).first, count⟩) ∧ Moved h A A') := by
  refine FC.of_EW (fun a w => Try.call11 a w) Try.func11 rfl rfl fun s h1 hX => ?_
  have hF := ((((Know.nil h1).since (Ext.refl h1)).since hX).rd (hm.2.1.rd.ext hX)).blk (hm.1.ext hX)
  have hq : ∀ (h1 : Heap) (pb : Nat), Rd h1 A hs → Blk h1 pb 3 #[.int .i64 count] → FQ Try.prog 24 [.slice A hs.length c, .func (.func 25) #[] #[.pointer (some ⟨pb, 0, none⟩)]] h1 (.int .i64 k) := by
    intro h1 pb hr hb
    rw [← hf]
    exact indexFunc_c h1 A c hs hr (by omega) _ [.pointer (some ⟨pb, 0, none⟩)] _ (fun h2 hE x hx => ac1_c h2 pb x count (hb.ext hE))
  have hs0 := hX.1
  focus
    refine EW.seq ?_
    refine EW.sreg rfl ?_
    refine OX.tagc ?_
    (refine OX.gr rfl rfl (WantE.none rfl) (Gr.boxF rfl rfl ?_); intro b_ h_ hb_ hE hB; have hz_ := hE.1; replace hF := (hF.up hE).blk hB)
    refine OX.tagc ?_
    (refine OX.gr rfl rfl (WantE.none rfl) (Gr.allocF rfl rfl ?_); intro b_ h_ hb_ hE hB; have hz_ := hE.1; have hy_ := hb_; have hAlc := And.intro hb_ (And.intro hE hB); clear hE hB)
    refine OX.tagc ?_
    refine OX.p rfl rfl (WantE.none rfl) ?_
    refine OX.tagn ?_
    refine qT_n ?_
    refine EW.seq ?_
    refine EW.seq ?_
    refine EW.sreg rfl ?_
    refine OX.tagc ?_
    refine OX.p rfl rfl (WantE.none rfl) ?_
    refine OX.tagc ?_
    (replace hF := (hF.up hAlc.2.1).blk hAlc.2.2; clear hAlc)
    refine OX.q rfl (by first | exact WantE.none rfl | exact WantE.yes rfl rfl rfl (by first | assumption | rfl | exact decide_eq_true rfl)) (Qy.call rfl rfl (fun h1 hE => given_y _ b n _ (Blk.ext (by first | exact hF.out.1 | exact hF.out.2.1 | exact hF.out.2.2.1 | exact hF.out.2.2.2.1 | exact hF.out.2.2.2.2.1 | exact hF.out.2.2.2.2.2.1 | exact hF.out.2.2.2.2.2.2.1 | exact hF.out.2.2.2.2.2.2.2.1 | exact hF.out.2.2.2.2.2.2.2.2.1 | assumption) hE) hn)) ?_
    refine OX.tagc ?_
    refine OX.p rfl rfl (WantE.none rfl) ?_
    refine OX.tagc ?_
    refine OX.p rfl rfl (WantE.none rfl) ?_
    refine OX.tagc ?_
    refine OX.q rfl (WantE.yes rfl rfl rfl rfl) (Qy.load1 rfl rfl rfl (Blk.cell hF.out.2.1 rfl rfl)) ?_
    refine OX.tagc ?_
    refine OX.p rfl rfl (WantE.yes rfl rfl rfl rfl) ?_
    refine OX.tagc ?_
    refine OX.q rfl (WantE.none rfl) (Qy.pick_fb rfl rfl rfl rfl) ?_
    refine OX.tagn ?_
    refine qT_n ?_
    refine EW.cond rfl ?_ ?_
    intro hb
    have hb' := of_decide_eq_true hb
    (exfalso; omega)
    intro hb
    have hb' := of_decide_eq_false hb
    refine EW.skip ?_
    refine qT_n ?_
    refine EW.seq ?_
    refine EW.sreg rfl ?_
    refine OX.tagc ?_
    refine OX.p rfl rfl (WantE.none rfl) ?_
    refine OX.tagc ?_
    refine OX.p rfl rfl (WantE.none rfl) ?_
    refine OX.tagc ?_
    refine OX.p rfl rfl (WantE.none rfl) ?_
    refine OX.tagc ?_
    refine OX.q rfl (WantE.none rfl) (Qy.load1 rfl rfl rfl (Blk.cell hF.out.2.2.1 rfl rfl)) ?_
    refine OX.tagc ?_
    refine OX.q rfl (WantE.none rfl) (Qy.makeFuncF rfl rfl) ?_
    refine OX.tagc ?_
    refine OX.q rfl (by first | exact WantE.none rfl | exact WantE.yes rfl rfl rfl (by first | assumption | rfl | exact decide_eq_true rfl)) (Qy.call rfl rfl (fun h1 hE => hq _ _ (Rd.ext (by first | exact hF.out.1 | exact hF.out.2.1 | exact hF.out.2.2.1 | exact hF.out.2.2.2.1 | exact hF.out.2.2.2.2.1 | exact hF.out.2.2.2.2.2.1 | exact hF.out.2.2.2.2.2.2.1 | exact hF.out.2.2.2.2.2.2.2.1 | exact hF.out.2.2.2.2.2.2.2.2.1 | assumption) hE) (Blk.ext (by first | exact hF.out.1 | exact hF.out.2.1 | exact hF.out.2.2.1 | exact hF.out.2.2.2.1 | exact hF.out.2.2.2.2.1 | exact hF.out.2.2.2.2.2.1 | exact hF.out.2.2.2.2.2.2.1 | exact hF.out.2.2.2.2.2.2.2.1 | exact hF.out.2.2.2.2.2.2.2.2.1 | assumption) hE))) ?_
    refine OX.tagc ?_
    refine OX.p rfl rfl (WantE.none rfl) ?_
    refine OX.tagn ?_
    refine qT_n ?_
    refine EW.seq ?_
    refine EW.seq ?_
    refine EW.sreg rfl ?_
    refine OX.tagc ?_
    refine OX.p rfl rfl (WantE.none rfl) ?_
    refine OX.tagc ?_
    refine OX.p rfl rfl (WantE.none rfl) ?_
    refine OX.tagn ?_
    refine qT_n ?_
    refine EW.cond_f rfl rfl ?_
    refine EW.skip ?_
    refine qT_n ?_
    refine EW.seq ?_
    (refine EW.drawT ord11 tab11 rfl (by kernel_rfl) (by kernel_rfl) (by kernel_rfl) ?_)
    refine OX.p rfl rfl (WantE.none rfl) ?_
    refine OX.p rfl rfl (WantE.none rfl) ?_
    refine OX.p rfl rfl (WantE.none rfl) ?_
    refine OX.q rfl (WantE.none rfl) (Qy.load1 rfl rfl rfl (Blk.cell hF.out.2.2.1 rfl rfl)) ?_
    refine OX.p rfl rfl (WantE.none rfl) ?_
    refine OX.q rfl (WantE.none rfl) (Qy.indexRd rfl rfl rfl rfl rfl hF.out.2.2.2.1 rfl (by omega)) ?_
    refine OX.p rfl rfl (WantE.none rfl) ?_
    refine OX.q rfl (WantE.none rfl) (Qy.loadEl rfl rfl rfl hF.out.2.2.2.1 rfl (by omega) rfl) ?_
    refine OX.q rfl (WantE.none rfl) (Qy.load1 rfl rfl rfl (Blk.cell hF.out.2.1 rfl rfl)) ?_
    refine OX.q rfl (WantE.none rfl) (Qy.buildF rfl rfl) ?_
    (refine OX.gr rfl rfl (WantE.none rfl) (Gr.allocF rfl rfl ?_); intro b_ h_ hb_ hE hB; have hz_ := hE.1; have hy_ := hb_; have hAlc := And.intro hb_ (And.intro hE hB); clear hE hB)
    (refine OX.ac0 rfl rfl (WantE.none rfl) (Runs.storeF rfl rfl rfl rfl rfl hAlc.2.2 rfl rfl rfl ?_); intro h_ hC hB; replace hF := (hF.up (Chg.fresh hAlc.2.1 hC (by simpa using hAlc.1))).blk hB; clear hAlc hC hB)
    refine OX.nil ?_
    refine qT_n ?_
    refine EW.seq ?_
    refine EW.sreg rfl ?_
    refine OX.tagc ?_
    refine OX.p rfl rfl (WantE.none rfl) ?_
    refine OX.tagc ?_
    refine OX.p rfl rfl (WantE.none rfl) ?_
    refine OX.tagc ?_
    refine OX.q rfl (WantE.none rfl) (Qy.loadk rfl rfl rfl rfl (Blk.at0 hF.out.1)) ?_
    refine OX.tagc ?_
    rotate_left
  refine OX.ac rfl rfl (WantE.none rfl) (Runs.call (M := b :: blk A) (R := fun h2 v h' => ∃ A' c', IsMap h' base b n A' c' (cutH hs k ⟨(ix hs k).first, count⟩) ∧ Moved h2 A A') rfl rfl (fun h2 hE => cuts_c h2 base b n A c hs k ⟨(ix hs k).first, count⟩ (hm.ext (((by first | exact hF.out.1 | exact hF.out.2.1 | exact hF.out.2.2.1 | exact hF.out.2.2.2.1 | exact hF.out.2.2.2.2.1 | exact hF.out.2.2.2.2.2.1 | exact hF.out.2.2.2.2.2.2.1 | exact hF.out.2.2.2.2.2.2.2.1 | exact hF.out.2.2.2.2.2.2.2.2.1 | assumption) : Ext h _).trans hE)) hk hfit ⟨hfit.1, by show -1000000 ≤ count ∧ count ≤ 1000000; omega⟩ (by have := (((by first | exact hF.out.1 | exact hF.out.2.1 | exact hF.out.2.2.1 | exact hF.out.2.2.2.1 | exact hF.out.2.2.2.2.1 | exact hF.out.2.2.2.2.2.1 | exact hF.out.2.2.2.2.2.2.1 | exact hF.out.2.2.2.2.2.2.2.1 | exact hF.out.2.2.2.2.2.2.2.2.1 | assumption) : Ext h _).trans hE).1; omega) hl) ?_)
  rintro h7 v h8 hE7 hC8 ⟨A', c', hM8, hMv⟩
  have hX7 : Ext h h7 := ((by first | exact hF.out.1 | exact hF.out.2.1 | exact hF.out.2.2.1 | exact hF.out.2.2.2.1 | exact hF.out.2.2.2.2.1 | exact hF.out.2.2.2.2.2.1 | exact hF.out.2.2.2.2.2.2.1 | exact hF.out.2.2.2.2.2.2.2.1 | exact hF.out.2.2.2.2.2.2.2.2.1 | assumption) : Ext h _).trans hE7
  have hB7 := (hF.out.1.ext hE7).chg hC8 (hm.notin (by omega))
  have hB4 := (hF.out.2.1.ext hE7).chg hC8 (hm.notin (by omega))
  have hl4 := (hF.out.2.1.ext hE7).lt
  replace hF := ((Know.nil h8).blk hB4).blk hB7
  focus
    refine OX.tagn ?_
    refine qT_n ?_
    refine EW.seq ?_
    refine EW.sreg rfl ?_
    refine OX.tagc ?_
    refine OX.q rfl (WantE.none rfl) (Qy.loadk rfl rfl rfl rfl (Blk.at0 hF.out.1)) ?_
    refine OX.tagc ?_
    rotate_left
  refine OX.ac0 rfl rfl (WantE.none rfl) (Runs.storeF rfl rfl rfl rfl rfl hF.out.2.1 rfl rfl rfl ?_)
  intro h9 hC9 hB9
  replace hF := (Know.nil h9).blk hB9
  focus
    refine OX.tagc ?_
    refine OX.p rfl rfl (WantE.none rfl) ?_
    refine OX.tagn ?_
    refine qT_n ?_
    refine EW.ret ?_
    refine rQ_ret ?_
    rotate_left
  refine Rets.gen2 rfl ⟨_, rfl, .inl ⟨rfl, _, rfl, Blk.at0 hF.out.1, rfl⟩⟩ rfl ?_
  refine ⟨Chg.more (Chg.of_ext_left hX7 hC8) hC9 (by intro m hm; rw [List.mem_singleton] at hm; subst hm; omega), rfl, A', c', hM8.chg hC9 ?_ ?_, ?_⟩
  · have := hm.1.lt; rw [List.mem_singleton]; omega
  · intro x hx; rw [List.mem_singleton]; rcases hMv with hMv | hMv
    · rw [hMv] at hx; have := hm.2.1.blk_lt x hx; omega
    · have := hMv x hx; omega
  · rcases hMv with hMv | hMv
    · exact .inl hMv
    · exact .inr fun x hx => Nat.le_trans hX7.1 (hMv x hx)
end Go.Px.Ext_
