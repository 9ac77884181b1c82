/- Steps of a proof: contracts of functions, walked. -/
import Derived.Test.YtiahamibfpamgaaPxExG
set_option linter.unusedVariables false
set_option linter.unusedSimpArgs false
set_option maxRecDepth 10000
namespace Go.Px.Ext_
open Go.Proofs Go.Px
theorem replace_i (h : Heap) (base : Nat) (A : Option Addr) (c : Nat) (xs : List Ex) (i j : Nat) (iI jI : Int) (V : Option Addr) (vc : Nat) (ys : List Ex) (hiI : iI = (i : Int)) (hjI : jI = (j : Int)) (own : Own h base 35 A c xs) (rd : Own h 0 35 V vc ys)
    (hne : ∀ b ∈ blk A, b ∉ blk V) (hij : i ≤ j) (hj : j ≤ xs.length) (hbase : base ≤ h.size) (hl : xs.length + ys.length ≤ 4294967296) :
    FC Try.prog 35 [.slice A xs.length c, .int .i64 iI, .int .i64 jI, .slice V ys.length vc] h (blk A) (RowPost h base 35 A (xs.take i ++ ys ++ xs.drop j)) := by
  subst hiI; subst hjI; exact replace_c h base A c xs i j V vc ys own rd hne hij hj hbase hl
def Sm (x : Ex) : Prop := 0 ≤ x.first ∧ x.first ≤ 4096 ∧ 0 ≤ x.count ∧ x.count ≤ 4096
theorem Sm.fit {x : Ex} (h : Sm x) : Fit x := by obtain ⟨_, _, _, _⟩ := h; exact ⟨by omega, by omega⟩
theorem free_no (h : Heap) (p : Value) (e : Ex) (hg : ∀ h1, Ext h h1 → FQ Try.prog 30 [p, exV e] h1 (.bool false)) : FG Try.prog 13 [p, exV e] h (.int .i64 1) := by
  refine FC.of_EW (fun a w => Try.call13 a w) Try.func13 rfl rfl fun s h1 hX => ?_
  have hF := (Know.nil h1).since hX
  focus
    refine EW.seq ?_
    refine EW.sreg rfl ?_
    refine OX.tagc ?_
    (refine OX.gr rfl rfl (WantE.none rfl) (Gr.boxF rfl rfl ?_); intro b_ h_ hb_ hE hB; have hz_ := hE.1; replace hF := (hF.up hE).blk hB)
    refine OX.tagc ?_
    refine OX.p rfl rfl (WantE.none rfl) ?_
    refine OX.tagn ?_
    refine qT_n ?_
    refine EW.seq ?_
    refine EW.seq ?_
    refine EW.sreg rfl ?_
    refine OX.tagc ?_
    refine OX.qa rfl (WantE.none rfl) (fun _ => Qy.copy rfl rfl) ?_
    refine OX.tagc ?_
    refine OX.q rfl (WantE.none rfl) (Qy.loadk rfl rfl rfl rfl (Blk.at0 hF.out.1)) ?_
    refine OX.tagc ?_
    refine OX.q rfl (by first | exact WantE.none rfl | exact WantE.yes rfl rfl rfl (by first | assumption | rfl | exact decide_eq_true rfl)) (Qy.call rfl rfl (fun h1 hE => hg _ (((by first | exact hF.out.1 | exact hF.out.2.1 | exact hF.out.2.2.1 | exact hF.out.2.2.2.1 | exact hF.out.2.2.2.2.1 | exact hF.out.2.2.2.2.2.1 | exact hF.out.2.2.2.2.2.2.1 | exact hF.out.2.2.2.2.2.2.2.1 | exact hF.out.2.2.2.2.2.2.2.2.1 | assumption) : Ext h _).trans hE))) ?_
    refine OX.tagc ?_
    refine OX.p rfl rfl (WantE.none rfl) ?_
    refine OX.tagn ?_
    refine qT_n ?_
    refine EW.cond_t rfl rfl ?_
    refine EW.seq ?_
    refine EW.sreg rfl ?_
    refine OX.tagc ?_
    refine OX.p rfl rfl (WantE.none rfl) ?_
    refine OX.tagn ?_
    refine qT_n ?_
    refine EW.ret ?_
    refine qT_ret ?_
    refine rQ_ret ?_
    refine Rets.one rfl ?_
    rotate_left
  exact ⟨Ext.chg (by first | exact hF.out.1 | exact hF.out.2.1 | exact hF.out.2.2.1 | exact hF.out.2.2.2.1 | exact hF.out.2.2.2.2.1 | exact hF.out.2.2.2.2.2.1 | exact hF.out.2.2.2.2.2.2.1 | exact hF.out.2.2.2.2.2.2.2.1 | exact hF.out.2.2.2.2.2.2.2.2.1 | assumption) _, rfl⟩
def oF (hs : List Ex) (e : Ex) : Bool := hs.any (fun x => decide (x.first < e.first + e.count) && decide (e.first < x.first + x.count))
theorem con_c (A : Option Addr) (c : Nat) (hs : List Ex) (e : Ex) (hl : hs.length ≤ 1000000) (hfit : ∀ x ∈ hs, Fit x) (he : Fit e) (r : Bool) (hr : oF hs e = r) (h1 : Heap) (pb : Nat) (hr1 : Rd h1 A hs) (hb : Blk h1 pb 35 #[.int .i64 e.first, .int .i64 e.count]) :
    FQ Try.prog 31 [.slice A hs.length c, .func (.func 32) #[] #[.pointer (some ⟨pb, 0, none⟩)]] h1 (.bool r) := by
  subst hr
  exact containsFunc_c h1 A c hs hr1 (by omega) _ [.pointer (some ⟨pb, 0, none⟩)] _ (fun h2 hE x hx => fc1_c h2 pb x e (hb.ext hE) (hfit x hx) he)
theorem idx2_c (A : Option Addr) (c : Nat) (hs : List Ex) (e : Ex) (hl : hs.length ≤ 1000000) (k : Int) (hk : idxF (fun x : Ex => decide (e.first < x.first)) hs = k) (h1 : Heap) (pb : Nat) (hr1 : Rd h1 A hs) (hb : Blk h1 pb 35 #[.int .i64 e.first, .int .i64 e.count]) :
    FQ Try.prog 24 [.slice A hs.length c, .func (.func 34) #[] #[.pointer (some ⟨pb, 0, none⟩)]] h1 (.int .i64 k) := by
  subst hk
  exact indexFunc_c h1 A c hs hr1 (by omega) _ [.pointer (some ⟨pb, 0, none⟩)] _ (fun h2 hE x hx => fc2_c h2 pb x e (hb.ext hE))
theorem free_none (h : Heap) (base b : Nat) (n : Int) (A : Option Addr) (c : Nat) (hs : List Ex) (hm : IsMap h base b n A c hs) (hn : 0 ≤ n ∧ n ≤ 4096) (hl : hs.length ≤ 1000000) (e : Ex) (he : mayB n e = true) (hfit : ∀ x ∈ hs, Fit x) (hf : oF hs e = true) :
    FG Try.prog 13 [.pointer (some ⟨b, 0, none⟩), exV e] h (.int .i64 3) := by
  refine FC.of_EW (fun a w => Try.call13 a w) Try.func13 rfl rfl fun s h1 hX => ?_
  have hF := (((Know.nil h1).since hX).rd (hm.2.1.rd.ext hX)).blk (hm.1.ext hX)
  have heb := mayB_fit hn he
  focus
    refine EW.seq ?_
    refine EW.sreg rfl ?_
    refine OX.tagc ?_
    (refine OX.gr rfl rfl (WantE.none rfl) (Gr.boxF rfl rfl ?_); intro b_ h_ hb_ hE hB; have hz_ := hE.1; replace hF := (hF.up hE).blk hB)
    refine OX.tagc ?_
    refine OX.p rfl rfl (WantE.none rfl) ?_
    refine OX.tagn ?_
    refine qT_n ?_
    refine EW.seq ?_
    refine EW.seq ?_
    refine EW.sreg rfl ?_
    refine OX.tagc ?_
    refine OX.p rfl rfl (WantE.none rfl) ?_
    refine OX.tagc ?_
    refine OX.q rfl (WantE.none rfl) (Qy.loadk rfl rfl rfl rfl (Blk.at0 hF.out.1)) ?_
    refine OX.tagc ?_
    refine OX.q rfl (by first | exact WantE.none rfl | exact WantE.yes rfl rfl rfl (by first | assumption | rfl | exact decide_eq_true rfl)) (Qy.call rfl rfl (fun h1 hE => may_y _ b n _ e true (Blk.ext (by first | exact hF.out.1 | exact hF.out.2.1 | exact hF.out.2.2.1 | exact hF.out.2.2.2.1 | exact hF.out.2.2.2.2.1 | exact hF.out.2.2.2.2.2.1 | exact hF.out.2.2.2.2.2.2.1 | exact hF.out.2.2.2.2.2.2.2.1 | exact hF.out.2.2.2.2.2.2.2.2.1 | assumption) hE) (by omega) he)) ?_
    refine OX.tagc ?_
    refine OX.p rfl rfl (WantE.none rfl) ?_
    refine OX.tagn ?_
    refine qT_n ?_
    refine EW.cond_f rfl rfl ?_
    refine EW.skip ?_
    refine qT_n ?_
    refine EW.seq ?_
    refine EW.seq ?_
    refine EW.sreg rfl ?_
    refine OX.tagc ?_
    refine OX.p rfl rfl (WantE.none rfl) ?_
    refine OX.tagc ?_
    refine OX.p rfl rfl (WantE.none rfl) ?_
    refine OX.tagc ?_
    refine OX.p rfl rfl (WantE.none rfl) ?_
    refine OX.tagc ?_
    refine OX.q rfl (WantE.none rfl) (Qy.load1 rfl rfl rfl (Blk.cell hF.out.2.1 rfl rfl)) ?_
    refine OX.tagc ?_
    refine OX.q rfl (WantE.none rfl) (Qy.makeFuncF rfl rfl) ?_
    refine OX.tagc ?_
    refine OX.q rfl (by first | exact WantE.none rfl | exact WantE.yes rfl rfl rfl (by first | assumption | rfl | exact decide_eq_true rfl)) (Qy.call rfl rfl (fun h1 hE => con_c A c hs e hl hfit ⟨by omega, by omega⟩ true hf _ _ (Rd.ext (by first | exact hF.out.1 | exact hF.out.2.1 | exact hF.out.2.2.1 | exact hF.out.2.2.2.1 | exact hF.out.2.2.2.2.1 | exact hF.out.2.2.2.2.2.1 | exact hF.out.2.2.2.2.2.2.1 | exact hF.out.2.2.2.2.2.2.2.1 | exact hF.out.2.2.2.2.2.2.2.2.1 | assumption) hE) (Blk.ext (by first | exact hF.out.1 | exact hF.out.2.1 | exact hF.out.2.2.1 | exact hF.out.2.2.2.1 | exact hF.out.2.2.2.2.1 | exact hF.out.2.2.2.2.2.1 | exact hF.out.2.2.2.2.2.2.1 | exact hF.out.2.2.2.2.2.2.2.1 | exact hF.out.2.2.2.2.2.2.2.2.1 | assumption) hE))) ?_
    refine OX.tagn ?_
    refine qT_n ?_
    refine EW.cond_t rfl rfl ?_
    refine EW.seq ?_
    refine EW.sreg rfl ?_
    refine OX.tagc ?_
    refine OX.p rfl rfl (WantE.none rfl) ?_
    refine OX.tagn ?_
    refine qT_n ?_
    refine EW.ret ?_
    refine qT_ret ?_
    refine rQ_ret ?_
    refine Rets.one rfl ?_
    rotate_left
  exact ⟨Ext.chg (by first | exact hF.out.1 | exact hF.out.2.1 | exact hF.out.2.2.1 | exact hF.out.2.2.2.1 | exact hF.out.2.2.2.2.1 | exact hF.out.2.2.2.2.2.1 | exact hF.out.2.2.2.2.2.2.1 | exact hF.out.2.2.2.2.2.2.2.1 | exact hF.out.2.2.2.2.2.2.2.2.1 | assumption) _, rfl⟩
/-- the hole that a freed extent makes with the one before it, and with the one behind it -/
def mL (hs : List Ex) (k : Nat) (e : Ex) : Ex := if 0 < k ∧ (ix hs ((k : Int) - 1)).first + (ix hs ((k : Int) - 1)).count = e.first then ⟨(ix hs ((k : Int) - 1)).first, (ix hs ((k : Int) - 1)).count + e.count⟩ else e
def mR (hs : List Ex) (k : Nat) (e : Ex) : Ex := if k < hs.length ∧ e.first + e.count = (ix hs (k : Int)).first then ⟨e.first, e.count + (ix hs (k : Int)).count⟩ else e
def frL (hs : List Ex) (k : Nat) (e : Ex) : Nat := if 0 < k ∧ (ix hs ((k : Int) - 1)).first + (ix hs ((k : Int) - 1)).count = e.first then k - 1 else k
def toR (hs : List Ex) (k : Nat) (e : Ex) : Nat := if k < hs.length ∧ e.first + e.count = (ix hs (k : Int)).first then k + 1 else k
def freeH (hs : List Ex) (k : Nat) (e : Ex) : List Ex := hs.take (frL hs k e) ++ [mR hs k (mL hs k e)] ++ hs.drop (toR hs k (mL hs k e))
theorem doneF {h : Heap} {base b : Nat} {n : Int} {A : Option Addr} {c : Nat} {hs : List Ex} {k : Nat} {e : Ex} {i j : Nat} {R : Ex} (hi : i = frL hs k e) (hj : j = toR hs k (mL hs k e)) (hR : R = mR hs k (mL hs k e)) (hm : IsMap h base b n A c (hs.take i ++ [R] ++ hs.drop j)) : IsMap h base b n A c (freeH hs k e) := by
  subst hi; subst hj; subst hR; exact hm
end Go.Px.Ext_
