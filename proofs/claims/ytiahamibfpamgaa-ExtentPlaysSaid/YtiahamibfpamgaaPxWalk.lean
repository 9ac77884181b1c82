/- Rules as the walk uses them: what is made and stored, spelled out; results in memory; structs held against each other. No program of its own. -/
import Derived.Test.YtiahamibfpamgaaPxMore
set_option linter.unusedVariables false
set_option linter.unusedSimpArgs false
namespace Go.Px
open Enc (enc)
def cellsV (v : Value) : Option (List Value) := (forceV v).bind fun v => forceL v.cells.toList
theorem cellsV_eq {v : Value} {cl : List Value} (h : cellsV v = some cl) : v.cells = cl.toArray := by
  obtain ⟨u, hu, hf⟩ := Option.bind_eq_some_iff.1 h
  rw [forceV_eq hu]
  apply Array.ext'
  rw [forceL_eq hf]
section
variable {P : Program} {ρ : Operand → Value} {o : Oper} {s : World} {h : Heap}
theorem Gr.boxF {t : TypeId} {x : Operand} {cl : List Value} {K : Value → Heap → Prop} (ho : o.op = .box t x) (hx : cellsV (ρ x) = some cl)
    (k : ∀ b h', h.size ≤ b → Ext h h' → Blk h' b t cl.toArray → K (.pointer (some ⟨b, 0, none⟩)) h') : Gr P ρ o s h K :=
  Gr.box ho rfl fun b h' h1 h2 h3 => k b h' h1 h2 (by rw [cellsV_eq hx] at h3; exact h3)
theorem Gr.allocF {t : TypeId} {cl : List Value} {K : Value → Heap → Prop} (ho : o.op = .alloc t) (hz : ((P.info? t).bind (·.zero)).bind cellsV = some cl)
    (k : ∀ b h', h.size ≤ b → Ext h h' → Blk h' b t cl.toArray → K (.pointer (some ⟨b, 0, none⟩)) h') : Gr P ρ o s h K := by
  obtain ⟨v, hv, hc⟩ := Option.bind_eq_some_iff.1 hz
  exact Gr.alloc ho hv fun b h' h1 h2 h3 => k b h' h1 h2 (by rw [cellsV_eq hc] at h3; exact h3)
theorem putAt_setL (cs : Array Value) (off : Nat) (vs : List Value) (hl : off + vs.length ≤ cs.size) : (putAt cs off vs).toList = setL cs.toList off vs := by
  unfold putAt
  have hs : ∀ (a : List Value) (off : Nat) (vs : List Value), off + vs.length ≤ a.length → a.take off ++ vs ++ a.drop (off + vs.length) = setL a off vs := by
    intro a
    induction a with
    | nil => intro off vs hl; simp at hl; obtain ⟨rfl, rfl⟩ := hl; simp [setL]
    | cons c a ih =>
      intro off vs hl
      cases off with
      | zero =>
        cases vs with
        | nil => simp [setL]
        | cons v vs =>
          have := ih 0 vs (by simp at hl ⊢; omega)
          simp at this
          simp [setL, ← this]
      | succ off =>
        have := ih off vs (by simp at hl ⊢; omega)
        simp only [setL, ← this]
        simp [Nat.add_right_comm]
  simpa using hs cs.toList off vs (by simpa using hl)
/-- a store, the block's cells spelled out behind it -/
theorem Runs.storeF {t t' : TypeId} {x y : Operand} {b off : Nat} {a : Addr} {vs cl : List Value} {cs : Array Value} {K : Value → Heap → Prop} (ho : o.op = .store t x y) (hx : ρ x = .pointer (some a)) (ha : a = ⟨b, off, none⟩) (hy : cellsV (ρ y) = some vs)
    (hz : tSize P t = some vs.length) (hb : Blk h b t' cs) (hl : Nat.ble (off + vs.length) cs.toList.length = true) (h1 : (vs.all Value.oneCell') = true) (hcl : forceL (setL cs.toList off vs) = some cl)
    (k : ∀ h', Chg [b] h h' → Blk h' b t' cl.toArray → K undef h') : Runs P ρ o s h K := by
  have hv := cellsV_eq hy
  have hvl : (ρ y).cells.toList = vs := by rw [hv]
  have hl' : off + vs.length ≤ cs.size := by have := Nat.le_of_ble_eq_true hl; simpa using this
  refine Runs.store ho hx ha rfl (by rw [hv]; simpa using hz) hb (by rw [hv]; simpa using hl') (by rw [hvl]; simpa using h1) fun h' hc hB => k h' hc ?_
  rw [hvl] at hB
  have : putAt cs off vs = cl.toArray := by
    apply Array.ext'
    rw [putAt_setL _ _ _ hl', forceL_eq hcl]
  rwa [this] at hB
/-- struct values of plain cells held against each other -/
def eqL : List Value → List Value → Option Bool
  | [], [] => some true
  | .int _ a :: x, .int _ b :: y => (eqL x y).map (decide (a = b) && ·)
  | .bool a :: x, .bool b :: y => (eqL x y).map ((a == b) && ·)
  | .string a :: x, .string b :: y => (eqL x y).map (decide (a = b) && ·)
  | _, _ => none
end

/-! ### results -/
section
variable {P : Program} {fn : Func} {e : Env} {h : Heap} {R : Value → Heap → Prop}
/-- what a result's place holds -/
def RV (P : Program) (e : Env) (h : Heap) : ResultVar → Value → Prop
  | .tmp t, v => v = e t
  | .cell a t, v => ∃ ad, e a = .pointer (some ad) ∧ ((tAgg P t = some true ∧ ∃ cs : List Value, tSize P t = some cs.length ∧ At h ad cs ∧ v = .agg cs.toArray) ∨ (tAgg P t = some false ∧ cellH h ad = some v))
def getR (tmps : Array Value) : ResultVar → Sem Value
  | .tmp t => pure (tmps.getD t undef)
  | .cell a t => do loadVar t (← asAddr (tmps.getD a undef))
theorem results_eq (fn : Func) (tmps : Array Value) : results fn tmps = (do
    let vs ← fn.results.mapM (getR tmps)
    pure (if h : vs.size = 1 then vs[0] else .tuple vs)) := by
  unfold results
  congr 1
theorem RV.run {r : ResultVar} {v : Value} (hv : RV P e h r v) {a : Act} {w : World} (ha : Has fn.ntmps e a) (hw : Ext h w.heap) : (getR a.tmps r).run P w = .ok v w := by
  cases r with
  | tmp t => simp only [RV] at hv; subst hv; simp only [getR]; rw [ha.2.2]; rfl
  | cell ad t =>
    obtain ⟨ad', he, hh⟩ := hv
    have h1 : a.tmps.getD ad undef = .pointer (some ad') := by rw [ha.2.2, he]
    simp only [getR, h1]
    rcases hh with ⟨h2, cs, h3, h4, rfl⟩ | ⟨h2, h3⟩
    · simp [asAddr, loadVar, run_tAgg h2, run_tSize h3, run_loadCells_at (P := P) (h4.ext hw)]
    · have : w.cell? ad' = some v := hw.cell h3
      simp [asAddr, loadVar, run_tAgg h2, load, Sem.run, this]
theorem Rets.gen1 {r : ResultVar} {v : Value} (hr : fn.results = #[r]) (h1 : RV P e h r v) (k : R v h) : Rets P fn e h R := by
  refine ⟨v, fun a w ha hw => ?_, k⟩
  have := h1.run ha hw
  rw [results_eq, hr]
  simp [Array.mapM_eq_mapM_toList, List.mapM_cons, this]
theorem Rets.gen2 {r1 r2 : ResultVar} {v1 v2 : Value} (hr : fn.results = #[r1, r2]) (h1 : RV P e h r1 v1) (h2 : RV P e h r2 v2) (k : R (.tuple #[v1, v2]) h) : Rets P fn e h R := by
  refine ⟨_, fun a w ha hw => ?_, k⟩
  have h1 := h1.run ha hw
  have h2 := h2.run ha hw
  rw [results_eq, hr]
  simp [Array.mapM_eq_mapM_toList, List.mapM_cons, h1, h2]
theorem Rets.gen3 {r1 r2 r3 : ResultVar} {v1 v2 v3 : Value} (hr : fn.results = #[r1, r2, r3]) (h1 : RV P e h r1 v1) (h2 : RV P e h r2 v2) (h3 : RV P e h r3 v3) (k : R (.tuple #[v1, v2, v3]) h) : Rets P fn e h R := by
  refine ⟨_, fun a w ha hw => ?_, k⟩
  have h1 := h1.run ha hw
  have h2 := h2.run ha hw
  have h3 := h3.run ha hw
  rw [results_eq, hr]
  simp [Array.mapM_eq_mapM_toList, List.mapM_cons, h1, h2, h3]
def picked (ops : Array Oper) (order : List (Nat × Fl)) : List (Oper × Fl) := (pick ops order).getD []
def drawOk (n : Nat) (ops : Array Oper) (order : List (Nat × Fl)) : Bool :=
  order.length == ops.size && Region.noSelect ops && (pick ops order).isSome && chk ops order (Array.replicate ops.size false) && ((picked ops order).all fun p => okd n p.1)
theorem EW.draw {n : Nat} {s : World} {Q : Exit → Env → Heap → Prop} {id : Nat} {ops : Array Oper} (T : Nat → List (Nat × Fl)) (hm : P.follows .mixedOrders = true) (hc : drawOk n ops (T id) = true)
    (k : OX P n s ops (fun e h => Q .normal e h) (.draw (T id) (Array.replicate ops.size false)) (picked ops (T id)) e h) : EW P n s (.region id ops true) Q e h := by
  simp only [drawOk, Bool.and_eq_true, beq_iff_eq] at hc
  obtain ⟨⟨⟨⟨h1, h2⟩, h3⟩, h4⟩, h5⟩ := hc
  obtain ⟨l, hl⟩ := Option.isSome_iff_exists.1 h3
  have hp : picked ops (T id) = l := by simp [picked, hl]
  rw [hp] at h5 k
  exact EW.drawRegion (T id) hm h1 h2 hl h4 h5 k
theorem Blk.at0 {b : Nat} {t : TypeId} {cs : Array Value} (hb : Blk h b t cs) : At h ⟨b, 0, none⟩ cs.toList := fun j u hu => hb.cell (by rw [add_lit, Nat.zero_add]) hu
end
/-! ### values spelled out -/
def deepL : List Value → Option (List Value)
  | [] => some []
  | x :: xs => match forceV x with
    | some y => match deepL xs with
      | some ys => some (y :: ys)
      | none => none
    | none => none
theorem deepL_eq : ∀ {xs ys : List Value}, deepL xs = some ys → xs = ys := by
  intro xs
  induction xs with
  | nil => intro ys h; simp [deepL] at h; exact h.symm
  | cons x xs ih =>
    intro ys h
    simp only [deepL] at h
    split at h
    · rename_i y hy
      split at h
      · rename_i zs hz; simp at h; rw [← h, ih hz, forceV_eq hy]
      · cases h
    · cases h
section
variable {P : Program} {ρ : Operand → Value} {o : Oper} {s : World} {h : Heap}
theorem Qy.buildF {t : TypeId} {parts : Array (Nat × Operand)} {cs : List Value} (ho : o.op = .build t parts) (hb : (buildL P t (parts.toList.map fun p => (p.1, (ρ p.2).cells.toList))).bind deepL = some cs) : Qy P ρ o s h (.agg cs.toArray) := by
  obtain ⟨v, hv, hc⟩ := Option.bind_eq_some_iff.1 hb
  rw [← deepL_eq hc]
  exact Qy.build ho hv
theorem Qy.makeFuncF {fn : Fn} {caps : Array Operand} {cs : List Value} (ho : o.op = .makeFunc fn #[] caps) (hc : deepL (caps.toList.map ρ) = some cs) : Qy P ρ o s h (.func fn #[] cs.toArray) := by
  have := Qy.makeFunc (P := P) (ρ := ρ) (s := s) (h := h) ho
  rw [deepL_eq hc] at this
  exact this
end
end Go.Px
