/- Functions, and what single operations do. No program of its own. -/
import Derived.Test.YtiahamibfpamgaaPxEng
import Derived.IntWalk
set_option linter.unusedVariables false
set_option linter.unusedSimpArgs false
namespace Go.Px

def Enters (P : Program) (f : FuncId) : Prop := ∀ (args : Array Value) (w : World), (callFunc f args).run P w = .ok (.enter f args) w
/-- called in just this heap: it returns; of what was there only M changes -/
structure FC (P : Program) (f : FuncId) (args : List Value) (h : Heap) (M : List Nat) (R : Value → Heap → Prop) : Prop where
  ent : Enters P f
  out : ∀ w, w.heap = h → Calls P f args.toArray w fun en w' => ∃ v h', en = .returned v ∧ Str w w' ∧ Ext h' w'.heap ∧ Chg M h h' ∧ R v h'
structure FQ (P : Program) (f : FuncId) (args : List Value) (h : Heap) (v : Value) : Prop where
  ent : Enters P f
  out : ∀ w, w.heap = h → Calls P f args.toArray w fun en w' => en = .returned v ∧ Str w w' ∧ Ext h w'.heap

def Rets (P : Program) (fn : Func) (e : Env) (h : Heap) (R : Value → Heap → Prop) : Prop :=
  ∃ v, (∀ a w, Has fn.ntmps e a → Ext h w.heap → (results fn a.tmps).run P w = .ok v w) ∧ R v h
def retQ (P : Program) (fn : Func) (R : Value → Heap → Prop) : Exit → Env → Heap → Prop
  | .normal, e, h | .ret, e, h => Rets P fn e h R
  | _, _, _ => False
theorem envOf_getD (l : List Value) (m : Nat) (t : Nat) : (l.toArray ++ Array.replicate m undef).getD t undef = envOf l t := by
  have h1 : ∀ (l : List Value) (t : Nat), l.getD t undef = envOf l t := by
    intro l
    induction l with
    | nil => intro t; cases t <;> rfl
    | cons v l ih => intro t; cases t with | zero => rfl | succ t => simpa [envOf] using ih t
  rw [← h1, Array.getD_eq_getD_getElem?, List.getD_eq_getElem?_getD, Array.getElem?_append]
  split
  · simp
  · rename_i hlt
    simp at hlt
    rw [List.getElem?_eq_none hlt]
    simp [Array.getElem?_replicate]
    split <;> rfl
theorem has_start (args : List Value) (n : Nat) (hn : args.length ≤ n) : Has n (envOf args) { tmps := args.toArray ++ Array.replicate (n - args.toArray.size) undef, defers := [] } :=
  ⟨by simp; omega, rfl, fun t => envOf_getD _ _ t⟩
theorem FC.of_EW {P : Program} {f : FuncId} {fn : Func} {c : Code} {args : List Value} {h : Heap} {M : List Nat} {R : Value → Heap → Prop}
    (hent : Enters P f) (hf : P.funcs[f]? = some fn) (hb : fn.body = some c) (hn : Nat.ble args.length fn.ntmps = true)
    (k : ∀ s h1, Ext h h1 → EW P fn.ntmps s c (retQ P fn fun v h' => Chg M h h' ∧ R v h') (envOf args) h1) : FC P f args h M R := by
  refine ⟨hent, fun w hw => calls_of_wp hf hb ?_⟩
  have hn' : args.length ≤ fn.ntmps := Nat.le_of_ble_eq_true hn
  refine wp_mono ((k w h (Ext.refl h)).out _ w (has_start args fn.ntmps hn') ⟨Str.refl w, by rw [hw]; exact Ext.refl h⟩) fun x a w' ⟨e, h', h1, h2, h3⟩ => ?_
  cases x <;> first
    | exact h3.elim
    | skip
  all_goals
    obtain ⟨v, hr, hR⟩ := h3
    exact ⟨h1.2.1, v, hr a w' h1 h2.2, v, h', rfl, h2.1, h2.2, hR⟩
theorem FQ.of_EW {P : Program} {f : FuncId} {fn : Func} {c : Code} {args : List Value} {h : Heap} {v : Value}
    (hent : Enters P f) (hf : P.funcs[f]? = some fn) (hb : fn.body = some c) (hn : Nat.ble args.length fn.ntmps = true)
    (k : ∀ s h1, Ext h h1 → EW P fn.ntmps s c (retQ P fn fun v' h' => v' = v ∧ Ext h h') (envOf args) h1) : FQ P f args h v := by
  refine ⟨hent, fun w hw => calls_of_wp hf hb ?_⟩
  have hn' : args.length ≤ fn.ntmps := Nat.le_of_ble_eq_true hn
  refine wp_mono ((k w h (Ext.refl h)).out _ w (has_start args fn.ntmps hn') ⟨Str.refl w, by rw [hw]; exact Ext.refl h⟩) fun x a w' ⟨e, h', h1, h2, h3⟩ => ?_
  cases x <;> first
    | exact h3.elim
    | skip
  all_goals
    obtain ⟨v', hr, hv, hx⟩ := h3
    exact ⟨h1.2.1, v', hr a w' h1 h2.2, by rw [hv], h2.1, hx.trans h2.2⟩
theorem FC.mono {P : Program} {f : FuncId} {args : List Value} {h : Heap} {M M' : List Nat} {R R' : Value → Heap → Prop} (k : FC P f args h M R)
    (hM : ∀ b, b ∈ M → b ∈ M') (hR : ∀ v h', Chg M h h' → R v h' → R' v h') : FC P f args h M' R' :=
  ⟨k.ent, fun w hw => (k.out w hw).mono fun en w' ⟨v, h', h1, h2, h3, h4, h5⟩ => ⟨v, h', h1, h2, h3, h4.mono (fun b _ hb => hM b hb), hR v h' h4 h5⟩⟩
theorem FQ.toFC {P : Program} {f : FuncId} {args : List Value} {h : Heap} {v : Value} (k : FQ P f args h v) : FC P f args h [] (fun v' h' => v' = v ∧ h' = h) :=
  ⟨k.ent, fun w hw => (k.out w hw).mono fun en w' ⟨h1, h2, h3⟩ => ⟨v, h, h1, h2, h3, Chg.refl _ _, rfl, rfl⟩⟩

/-! ### returns -/
section
variable {P : Program} {fn : Func} {e : Env} {h : Heap} {R : Value → Heap → Prop}
theorem Rets.one {t : Tmp} (hr : fn.results = #[.tmp t]) (k : R (e t) h) : Rets P fn e h R :=
  ⟨e t, fun a w ha _ => by rw [results_tmp hr, ha.2.2], k⟩
theorem Rets.none (hr : fn.results = #[]) (k : R (.tuple #[]) h) : Rets P fn e h R :=
  ⟨.tuple #[], fun a w ha _ => results_none hr _ _ _, k⟩
theorem Rets.two {t u : Tmp} (hr : fn.results = #[.tmp t, .tmp u]) (k : R (.tuple #[e t, e u]) h) : Rets P fn e h R :=
  ⟨_, fun a w ha _ => by rw [results_tmp2 hr, ha.2.2, ha.2.2], k⟩
theorem Rets.three {t u v : Tmp} (hr : fn.results = #[.tmp t, .tmp u, .tmp v]) (k : R (.tuple #[e t, e u, e v]) h) : Rets P fn e h R :=
  ⟨_, fun a w ha _ => by simp [results, hr, ← ha.2.2], k⟩
theorem Rets.four {t u v x : Tmp} (hr : fn.results = #[.tmp t, .tmp u, .tmp v, .tmp x]) (k : R (.tuple #[e t, e u, e v, e x]) h) : Rets P fn e h R :=
  ⟨_, fun a w ha _ => by simp [results, hr, ← ha.2.2], k⟩
end

/-! ### calls -/
section
variable {P : Program} {ρ : Operand → Value} {o : Oper} {s : World} {h : Heap}
theorem run_call {g : FuncId} {as : Array Operand} {ts : Array TypeId} {f : Operand} {caps : Array Value} (ho : o.op = .call ⟨.value f, as, ts⟩) (hf : ρ f = .func (.func g) #[] caps) (hent : Enters P g) (w : World) :
    (execOp ρ o).run P w = .ok (.enter g (as.map ρ ++ caps)) w := by
  simp only [execOp, ho, resolve, hf, Deferred.ofValue]
  have := hent (as.map ρ ++ caps) w
  simp [invoke, this]
theorem map_toArray (as : Array Operand) : as.map ρ = (as.toList.map ρ).toArray := by
  cases as; simp
theorem Qy.callv {g : FuncId} {as : Array Operand} {ts : Array TypeId} {f : Operand} {caps : Array Value} {v : Value} (ho : o.op = .call ⟨.value f, as, ts⟩) (hf : ρ f = .func (.func g) #[] caps)
    (hc : ∀ h1, Ext h h1 → FQ P g (as.toList.map ρ ++ caps.toList) h1 v) : Qy P ρ o s h v := by
  refine ⟨fun w hs hx => ?_⟩
  have hk := hc w.heap hx
  rw [run_call ho hf hk.ent]
  have h1 : (as.map ρ ++ caps) = (as.toList.map ρ ++ caps.toList).toArray := by rw [map_toArray]; cases caps; simp
  simp only [h1]
  exact (hk.out w rfl).mono fun en w' ⟨h1, h2, h3⟩ => ⟨h1, hs.trans h2, h3⟩
theorem Qy.call {g : FuncId} {as : Array Operand} {ts : Array TypeId} {v : Value} (ho : o.op = .call ⟨.value (.func g), as, ts⟩) (hρ : ρ (.func g) = .func (.func g) #[] #[])
    (hc : ∀ h1, Ext h h1 → FQ P g (as.toList.map ρ) h1 v) : Qy P ρ o s h v :=
  Qy.callv ho hρ (by simpa using hc)
theorem Gr.callv {g : FuncId} {as : Array Operand} {ts : Array TypeId} {f : Operand} {caps : Array Value} {R : Heap → Value → Heap → Prop} {K : Value → Heap → Prop} (ho : o.op = .call ⟨.value f, as, ts⟩) (hf : ρ f = .func (.func g) #[] caps)
    (hc : ∀ h1, Ext h h1 → FC P g (as.toList.map ρ ++ caps.toList) h1 [] (R h1))
    (k : ∀ h1 v h', Ext h h1 → Ext h1 h' → R h1 v h' → K v h') : Gr P ρ o s h K := by
  refine ⟨fun w hs hx => ?_⟩
  have hk := hc w.heap hx
  rw [run_call ho hf hk.ent]
  have h1 : (as.map ρ ++ caps) = (as.toList.map ρ ++ caps.toList).toArray := by rw [map_toArray]; cases caps; simp
  simp only [h1]
  exact (hk.out w rfl).mono fun en w' ⟨v, h', h1, h2, h3, h4, h5⟩ => ⟨v, h1, hs.trans h2, h', hx.trans h4.ext, h3, k _ v h' hx h4.ext h5⟩
theorem Gr.call {g : FuncId} {as : Array Operand} {ts : Array TypeId} {R : Heap → Value → Heap → Prop} {K : Value → Heap → Prop} (ho : o.op = .call ⟨.value (.func g), as, ts⟩) (hρ : ρ (.func g) = .func (.func g) #[] #[])
    (hc : ∀ h1, Ext h h1 → FC P g (as.toList.map ρ) h1 [] (R h1))
    (k : ∀ h1 v h', Ext h h1 → Ext h1 h' → R h1 v h' → K v h') : Gr P ρ o s h K :=
  Gr.callv (R := R) ho hρ (by simpa using hc) k
theorem Runs.callv {g : FuncId} {as : Array Operand} {ts : Array TypeId} {f : Operand} {caps : Array Value} {M : List Nat} {R : Heap → Value → Heap → Prop} {K : Value → Heap → Prop} (ho : o.op = .call ⟨.value f, as, ts⟩) (hf : ρ f = .func (.func g) #[] caps)
    (hc : ∀ h1, Ext h h1 → FC P g (as.toList.map ρ ++ caps.toList) h1 M (R h1))
    (k : ∀ h1 v h', Ext h h1 → Chg M h1 h' → R h1 v h' → K v h') : Runs P ρ o s h K := by
  intro w hs hx
  have hk := hc w.heap hx
  rw [run_call ho hf hk.ent]
  have h1 : (as.map ρ ++ caps) = (as.toList.map ρ ++ caps.toList).toArray := by rw [map_toArray]; cases caps; simp
  simp only [h1]
  exact (hk.out w rfl).mono fun en w' ⟨v, h', h1, h2, h3, h4, h5⟩ => ⟨v, h1, hs.trans h2, h', h3, k _ v h' hx h4 h5⟩
theorem Runs.call {g : FuncId} {as : Array Operand} {ts : Array TypeId} {M : List Nat} {R : Heap → Value → Heap → Prop} {K : Value → Heap → Prop} (ho : o.op = .call ⟨.value (.func g), as, ts⟩) (hρ : ρ (.func g) = .func (.func g) #[] #[])
    (hc : ∀ h1, Ext h h1 → FC P g (as.toList.map ρ) h1 M (R h1))
    (k : ∀ h1 v h', Ext h h1 → Chg M h1 h' → R h1 v h' → K v h') : Runs P ρ o s h K :=
  Runs.callv (R := R) ho hρ (by simpa using hc) k

/-! ### pure operations -/
theorem Qy.pure {v : Value} (hr : ∀ w, (execOp ρ o).run P w = .ok (.value v) w) : Qy P ρ o s h v :=
  ⟨fun w hs hx => by rw [hr w]; exact ⟨rfl, hs, Ext.refl _⟩⟩
theorem Qy.known {v : Value} (hr : ∀ w, Ext h w.heap → (execOp ρ o).run P w = .ok (.value v) w) : Qy P ρ o s h v :=
  ⟨fun w hs hx => by rw [hr w hx]; exact ⟨rfl, hs, Ext.refl _⟩⟩
def isCopy : Op → Option Operand
  | .move x | .assign x => some x
  | _ => none
theorem Qy.copy {x : Operand} {v : Value} (ho : isCopy o.op = some x) (hx : ρ x = v) : Qy P ρ o s h v := by
  refine Qy.pure fun w => ?_
  unfold isCopy at ho
  split at ho <;> simp at ho <;> simp_all [execOp]
theorem Qy.copy_int {x : Operand} {k : IntKind} {i : Int} (ho : isCopy o.op = some x) (hx : ρ x = .int k i) : Qy P ρ o s h (.int k i) := Qy.copy ho hx
theorem Qy.copy_bool {x : Operand} {b : Bool} (ho : isCopy o.op = some x) (hx : ρ x = .bool b) : Qy P ρ o s h (.bool b) := Qy.copy ho hx
theorem Qy.copy_slice {x : Operand} {a : Option Addr} {l c : Nat} (ho : isCopy o.op = some x) (hx : ρ x = .slice a l c) : Qy P ρ o s h (.slice a l c) := Qy.copy ho hx
theorem Qy.copy_ptr {x : Operand} {a : Option Addr} (ho : isCopy o.op = some x) (hx : ρ x = .pointer a) : Qy P ρ o s h (.pointer a) := Qy.copy ho hx
theorem Qy.copy_string {x : Operand} {a : ByteArray} (ho : isCopy o.op = some x) (hx : ρ x = .string a) : Qy P ρ o s h (.string a) := Qy.copy ho hx
theorem Qy.copy_agg {x : Operand} {a : Array Value} (ho : isCopy o.op = some x) (hx : ρ x = .agg a) : Qy P ρ o s h (.agg a) := Qy.copy ho hx
theorem Qy.copy_func {x : Operand} {fn : Fn} {a b : Array Value} (ho : isCopy o.op = some x) (hx : ρ x = .func fn a b) : Qy P ρ o s h (.func fn a b) := Qy.copy ho hx
theorem Qy.copy_tuple {x : Operand} {a : Array Value} (ho : isCopy o.op = some x) (hx : ρ x = .tuple a) : Qy P ρ o s h (.tuple a) := Qy.copy ho hx
theorem Qy.pick_t {c x y : Operand} {b : Bool} {v : Value} (ho : o.op = .pick c x y) (hc : ρ c = .bool b) (hb : b = true) (hx : ρ x = v) : Qy P ρ o s h v := by
  refine Qy.pure fun w => ?_
  simp [execOp, ho, hc, hb, hx, asBool]
theorem Qy.pick_f {c x y : Operand} {b : Bool} {v : Value} (ho : o.op = .pick c x y) (hc : ρ c = .bool b) (hb : b = false) (hx : ρ y = v) : Qy P ρ o s h v := by
  refine Qy.pure fun w => ?_
  simp [execOp, ho, hc, hb, hx, asBool]
theorem Qy.extract {x : Operand} {i : Nat} {vs : Array Value} {v : Value} (ho : o.op = .extract x i) (hx : ρ x = .tuple vs) (hi : vs.toList[i]? = some v) : Qy P ρ o s h v := by
  refine Qy.pure fun w => ?_
  have hi' : vs[i]? = some v := by simpa using hi
  simp [execOp, ho, hx, Instr.extract, hi']
theorem Qy.nilCheck_ptr {x : Operand} {a : Addr} (ho : o.op = .nilCheck x) (hx : ρ x = .pointer (some a)) : Qy P ρ o s h (.pointer (some a)) := by
  refine Qy.pure fun w => ?_
  simp [execOp, ho, hx]
theorem Qy.nilCheck_func {x : Operand} {g : FuncId} {a b : Array Value} (ho : o.op = .nilCheck x) (hx : ρ x = .func (.func g) a b) : Qy P ρ o s h (.func (.func g) a b) := by
  refine Qy.pure fun w => ?_
  simp [execOp, ho, hx]
theorem Qy.makeFunc {fn : Fn} {first caps : Array Operand} (ho : o.op = .makeFunc fn first caps) : Qy P ρ o s h (.func fn (first.toList.map ρ).toArray (caps.toList.map ρ).toArray) := by
  refine Qy.pure fun w => ?_
  simp [execOp, ho, Instr.makeFunc, map_toArray]

/-! ### numbers and truths -/
def cmpOp : BinOp → Int → Int → Option Bool
  | .eql, a, b => some (decide (a = b))
  | .neq, a, b => some (decide (a ≠ b))
  | .lss, a, b => some (decide (a < b))
  | .leq, a, b => some (decide (a ≤ b))
  | .gtr, a, b => some (decide (b < a))
  | .geq, a, b => some (decide (b ≤ a))
  | _, _, _ => none
theorem Qy.cmp {op : BinOp} {t t' : TypeId} {x y : Operand} {k : IntKind} {a b : Int} {r : Bool} (ho : o.op = .binOp op t x y t') (hx : ρ x = .int k a) (hy : ρ y = .int k b) (hr : cmpOp op a b = some r) : Qy P ρ o s h (.bool r) := by
  refine Qy.pure fun w => ?_
  have e1 : (a == b) = decide (a = b) := by cases hb : (a == b) <;> simp_all
  have e2 : (a != b) = decide (a ≠ b) := by cases hb : (a != b) <;> simp_all
  cases op <;> simp only [cmpOp, Option.some.injEq, reduceCtorEq] at hr <;> subst hr <;> simp [execOp, ho, hx, hy, eqGuard, binOp, Op.intCmp, e1, e2]
theorem Qy.add {t t' : TypeId} {x y : Operand} {k : IntKind} {a b : Int} (ho : o.op = .binOp .add t x y t') (hx : ρ x = .int k a) (hy : ρ y = .int k b) : Qy P ρ o s h (.int k (k.wrap (a + b))) := by
  refine Qy.pure fun w => ?_
  simp [execOp, ho, hx, hy, eqGuard, binOp, Op.intArith]
theorem Qy.sub {t t' : TypeId} {x y : Operand} {k : IntKind} {a b : Int} (ho : o.op = .binOp .sub t x y t') (hx : ρ x = .int k a) (hy : ρ y = .int k b) : Qy P ρ o s h (.int k (k.wrap (a - b))) := by
  refine Qy.pure fun w => ?_
  simp [execOp, ho, hx, hy, eqGuard, binOp, Op.intArith]
theorem Qy.mul {t t' : TypeId} {x y : Operand} {k : IntKind} {a b : Int} (ho : o.op = .binOp .mul t x y t') (hx : ρ x = .int k a) (hy : ρ y = .int k b) : Qy P ρ o s h (.int k (k.wrap (a * b))) := by
  refine Qy.pure fun w => ?_
  simp [execOp, ho, hx, hy, eqGuard, binOp, Op.intArith]
theorem wrap_i64 {a : Int} (h1 : -9223372036854775808 ≤ a) (h2 : a ≤ 9223372036854775807) : IntKind.i64.wrap a = a := IntWalk.i64_in a ⟨h1, h2⟩
theorem wrap_def (a : Int) : IntKind.i64.wrap a = (a + 9223372036854775808) % 18446744073709551616 - 9223372036854775808 := by
  have h1 : (2 : Int) ^ 64 = 18446744073709551616 := by decide
  have h2 : (2 : Int) ^ (64 - 1) = 9223372036854775808 := by decide
  simp only [IntKind.wrap, IntKind.bits, IntKind.signed, Bool.true_and, decide_eq_true_eq, h1, h2]
  split <;> omega
theorem Qy.addi {t t' : TypeId} {x y : Operand} {a b : Int} (ho : o.op = .binOp .add t x y t') (hx : ρ x = .int .i64 a) (hy : ρ y = .int .i64 b) (hb : -9223372036854775808 ≤ a + b ∧ a + b ≤ 9223372036854775807) : Qy P ρ o s h (.int .i64 (a + b)) := by
  have := Qy.add (P := P) (s := s) (h := h) ho hx hy
  rwa [wrap_i64 hb.1 hb.2] at this
theorem Qy.subi {t t' : TypeId} {x y : Operand} {a b : Int} (ho : o.op = .binOp .sub t x y t') (hx : ρ x = .int .i64 a) (hy : ρ y = .int .i64 b) (hb : -9223372036854775808 ≤ a - b ∧ a - b ≤ 9223372036854775807) : Qy P ρ o s h (.int .i64 (a - b)) := by
  have := Qy.sub (P := P) (s := s) (h := h) ho hx hy
  rwa [wrap_i64 hb.1 hb.2] at this
theorem Qy.muli {t t' : TypeId} {x y : Operand} {a b : Int} (ho : o.op = .binOp .mul t x y t') (hx : ρ x = .int .i64 a) (hy : ρ y = .int .i64 b) (hb : -9223372036854775808 ≤ a * b ∧ a * b ≤ 9223372036854775807) : Qy P ρ o s h (.int .i64 (a * b)) := by
  have := Qy.mul (P := P) (s := s) (h := h) ho hx hy
  rwa [wrap_i64 hb.1 hb.2] at this
theorem Qy.quo {t t' : TypeId} {x y : Operand} {k : IntKind} {a b : Int} (ho : o.op = .binOp .quo t x y t') (hx : ρ x = .int k a) (hy : ρ y = .int k b) (hb : b ≠ 0) : Qy P ρ o s h (.int k (k.wrap (a.tdiv b))) := by
  refine Qy.pure fun w => ?_
  simp [execOp, ho, hx, hy, eqGuard, binOp, Op.intDiv, hb]
theorem Qy.rem {t t' : TypeId} {x y : Operand} {k : IntKind} {a b : Int} (ho : o.op = .binOp .rem t x y t') (hx : ρ x = .int k a) (hy : ρ y = .int k b) (hb : b ≠ 0) : Qy P ρ o s h (.int k (a.tmod b)) := by
  refine Qy.pure fun w => ?_
  simp [execOp, ho, hx, hy, eqGuard, binOp, Op.intDiv, hb]
/-- '/' of numbers not below 0 -/
theorem Qy.quoi {t t' : TypeId} {x y : Operand} {a b : Int} (ho : o.op = .binOp .quo t x y t') (hx : ρ x = .int .i64 a) (hy : ρ y = .int .i64 b) (hb : 0 < b ∧ 0 ≤ a ∧ a ≤ 9223372036854775807) : Qy P ρ o s h (.int .i64 (a / b)) := by
  have := Qy.quo (P := P) (s := s) (h := h) ho hx hy (by omega)
  have h1 : a.tdiv b = a / b := Int.tdiv_eq_ediv_of_nonneg hb.2.1
  have h2 : 0 ≤ a / b := Int.ediv_nonneg hb.2.1 (by omega)
  have h3 : a / b ≤ a := Int.ediv_le_self b hb.2.1
  rwa [h1, wrap_i64 (by omega) (by omega)] at this
theorem Qy.remi {t t' : TypeId} {x y : Operand} {a b : Int} (ho : o.op = .binOp .rem t x y t') (hx : ρ x = .int .i64 a) (hy : ρ y = .int .i64 b) (hb : 0 < b ∧ 0 ≤ a) : Qy P ρ o s h (.int .i64 (a % b)) := by
  have := Qy.rem (P := P) (s := s) (h := h) ho hx hy (by omega)
  rwa [Int.tmod_eq_emod_of_nonneg hb.2] at this
def ibits (op : BinOp) (k : IntKind) (a b : Int) : Int :=
  let x := BitVec.ofInt k.bits a
  let y := BitVec.ofInt k.bits b
  match op with
  | .and => k.wrap (x &&& y).toNat
  | .or => k.wrap (x ||| y).toNat
  | .xor => k.wrap (x ^^^ y).toNat
  | _ => k.wrap (x &&& ~~~y).toNat
def isBits : BinOp → Bool | .and | .or | .xor | .andNot => true | _ => false
theorem Qy.bits {op : BinOp} {t t' : TypeId} {x y : Operand} {k : IntKind} {a b : Int} (ho : o.op = .binOp op t x y t') (hop : isBits op = true) (hx : ρ x = .int k a) (hy : ρ y = .int k b) : Qy P ρ o s h (.int k (ibits op k a b)) := by
  refine Qy.pure fun w => ?_
  cases op <;> simp [isBits] at hop <;> simp [execOp, ho, hx, hy, eqGuard, binOp, Op.intBits, ibits]
theorem Qy.shl {t t' : TypeId} {x y : Operand} {k k' : IntKind} {a b : Int} (ho : o.op = .binOp .shl t x y t') (hx : ρ x = .int k a) (hy : ρ y = .int k' b) (hb : 0 ≤ b) : Qy P ρ o s h (.int k (k.wrap (a * 2 ^ (min b.toNat k.bits)))) := by
  refine Qy.pure fun w => ?_
  simp [execOp, ho, hx, hy, eqGuard, binOp, Op.shift, Int.not_lt.2 hb]
theorem Qy.shr {t t' : TypeId} {x y : Operand} {k k' : IntKind} {a b : Int} (ho : o.op = .binOp .shr t x y t') (hx : ρ x = .int k a) (hy : ρ y = .int k' b) (hb : 0 ≤ b) : Qy P ρ o s h (.int k (a.fdiv (2 ^ (min b.toNat k.bits)))) := by
  refine Qy.pure fun w => ?_
  simp [execOp, ho, hx, hy, eqGuard, binOp, Op.shift, Int.not_lt.2 hb]
theorem Qy.not {t : TypeId} {x : Operand} {b : Bool} (ho : o.op = .unOp .not t x) (hx : ρ x = .bool b) : Qy P ρ o s h (.bool (!b)) := by
  refine Qy.pure fun w => ?_
  simp [execOp, ho, hx, Op.unary]
theorem Qy.neg {t : TypeId} {x : Operand} {k : IntKind} {a : Int} (ho : o.op = .unOp .neg t x) (hx : ρ x = .int k a) : Qy P ρ o s h (.int k (k.wrap (0 - a))) := by
  refine Qy.pure fun w => ?_
  simp [execOp, ho, hx, Op.unary, Op.intArith]
theorem Qy.min {x y : Operand} {ts : Array TypeId} {k : IntKind} {a b : Int} (ho : o.op = .call ⟨.builtin .min, #[x, y], ts⟩) (hx : ρ x = .int k a) (hy : ρ y = .int k b) : Qy P ρ o s h (.int k (min a b)) := by
  refine Qy.pure fun w => ?_
  have : (if b < a then b else a) = Min.min a b := by rw [Int.min_def]; split <;> split <;> omega
  simp [execOp, ho, resolve, invoke, builtin, Builtin.min_, Builtin.min2, hx, hy, this]
theorem Qy.max {x y : Operand} {ts : Array TypeId} {k : IntKind} {a b : Int} (ho : o.op = .call ⟨.builtin .max, #[x, y], ts⟩) (hx : ρ x = .int k a) (hy : ρ y = .int k b) : Qy P ρ o s h (.int k (max a b)) := by
  refine Qy.pure fun w => ?_
  have : (if a < b then b else a) = Max.max a b := by rw [Int.max_def]; split <;> split <;> omega
  simp [execOp, ho, resolve, invoke, builtin, Builtin.max_, Builtin.max2, hx, hy, this]

/-! ### types -/
def isInt (P : Program) (t : TypeId) : Option IntKind := match P.underlying t with | some (.int k) => some k | _ => none
def isSlice (P : Program) (t : TypeId) : Option TypeId := match P.underlying t with | some (.slice e) => some e | _ => none
def isStr (P : Program) (t : TypeId) : Bool := match P.underlying t with | some .string => true | _ => false
def isBoolT (P : Program) (t : TypeId) : Bool := match P.underlying t with | some .bool => true | _ => false
def isPtr (P : Program) (t : TypeId) : Bool := match P.underlying t with | some (.pointer _) => true | _ => false
/-- a numeral, spelled out -/
def litN : Nat → Option Nat
  | 0 => some 0 | 1 => some 1 | 2 => some 2 | 3 => some 3 | 4 => some 4 | 5 => some 5 | 6 => some 6 | 7 => some 7 | 8 => some 8 | 9 => some 9 | 10 => some 10 | 11 => some 11 | 12 => some 12
  | n => some n
theorem litN_eq {n k : Nat} (h : litN n = some k) : n = k := by
  unfold litN at h
  split at h <;> simpa using h
def tSize (P : Program) (t : TypeId) : Option Nat := match P.info? t with | some i => litN i.size | none => none
def tAgg (P : Program) (t : TypeId) : Option Bool := match P.underlying t with | some (.struct _) | some (.array _ _) => some true | some _ => some false | none => none
/-- field number i of a struct type: where it begins, how many cells it has, whether it is an aggregate -/
def fieldOf (P : Program) (t : TypeId) (i : Nat) : Option (Nat × Nat × Bool) :=
  match P.underlying t with
  | some (.struct fs) => match fs.toList[i]? with
    | some f => match litN f.offset, tSize P f.type, tAgg P f.type with
      | some o, some k, some b => some (o, k, b)
      | _, _, _ => none
    | none => none
  | _ => none
theorem run_und {t : TypeId} {d : TypeDesc} (hd : P.underlying t = some d) (w : World) : (underlying t).run P w = .ok d w := run_underlying hd w
theorem run_tSize {t : TypeId} {k : Nat} (hk : tSize P t = some k) (w : World) : (sizeOf t).run P w = .ok k w := by
  unfold tSize at hk
  split at hk
  · rename_i i hi; have := litN_eq hk; subst this; simp [sizeOf, typeInfo, hi]
  · cases hk
theorem run_tAgg {t : TypeId} {b : Bool} (hk : tAgg P t = some b) (w : World) : (isAgg t).run P w = .ok b w := by
  unfold tAgg at hk
  unfold isAgg
  split at hk <;> simp at hk <;> subst hk <;> rename_i hd <;> simp [run_underlying hd]
end
end Go.Px
