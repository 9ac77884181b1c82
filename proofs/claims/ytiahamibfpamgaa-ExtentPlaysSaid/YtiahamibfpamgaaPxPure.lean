/- One rule for all operations that only compute. No program of its own. -/
import Derived.Test.YtiahamibfpamgaaPxMemOps
import Derived.Lib.SlicesS
set_option linter.unusedVariables false
set_option linter.unusedSimpArgs false
namespace Go.Px
def forceV : Value → Option Value
  | .int k n => some (.int k n)
  | .bool b => some (.bool b)
  | .string s => some (.string s)
  | .pointer a => some (.pointer a)
  | .slice a n c => some (.slice a n c)
  | .agg cs => some (.agg cs)
  | .func f a b => some (.func f a b)
  | .tuple vs => some (.tuple vs)
  | .nilFunc => some .nilFunc
  | _ => none
theorem forceV_eq {v u : Value} (h : forceV v = some u) : v = u := by
  cases v <;> simp [forceV] at h <;> exact h
def strOp : BinOp → ByteArray → ByteArray → Option Bool
  | .eql, a, b => some (decide (a = b))
  | .neq, a, b => some (!decide (a = b))
  | .lss, a, b => some (Op.bytesLess a.toList b.toList)
  | .leq, a, b => some (Op.bytesLess a.toList b.toList || decide (a = b))
  | .gtr, a, b => some (!(Op.bytesLess a.toList b.toList || decide (a = b)))
  | .geq, a, b => some (!Op.bytesLess a.toList b.toList)
  | _, _, _ => none
def binV (P : Program) (op : BinOp) (t : TypeId) : Value → Value → Option Value
  | .int k a, .int k' b => if k = k' then (cmpOp op a b).map .bool else none
  | .bool a, .bool b => if isBoolT P t = true then (nilOp op (a == b)).map .bool else none
  | .pointer p, .pointer none => if isPtr P t = true then (nilOp op p.isNone).map .bool else none
  | .slice p _ _, .slice none _ _ => if (isSlice P t).isSome = true then (nilOp op p.isNone).map .bool else none
  | .string a, .string b => (strOp op a b).map .bool
  | _, _ => none
def lenV (P : Program) (t : TypeId) : Value → Option Value
  | .slice _ n _ => if (isSlice P t).isSome = true then some (.int .i64 n) else none
  | .string b => if isStr P t = true then some (.int .i64 b.size) else none
  | _ => none
def mmV (mx : Bool) : Value → Value → Option Value
  | .int k a, .int k' b => if k = k' then some (.int k (if mx then max a b else min a b)) else none
  | _, _ => none
def pureV (P : Program) (ρ : Operand → Value) : Op → Option Value
  | .move x => forceV (ρ x)
  | .assign x => forceV (ρ x)
  | .binOp op t x y _ => binV P op t (ρ x) (ρ y)
  | .unOp .not _ x => match ρ x with
    | .bool b => some (.bool (!b))
    | _ => none
  | .nilCheck x => match ρ x with
    | .pointer (some a) => some (.pointer (some a))
    | .func (.func g) a b => some (.func (.func g) a b)
    | _ => none
  | .extract x i => match ρ x with
    | .tuple vs => (vs.toList[i]?).bind forceV
    | _ => none
  | .field t x i => match ρ x with
    | .agg cs => match fieldOf P t i with
      | some (off, _, false) => (cs.toList[off]?).bind forceV
      | some (off, k, true) => some (.agg ((cs.toList.drop off).take k).toArray)
      | none => none
    | _ => none
  | .fieldAddr t x i => match ρ x with
    | .pointer (some a) => match fieldOf P t i with
      | some (off, k + 1, _) => some (.pointer (some (a.add off)))
      | _ => none
    | _ => none
  | .makeFunc fn first caps => some (.func fn (first.toList.map ρ).toArray (caps.toList.map ρ).toArray)
  | .call ⟨.builtin .len, ⟨[x]⟩, ⟨[t]⟩⟩ => lenV P t (ρ x)
  | .call ⟨.builtin .min, ⟨[x, y]⟩, _⟩ => mmV false (ρ x) (ρ y)
  | .call ⟨.builtin .max, ⟨[x, y]⟩, _⟩ => mmV true (ρ x) (ρ y)
  | _ => none
section
variable {P : Program} {ρ : Operand → Value} {o : Oper} {s : World} {h : Heap}
theorem toList_eq_iff (a b : ByteArray) : (a.toList == b.toList) = decide (a = b) := by
  have h1 := Lib.bytes_beq_iff a b
  cases hb : (a.toList == b.toList)
  · rw [hb] at h1
    simp at h1
    simp [h1]
  · rw [hb] at h1
    simp at h1
    simp [h1]
theorem Qy.str {op : BinOp} {t t' : TypeId} {x y : Operand} {a b : ByteArray} {r : Bool} (ho : o.op = .binOp op t x y t') (hx : ρ x = .string a) (hy : ρ y = .string b) (hr : strOp op a b = some r) : Qy P ρ o s h (.bool r) := by
  refine Qy.pure fun w => ?_
  cases op <;> simp only [strOp, Option.some.injEq, reduceCtorEq] at hr <;> subst hr <;> simp [execOp, ho, hx, hy, eqGuard, binOp, Op.stringOp, toList_eq_iff]
theorem binV_sound {op : BinOp} {t t' : TypeId} {x y : Operand} {v : Value} (ho : o.op = .binOp op t x y t') (hv : binV P op t (ρ x) (ρ y) = some v) : Qy P ρ o s h v := by
  unfold binV at hv
  split at hv
  · rename_i k a k' b hx hy
    split at hv
    · rename_i hk
      subst hk
      obtain ⟨r, hr, rfl⟩ := Option.map_eq_some_iff.1 hv
      exact Qy.cmp ho hx hy hr
    · cases hv
  · rename_i a b hx hy
    split at hv
    · rename_i ht
      obtain ⟨r, hr, rfl⟩ := Option.map_eq_some_iff.1 hv
      exact Qy.eqBool ho hx hy ht hr
    · cases hv
  · rename_i p hx hy
    split at hv
    · rename_i ht
      obtain ⟨r, hr, rfl⟩ := Option.map_eq_some_iff.1 hv
      exact Qy.nilPtr ho hx hy ht hr
    · cases hv
  · rename_i p _ _ _ _ hx hy
    split at hv
    · rename_i ht
      obtain ⟨r, hr, rfl⟩ := Option.map_eq_some_iff.1 hv
      exact Qy.nilSlice ho hx hy ht hr
    · cases hv
  · rename_i a b hx hy
    obtain ⟨r, hr, rfl⟩ := Option.map_eq_some_iff.1 hv
    exact Qy.str ho hx hy hr
  · cases hv
theorem pureV_sound {v : Value} (hv : pureV P ρ o.op = some v) : Qy P ρ o s h v := by
  cases ho : o.op <;> rw [ho] at hv <;> first
    | (simp [pureV] at hv; done)
    | skip
  case move x => exact Qy.copy (by rw [ho]; rfl) (forceV_eq hv)
  case assign x => exact Qy.copy (by rw [ho]; rfl) (forceV_eq hv)
  case binOp op t x y t' => exact binV_sound ho hv
  case unOp op t x =>
    cases op <;> simp only [pureV, reduceCtorEq] at hv
    split at hv
    · rename_i b hx; injection hv with hv; subst hv; exact Qy.not ho hx
    · cases hv
  case nilCheck x =>
    simp only [pureV] at hv
    split at hv
    · rename_i a hx; injection hv with hv; subst hv; exact Qy.nilCheck_ptr ho hx
    · rename_i g a b hx; injection hv with hv; subst hv; exact Qy.nilCheck_func ho hx
    · cases hv
  case extract x i =>
    simp only [pureV] at hv
    split at hv
    · rename_i vs hx
      obtain ⟨u, hu, hf⟩ := Option.bind_eq_some_iff.1 hv
      rw [forceV_eq hf] at hu
      exact Qy.extract ho hx hu
    · cases hv
  case field t x i =>
    simp only [pureV] at hv
    split at hv
    · rename_i cs hx
      split at hv
      · rename_i off k hf
        obtain ⟨u, hu, hfo⟩ := Option.bind_eq_some_iff.1 hv
        rw [forceV_eq hfo] at hu
        exact Qy.field ho hx hf hu
      · rename_i off k hf
        injection hv with hv
        subst hv
        exact Qy.fieldAgg ho hx hf
      · cases hv
    · cases hv
  case fieldAddr t x i =>
    simp only [pureV] at hv
    split at hv
    · rename_i a hx
      split at hv
      · rename_i off k b hf
        injection hv with hv
        subst hv
        exact Qy.fieldAddr ho hx hf (by omega)
      · cases hv
    · cases hv
  case makeFunc fn first caps =>
    simp only [pureV, Option.some.injEq] at hv
    subst hv
    exact Qy.makeFunc ho
  case call c =>
    unfold pureV at hv
    split at hv <;> rename_i heq <;> first
      | (simp at heq; done)
      | skip
    · rename_i x t
      injection heq with heq
      subst heq
      unfold lenV at hv
      split at hv
      · rename_i n c hx
        split at hv
        · rename_i ht; injection hv with hv; subst hv; exact Qy.len ho hx ht
        · cases hv
      · rename_i b hx
        split at hv
        · rename_i ht; injection hv with hv; subst hv; exact Qy.lenStr ho hx ht
        · cases hv
      · cases hv
    · rename_i x y ts
      injection heq with heq
      subst heq
      unfold mmV at hv
      split at hv
      · rename_i k a k' b hx hy
        split at hv
        · rename_i hk; subst hk; injection hv with hv; subst hv; exact Qy.min ho hx hy
        · cases hv
      · cases hv
    · rename_i x y ts
      injection heq with heq
      subst heq
      unfold mmV at hv
      split at hv
      · rename_i k a k' b hx hy
        split at hv
        · rename_i hk; subst hk; injection hv with hv; subst hv; exact Qy.max ho hx hy
        · cases hv
      · cases hv
    · cases hv
end
section
variable {P : Program} {n : Nat} {s : World} {ops : Array Oper} {K : Env → Heap → Prop} {m : Md} {l : List (Oper × Fl)} {e : Env} {h : Heap} {o : Oper} {f : Fl}
inductive Kn | pure | arith | load | index | call | pick | build | cut | box | alloc | lit | mk | store | other
def kn : Op → Kn
  | .move _ | .assign _ | .unOp .not _ _ | .nilCheck _ | .extract _ _ | .field _ _ _ | .fieldAddr _ _ _ | .makeFunc _ _ _ => .pure
  | .binOp .add _ _ _ _ | .binOp .sub _ _ _ _ | .binOp .mul _ _ _ _ | .binOp .quo _ _ _ _ | .binOp .rem _ _ _ _ | .binOp .and _ _ _ _ | .binOp .or _ _ _ _ | .binOp .xor _ _ _ _ | .binOp .andNot _ _ _ _ | .binOp .shl _ _ _ _ | .binOp .shr _ _ _ _ | .unOp _ _ _ | .convert _ _ _ => .arith
  | .binOp _ _ _ _ _ => .pure
  | .load _ _ => .load
  | .indexAddr _ _ _ | .index _ _ _ => .index
  | .build _ _ => .build
  | .slice _ _ _ _ _ => .cut
  | .box _ _ => .box
  | .alloc _ => .alloc
  | .buildSlice _ _ _ => .lit
  | .makeSlice _ _ _ => .mk
  | .store _ _ _ => .store
  | .call ⟨.builtin .len, _, _⟩ | .call ⟨.builtin .min, _, _⟩ | .call ⟨.builtin .max, _, _⟩ => .pure
  | .call _ => .call
  | .pick _ _ _ => .pick
  | _ => .other
theorem OX.here (k : OX P n s ops K m l e h) : OX P n s ops K m l e h := k
theorem EW.here {c : Code} {Q : Exit → Env → Heap → Prop} (k : EW P n s c Q e h) : EW P n s c Q e h := k
theorem OX.kn (i : Kn) (hk : kn o.op = i) (k : OX P n s ops K m ((o, f) :: l) e h) : OX P n s ops K m ((o, f) :: l) e h := k
theorem EW.sreg {Q : Exit → Env → Heap → Prop} {id : Nat} {ol : List Oper} (hd : ((tag ol).all fun p => okd n p.1) = true) (k : OX P n s ol.toArray (fun e h => Q .normal e h) .seq (tag ol) e h) : EW P n s (.region id ol.toArray false) Q e h :=
  EW.seqRegion (by simpa using hd) (by simpa using k)
theorem OX.tagc {l : List Oper} (k : OX P n s ops K m ((o, .z) :: tag l) e h) : OX P n s ops K m (tag (o :: l)) e h := k
theorem OX.tagn (k : K e h) : OX P n s ops K m (tag []) e h := OX.nil k
theorem OX.q {d : Nat} {v : Value} (hd : o.dst = some d) (hw : WantE ops o e true) (hq : Qy P (val e) o s h v) (k : OX P n s ops K m.next l (upd e d v) h) (hpk : pureKind o.op = false := by rfl) : OX P n s ops K m ((o, f) :: l) e h :=
  OX.quiet hw hq (by rw [hd]; exact k) hpk
/-- where no memory is looked at -/
theorem OX.qa {d : Nat} {v : Value} (hd : o.dst = some d) (hw : WantE ops o e true) (hq : ∀ h, Qy P (val e) o s h v) (k : OX P n s ops K m.next l (upd e d v) h) : OX P n s ops K m ((o, f) :: l) e h :=
  OX.quietA hw hq (by rw [hd]; exact k)
theorem OX.p {d : Nat} {v : Value} (hd : o.dst = some d) (hp : pureV P (val e) o.op = some v) (hw : WantE ops o e true) (k : OX P n s ops K m.next l (upd e d v) h) : OX P n s ops K m ((o, f) :: l) e h :=
  OX.qa hd hw (fun _ => pureV_sound hp) k
theorem Qy.pick_tb {P : Program} {ρ : Operand → Value} {o : Oper} {s : World} {h : Heap} {c x y : Operand} {b r : Bool} (ho : o.op = .pick c x y) (hc : ρ c = .bool b) (hx : ρ x = .bool r) (hb : b = true) : Qy P ρ o s h (.bool r) := Qy.pick_t ho hc hb hx
theorem Qy.pick_fb {P : Program} {ρ : Operand → Value} {o : Oper} {s : World} {h : Heap} {c x y : Operand} {b r : Bool} (ho : o.op = .pick c x y) (hc : ρ c = .bool b) (hx : ρ y = .bool r) (hb : b = false) : Qy P ρ o s h (.bool r) := Qy.pick_f ho hc hb hx
theorem OX.sk {d : Nat} (hd : o.dst = some d) (hw : WantE ops o e false) (k : OX P n s ops K m.next l (upd e d undef) h) : OX P n s ops K m ((o, f) :: l) e h :=
  OX.skip hw (by rw [hd]; exact k)
theorem OX.gr {d : Nat} (hd : o.dst = some d) (hf : f.grows = true) (hw : WantE ops o e true) (hq : Gr P (val e) o s h (fun v h' => OX P n s ops K m.next l (upd e d v) h')) : OX P n s ops K m ((o, f) :: l) e h :=
  OX.grow hf hw (by rw [hd]; exact hq)
theorem OX.ac {d : Nat} (hd : o.dst = some d) (hf : f.any = true) (hw : WantE ops o e true) (hq : Runs P (val e) o s h (fun v h' => OX P n s ops K m.next l (upd e d v) h')) : OX P n s ops K m ((o, f) :: l) e h :=
  OX.act hf hw (by rw [hd]; exact hq)
theorem OX.ac0 (hd : o.dst = none) (hf : f.any = true) (hw : WantE ops o e true) (hq : Runs P (val e) o s h (fun _ h' => OX P n s ops K m.next l e h')) : OX P n s ops K m ((o, f) :: l) e h :=
  OX.act hf hw (by rw [hd]; exact hq)
end
end Go.Px
