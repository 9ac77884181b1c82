/- The engine: code, regions and operations over environments and heaps. No program of its own. -/
import Derived.WalkKit
import Derived.Orders
import Derived.OrdersHeld
import Derived.KernelRfl
set_option linter.unusedVariables false
set_option linter.unusedSimpArgs false
namespace Go.Px

abbrev Heap := Array Obj
abbrev Env := Nat → Value

/-- what lay in h lies unchanged in h' -/
def Ext (h h' : Heap) : Prop := h.size ≤ h'.size ∧ ∀ b, b < h.size → h'[b]? = h[b]?
/-- the same, but for the blocks of M -/
def Chg (M : List Nat) (h h' : Heap) : Prop := h.size ≤ h'.size ∧ ∀ b, b < h.size → b ∉ M → h'[b]? = h[b]?
/-- the streams are the same -/
def Str (w w' : World) : Prop := w'.os = w.os ∧ w'.tape = w.tape ∧ w'.output = w.output

theorem Ext.refl (h : Heap) : Ext h h := ⟨Nat.le_refl _, fun _ _ => rfl⟩
theorem Ext.trans {a b c : Heap} (h : Ext a b) (k : Ext b c) : Ext a c :=
  ⟨Nat.le_trans h.1 k.1, fun i hi => (k.2 i (Nat.lt_of_lt_of_le hi h.1)).trans (h.2 i hi)⟩
theorem Str.refl (w : World) : Str w w := ⟨rfl, rfl, rfl⟩
theorem Str.trans {a b c : World} (h : Str a b) (k : Str b c) : Str a c := ⟨k.1.trans h.1, k.2.1.trans h.2.1, k.2.2.trans h.2.2⟩
theorem Str.symm {a b : World} (h : Str a b) : Str b a := ⟨h.1.symm, h.2.1.symm, h.2.2.symm⟩
theorem Chg.refl (M : List Nat) (h : Heap) : Chg M h h := ⟨Nat.le_refl _, fun _ _ _ => rfl⟩
theorem Ext.chg {h h' : Heap} (k : Ext h h') (M : List Nat) : Chg M h h' := ⟨k.1, fun b hb _ => k.2 b hb⟩
theorem Chg.ext {h h' : Heap} (k : Chg [] h h') : Ext h h' := ⟨k.1, fun b hb => k.2 b hb (by simp)⟩
theorem Chg.mono {M N : List Nat} {h h' : Heap} (k : Chg M h h') (hs : ∀ b, b < h.size → b ∈ M → b ∈ N) : Chg N h h' :=
  ⟨k.1, fun b hb hn => k.2 b hb (fun hm => hn (hs b hb hm))⟩
theorem Chg.trans {M : List Nat} {a b c : Heap} (h : Chg M a b) (k : Chg M b c) : Chg M a c :=
  ⟨Nat.le_trans h.1 k.1, fun i hi hm => (k.2 i (Nat.lt_of_lt_of_le hi h.1) hm).trans (h.2 i hi hm)⟩
theorem Chg.of_ext_left {M : List Nat} {a b c : Heap} (h : Ext a b) (k : Chg M b c) : Chg M a c := (h.chg M).trans k
/-- what changed below was not there: nothing old changed -/
theorem Chg.fresh {M : List Nat} {a b c : Heap} (h : Ext a b) (k : Chg M b c) (hM : ∀ m ∈ M, a.size ≤ m) : Ext a c :=
  ⟨Nat.le_trans h.1 k.1, fun i hi => (k.2 i (Nat.lt_of_lt_of_le hi h.1) (fun hm => by have := hM i hm; omega)).trans (h.2 i hi)⟩

def upd (e : Env) (d : Nat) (v : Value) : Env := fun t => cond (Nat.beq t d) v (e t)
def updO (e : Env) (d : Option Nat) (v : Value) : Env := match d with | none => e | some d => upd e d v
def envOf : List Value → Env
  | [], _ => undef
  | v :: _, 0 => v
  | _ :: l, t + 1 => envOf l t
def val (e : Env) : Operand → Value
  | .tmp t => e t
  | .const v => v
  | .global g => .pointer (some ⟨g, 0, none⟩)
  | .func f => .func (.func f) #[] #[]
def Has (n : Nat) (e : Env) (a : Act) : Prop := a.tmps.size = n ∧ a.defers = [] ∧ ∀ t, a.tmps.getD t undef = e t

theorem Has.eval {n : Nat} {e : Env} {a : Act} (h : Has n e a) : a.eval = val e := by
  funext x
  cases x <;> simp [Act.eval, val, h.2.2]
theorem Has.put {n : Nat} {e : Env} {a : Act} (h : Has n e a) (d : Nat) (v : Value) (hd : d < n) : Has n (upd e d v) (a.put (some d) v) := by
  refine ⟨by simp [Act.put, h.1], by simp [Act.put, h.2.1], fun t => ?_⟩
  have h3 := h.2.2 t
  by_cases ht : t = d
  · subst ht
    have hlt : t < a.tmps.size := by rw [h.1]; exact hd
    simp [upd, Act.put, hlt]
  · have h2 : Nat.beq t d = false := by cases hb : Nat.beq t d with | false => rfl | true => exact absurd (Nat.eq_of_beq_eq_true hb) ht
    simp only [upd, h2, cond_false, ← h3, Act.put]
    simp [Array.getElem?_setIfInBounds_ne (Ne.symm ht)]

def okd (n : Nat) (o : Oper) : Bool := match o.dst with | none => true | some d => Nat.blt d n
theorem Has.putO {n : Nat} {e : Env} {a : Act} {o : Oper} (h : Has n e a) (v : Value) (hd : okd n o = true) : Has n (updO e o.dst v) (a.put o.dst v) := by
  unfold okd at hd
  cases ho : o.dst with
  | none => simpa [updO, Act.put] using h
  | some d => rw [ho] at hd; exact h.put d v (by simpa using hd)

/-! ### what an operation does -/
def Runs (P : Program) (ρ : Operand → Value) (o : Oper) (s : World) (h : Heap) (K : Value → Heap → Prop) : Prop :=
  ∀ w, Str s w → Ext h w.heap → match (execOp ρ o).run P w with
    | .ok (.value v) w' => Str s w' ∧ ∃ h', Ext h' w'.heap ∧ K v h'
    | .ok .skip w' => Str s w' ∧ ∃ h', Ext h' w'.heap ∧ K undef h'
    | .ok (.enter f args) w' => Calls P f args w' fun en w'' => ∃ v, en = .returned v ∧ Str s w'' ∧ ∃ h', Ext h' w''.heap ∧ K v h'
    | _ => False
/-- quiet: whatever extends h, the value is v, and what is there stays -/
structure Qy (P : Program) (ρ : Operand → Value) (o : Oper) (s : World) (h : Heap) (v : Value) : Prop where
  out : ∀ w, Str s w → Ext h w.heap → match (execOp ρ o).run P w with
    | .ok (.value v') w' => v' = v ∧ Str s w' ∧ Ext w.heap w'.heap
    | .ok (.enter f args) w' => Calls P f args w' fun en w'' => en = .returned v ∧ Str s w'' ∧ Ext w.heap w''.heap
    | _ => False
/-- it makes a value and memory; what is there stays -/
structure Gr (P : Program) (ρ : Operand → Value) (o : Oper) (s : World) (h : Heap) (K : Value → Heap → Prop) : Prop where
  out : ∀ w, Str s w → Ext h w.heap → match (execOp ρ o).run P w with
    | .ok (.value v) w' => Str s w' ∧ ∃ h', Ext h h' ∧ Ext h' w'.heap ∧ K v h'
    | .ok (.enter f args) w' => Calls P f args w' fun en w'' => ∃ v, en = .returned v ∧ Str s w'' ∧ ∃ h', Ext h h' ∧ Ext h' w''.heap ∧ K v h'
    | _ => False

inductive Fl where | q | g | z
  deriving DecidableEq
def Fl.grows : Fl → Bool | .q => false | _ => true
def Fl.any : Fl → Bool | .z => true | _ => false

/-- i comes before j, by edges -/
inductive Bef (ops : Array Oper) (i : Nat) : Nat → Prop
  | here {j : Nat} {o : Oper} {e : Edge} (ho : ops[j]? = some o) (he : e ∈ o.after) (hb : Region.binds .any e = true) (hi : e.on = i) : Bef ops i j
  | step {j : Nat} {o : Oper} {e : Edge} (ho : ops[j]? = some o) (he : e ∈ o.after) (hb : Region.binds .any e = true) (hk : Bef ops i e.on) : Bef ops i j
theorem before_spec (ops : Array Oper) (j i : Nat) (h : ((Region.before ops).getD j 0).testBit i = true) : Bef ops i j := by
  have key : ∀ (l : List Oper) (pre : List Oper) (acc : Array Nat), pre ++ l = ops.toList → acc.size = pre.length → (∀ j i, (acc.getD j 0).testBit i = true → Bef ops i j) →
      ∀ j i, ((l.foldl (fun acc o => acc.push (o.after.foldl (fun s e => if Region.binds .any e then s ||| 2 ^ e.on ||| acc.getD e.on 0 else s) 0)) acc).getD j 0).testBit i = true → Bef ops i j := by
    intro l
    induction l with
    | nil => intro pre acc _ _ hacc j i h; exact hacc j i h
    | cons o l ih =>
      intro pre acc hp hs hacc
      simp only [List.foldl_cons]
      refine ih (pre ++ [o]) _ (by simp [hp]) (by simp [hs]) ?_
      intro j i h
      rw [Array.getD_eq_getD_getElem?, Array.getElem?_push] at h
      split at h
      · rename_i hj
        simp only [Option.getD_some] at h
        have ho : ops[j]? = some o := by
          rw [← Array.getElem?_toList, ← hp, hj, hs]
          simp
        have hin : ∀ (es : List Edge) (s : Nat), (∀ e ∈ es, e ∈ o.after) → ((es.foldl (fun s e => if Region.binds .any e then s ||| 2 ^ e.on ||| acc.getD e.on 0 else s) s).testBit i = true) → s.testBit i = true ∨ Bef ops i j := by
          intro es
          induction es with
          | nil => intro s _ h; exact .inl h
          | cons e es ihe =>
            intro s hm h
            simp only [List.foldl_cons] at h
            rcases ihe _ (fun e' he' => hm e' (by simp [he'])) h with h1 | h1
            · split at h1
              · rename_i hb
                rw [Nat.testBit_or, Nat.testBit_or] at h1
                simp only [Bool.or_eq_true, Nat.testBit_two_pow, decide_eq_true_eq] at h1
                rcases h1 with (h1 | h1) | h1
                · exact .inl h1
                · exact .inr (.here ho (hm e (by simp)) hb h1)
                · exact .inr (.step ho (hm e (by simp)) hb (hacc _ _ h1))
              · exact .inl h1
            · exact .inr h1
        rw [← Array.foldl_toList] at h
        rcases hin o.after.toList 0 (fun e he => by simpa using he) h with h1 | h1
        · simp at h1
        · exact h1
      · rw [← Array.getD_eq_getD_getElem?] at h
        exact hacc j i h
  refine key ops.toList [] #[] (by simp) rfl (fun j i h => by simp at h) j i ?_
  unfold Region.before at h
  rw [← Array.foldl_toList] at h
  exact h
/-- a set of operations that bears with each all that come before it -/
def Shut (ops : Array Oper) (listed : Array Bool) : Prop := ∀ j o, ops[j]? = some o → listed.getD j false = true → ∀ e ∈ o.after, Region.binds .any e = true → listed.getD e.on false = true
theorem Bef.listed {ops : Array Oper} {listed : Array Bool} (hs : Shut ops listed) {i j : Nat} (hb : Bef ops i j) : ∀ o, ops[j]? = some o → (∀ e ∈ o.after, Region.binds .any e = true → listed.getD e.on false = true) → listed.getD i false = true := by
  induction hb with
  | here ho he hb hi => intro o ho' hall; rw [ho] at ho'; injection ho' with ho'; subst ho'; subst hi; exact hall _ he hb
  | step ho he hb hk ih =>
    intro o ho' hall
    rw [ho] at ho'; injection ho' with ho'; subst ho'
    have h1 := hall _ he hb
    cases hk with
    | here ho2 he2 hb2 hi2 => exact ih _ ho2 (hs _ _ ho2 h1)
    | step ho2 he2 hb2 hk2 => exact ih _ ho2 (hs _ _ ho2 h1)
/-- operations that look at no memory -/
def pureKind : Op → Bool
  | .move _ | .assign _ | .nilCheck _ | .fieldAddr _ _ _ | .extract _ _ | .field _ _ _ => true
  | _ => false
/-- every other operation comes before number i, or waits for it -/
def allBefore (ops : Array Oper) (i : Nat) : Bool :=
  let b := Region.before ops
  (List.range ops.size).all fun j => j == i || (b.getD i 0).testBit j || (b.getD j 0).testBit i || ((ops[j]?).any fun o => pureKind o.op)

def chk (ops : Array Oper) : List (Nat × Fl) → Array Bool → Bool
  | [], listed => (Region.ready .any ops listed).isEmpty
  | (i, f) :: rest, listed =>
    (match f with
      | .q => Region.free .any ops listed i && (Region.ready .any ops listed).contains i
      | .g => Region.ready .any ops listed == [i]
      | .z => Region.ready .any ops listed == [i] && allBefore ops i) && chk ops rest (listed.setIfInBounds i true)
def pick (ops : Array Oper) : List (Nat × Fl) → Option (List (Oper × Fl))
  | [] => some []
  | (i, f) :: rest => match ops[i]?, pick ops rest with
    | some o, some l => some ((o, f) :: l)
    | _, _ => none
def tag : List Oper → List (Oper × Fl)
  | [] => []
  | o :: l => (o, .z) :: tag l


section
variable {P : Program} {ops : Array Oper} {Q : Exit → Act → World → Prop} {s : World}
/-- the worlds in which h is known -/
def G (s : World) (h : Heap) (w : World) : Prop := Str s w ∧ Ext h w.heap
theorem G.mono {s w : World} {h h' : Heap} (hg : G s h' w) (he : Ext h h') : G s h w := ⟨hg.1, he.trans hg.2⟩
/-- whatever order is picked from here on, in every world that knows h -/
def DD (P : Program) (ops : Array Oper) (Q : Exit → Act → World → Prop) (s : World) : Nat → Array Bool → Act → Heap → Prop
  | 0, listed, a, h => Region.ready .any ops listed = [] ∧ ∀ w, G s h w → Q .normal a w
  | fuel + 1, listed, a, h =>
    (Region.ready .any ops listed = [] → ∀ w, G s h w → Q .normal a w) ∧
    ∀ i ∈ Region.ready .any ops listed, ∀ w, G s h w → wpOp P ops Q i (fun a' w' => ∃ h', (Ext h h' ∨ allBefore ops i = true) ∧ G s h' w' ∧ DD P ops Q s fuel (listed.setIfInBounds i true) a' h') a w
theorem wpAny_of_DD : ∀ (fuel : Nat) (listed : Array Bool) (a : Act) (h : Heap) (w : World), G s h w → DD P ops Q s fuel listed a h → wpAny P .any ops Q fuel listed a w
  | 0, _, _, _, w, hg, hd => ⟨hd.1, hd.2 w hg⟩
  | fuel + 1, _, _, _, w, hg, hd => ⟨fun hr => hd.1 hr w hg, fun i hi => wpOp_mono (fun a' w' ⟨h', _, hg', hd'⟩ => wpAny_of_DD fuel _ a' h' w' hg' hd') (hd.2 i hi w hg)⟩
/-- quiet in this state, in every world that knows h -/
def Still (P : Program) (ops : Array Oper) (s : World) (h : Heap) (o : Oper) (v : Value) (a : Act) : Prop :=
  (Region.wanted o (yielded ops a.tmps) = true ∧ Qy P a.eval o s h v) ∨ (Region.wanted o (yielded ops a.tmps) = false ∧ v = undef)
theorem Still.of_same {o : Oper} {v : Value} {a a' : Act} {h : Heap} (hy : Still P ops s h o v a) (he : execOp a'.eval o = execOp a.eval o)
    (hw : Region.wanted o (yielded ops a'.tmps) = Region.wanted o (yielded ops a.tmps)) : Still P ops s h o v a' := by
  rcases hy with ⟨h1, h2⟩ | ⟨h1, h2⟩
  · exact .inl ⟨by rw [hw]; exact h1, ⟨fun w hs hx => by rw [he]; exact h2.out w hs hx⟩⟩
  · exact .inr ⟨by rw [hw]; exact h1, h2⟩
theorem Qy.mono {ρ : Operand → Value} {o : Oper} {v : Value} {h h' : Heap} (hy : Qy P ρ o s h v) (he : Ext h h') : Qy P ρ o s h' v :=
  ⟨fun w hs hx => hy.out w hs (he.trans hx)⟩
theorem Still.mono {o : Oper} {v : Value} {a : Act} {h h' : Heap} (hy : Still P ops s h o v a) (he : Ext h h') : Still P ops s h' o v a :=
  hy.imp (fun ⟨a, b⟩ => ⟨a, b.mono he⟩) id
theorem Still.wpOp {i : Nat} {o : Oper} {v : Value} {a : Act} {h : Heap} (hi : ops[i]? = some o) (hy : Still P ops s h o v a) {K : Act → World → Prop}
    {w : World} (hg : G s h w) (hk : ∀ w', G s h w' → K (a.put o.dst v) w') : wpOp P ops Q i K a w := by
  unfold Go.wpOp
  simp only [hi]
  rcases hy with ⟨hw, hq⟩ | ⟨hw, rfl⟩
  · simp only [hw, if_true]
    refine .inl ?_
    have hq := hq.out w hg.1 hg.2
    unfold Oper.wp
    generalize (execOp a.eval o).run P w = r at *
    cases r with
    | halt x w' => exact hq.elim
    | ok nx w' =>
      cases nx <;> first
        | exact hq.elim
        | skip
      case value u =>
        obtain ⟨rfl, h1, h2⟩ := hq
        exact hk _ ⟨h1, hg.2.trans h2⟩
      case enter f args =>
        refine Calls.mono hq fun en w'' ⟨he, h1, h2⟩ => ?_
        subst he
        exact hk _ ⟨h1, hg.2.trans h2⟩
  · simp only [hw, Bool.false_eq_true, if_false]; exact hk _ hg
/-- one operation 'oj', apart from 'oi' -/
theorem wpOp_apart {j : Nat} {oi oj : Oper} {v : Value} (hj : ops[j]? = some oj) (hap : oi.apart ops oj = true)
    (hsi : ∀ cs b, oi.op ≠ .select cs b) (hsj : ∀ cs b, oj.op ≠ .select cs b)
    (hQ : ∀ c a w, Q (.panic c) (a.put oi.dst v) w → Q (.panic c) a w) {K : Act → World → Prop} {a : Act} {w : World}
    (h : wpOp P ops Q j K (a.put oi.dst v) w) :
    wpOp P ops Q j (fun a' w' => (execOp a'.eval oi = execOp a.eval oi ∧ Region.wanted oi (yielded ops a'.tmps) = Region.wanted oi (yielded ops a.tmps)) ∧ K (a'.put oi.dst v) w') a w := by
  obtain ⟨h1, h2, h3⟩ := Oper.apart_spec hap
  have keep : ∀ u, (execOp (a.put oj.dst u).eval oi = execOp a.eval oi ∧ Region.wanted oi (yielded ops (a.put oj.dst u).tmps) = Region.wanted oi (yielded ops a.tmps)) := fun u =>
    ⟨execOp_put oi hsi a oj.dst u h3, wanted_put oi a oj.dst u h3⟩
  have keepD : ∀ d u, (execOp (({ a with defers := d :: a.defers } : Act).put oj.dst u).eval oi = execOp a.eval oi ∧ Region.wanted oi (yielded ops (({ a with defers := d :: a.defers } : Act).put oj.dst u).tmps) = Region.wanted oi (yielded ops a.tmps)) := fun d u =>
    ⟨(execOp_put oi hsi { a with defers := d :: a.defers } oj.dst u h3).trans rfl, (wanted_put oi { a with defers := d :: a.defers } oj.dst u h3).trans rfl⟩
  unfold wpOp at *
  simp only [hj] at *
  rw [wanted_put oj a oi.dst v h1] at h
  split
  · rename_i hw
    simp only [hw, if_true] at h
    rcases h with h | ⟨hasks, hlets⟩
    case inr => exact .inr ⟨by unfold Oper.asks at *; rw [execOp_put oj hsj a oi.dst v h1] at hasks; exact hasks, hlets⟩
    refine .inl ?_
    unfold Oper.wp at *
    rw [execOp_put oj hsj a oi.dst v h1] at h
    generalize (execOp a.eval oj).run P w = r at *
    cases r with
    | ok n w' =>
      cases n <;> simp only [Oper.upon] at h ⊢
      case value u => exact ⟨keep u, by rw [← Act.put_comm a v u h2]; exact h⟩
      case skip => exact ⟨keep _, by rw [← Act.put_comm a v undef h2]; exact h⟩
      case defer d =>
        refine ⟨keepD d _, ?_⟩
        rw [← Act.put_comm _ v undef h2, ← Act.put_defers]
        exact h
      case enter f args =>
        refine Calls.mono h fun e w'' he => ?_
        cases e with
        | returned u => exact ⟨keep u, by rw [← Act.put_comm a v u h2]; exact he⟩
        | panicked c => exact hQ _ _ _ he
        | outgrown => exact he
      case row row args => exact Rows.mono h fun u w'' he => ⟨keep u, by rw [← Act.put_comm a v u h2]; exact he⟩
    | halt x w' =>
      cases x <;> simp only [Oper.upon] at h ⊢
      case panic u => exact hQ _ _ _ h
  · rename_i hw
    simp only [hw] at h
    exact ⟨keep _, by rw [← Act.put_comm a v undef h2]; exact h⟩
theorem allBefore_spec {i j : Nat} {o' : Oper} (h : allBefore ops j = true) (hi : ops[i]? = some o') (hne : i ≠ j) : (Bef ops i j ∨ Bef ops j i) ∨ pureKind o'.op = true := by
  unfold allBefore at h
  simp only [List.all_eq_true, List.mem_range, Bool.or_eq_true, beq_iff_eq] at h
  rcases h i (Array.getElem?_eq_some_iff.1 hi).1 with ((h1 | h1) | h1) | h1
  · exact absurd h1 hne
  · exact .inl (.inl (before_spec ops j i h1))
  · exact .inl (.inr (before_spec ops i j h1))
  · rw [hi] at h1; exact .inr (by simpa using h1)
theorem Shut.set {listed : Array Bool} {i : Nat} {o : Oper} (hs : Shut ops listed) (ho : ops[i]? = some o) (hall : ∀ e ∈ o.after, Region.binds .any e = true → listed.getD e.on false = true) : Shut ops (listed.setIfInBounds i true) := by
  intro j o' ho' hl e he hb
  by_cases hji : i = j
  · subst hji
    rw [ho] at ho'; injection ho' with ho'; subst ho'
    exact getD_set_true (hall e he hb)
  · rw [getD_set_ne false hji] at hl
    exact getD_set_true (hs j o' ho' hl e he hb)
theorem not_listed {listed : Array Bool} {i : Nat} (h : listed.getD i true = false) : listed.getD i false = false := by
  rcases Nat.lt_or_ge i listed.size with h' | h'
  · simpa [h'] using h
  · simp [Array.getElem?_eq_none h']
theorem DD.first {i : Nat} {oi : Oper} {v : Value} (hi : ops[i]? = some oi) (hsel : ∀ (j : Nat) (o : Oper) cs b, ops[j]? = some o → o.op ≠ .select cs b)
    (hQ : ∀ c a w, Q (.panic c) (a.put oi.dst v) w → Q (.panic c) a w) :
    ∀ (fuel : Nat) (listed : Array Bool) (a : Act) (h : Heap), Shut ops listed →
      (∀ j oj, ops[j]? = some oj → j ≠ i → listed.getD j true = false → (∀ e ∈ oj.after, Region.binds .any e = true → e.on ≠ i) → oi.apart ops oj = true) →
      i ∈ Region.ready .any ops listed → Still P ops s h oi v a → (pureKind oi.op = true → ∀ h', Still P ops s h' oi v a) →
      DD P ops Q s fuel (listed.setIfInBounds i true) (a.put oi.dst v) h → DD P ops Q s (fuel + 1) listed a h := by
  intro fuel
  induction fuel with
  | zero =>
    intro listed a h _ _ hr hy hpu H
    refine ⟨fun hn => (by rw [hn] at hr; cases hr), fun j hj w hg => ?_⟩
    by_cases hji : j = i
    · subst hji; exact hy.wpOp hi hg fun w' hg' => ⟨h, .inl (Ext.refl h), hg', H⟩
    · have := ready_mono hj hji
      rw [H.1] at this
      cases this
  | succ fuel ih =>
    intro listed a h hshut hfree hr hy hpu H
    refine ⟨fun hn => (by rw [hn] at hr; cases hr), fun j hj w hg => ?_⟩
    by_cases hji : j = i
    · subst hji; exact hy.wpOp hi hg fun w' hg' => ⟨h, .inl (Ext.refl h), hg', H⟩
    · have h1 := H.2 j (ready_mono hj hji) w hg
      obtain ⟨hjun, oj, hoj, hall⟩ := mem_ready.1 hj
      have hiun := (mem_ready.1 hr).1
      have hnot : ∀ e ∈ oj.after, Region.binds .any e = true → e.on ≠ i := fun e he hb heq => by
        have h1 := hall e he hb
        rw [heq] at h1
        rcases Nat.lt_or_ge i listed.size with h' | h'
        · simp [h'] at hiun h1; rw [hiun] at h1; cases h1
        · simp [Array.getElem?_eq_none h'] at h1
      have h2 := wpOp_apart hoj (hfree j oj hoj hji hjun hnot) (fun cs b => hsel i oi cs b hi) (fun cs b => hsel j oj cs b hoj) hQ h1
      have hfree' : ∀ k ok, ops[k]? = some ok → k ≠ i → (listed.setIfInBounds j true).getD k true = false →
          (∀ e ∈ ok.after, Region.binds .any e = true → e.on ≠ i) → oi.apart ops ok = true := fun k ok hk hki hun hno => by
        refine hfree k ok hk hki ?_ hno
        by_cases hjk : j = k
        · subst hjk; exact hjun
        · rw [getD_set_ne true hjk] at hun; exact hun
      refine wpOp_mono (fun a' w' ⟨⟨hs1, hs2⟩, h', hx, hg', hd'⟩ => ?_) h2
      rcases hx with hx | hx
      · refine ⟨h', .inl hx, hg', ih (listed.setIfInBounds j true) a' h' (hshut.set hoj hall) hfree' (ready_mono hr (Ne.symm hji)) ((hy.of_same hs1 hs2).mono hx) (fun hp h2 => (hpu hp h2).of_same hs1 hs2) ?_⟩
        rw [Array.setIfInBounds_comm _ _ hji]
        exact hd'
      · rcases allBefore_spec hx hi (Ne.symm hji) with hb | hp
        case inr =>
          refine ⟨h', .inr hx, hg', ih (listed.setIfInBounds j true) a' h' (hshut.set hoj hall) hfree' (ready_mono hr (Ne.symm hji)) ((hpu hp h').of_same hs1 hs2) (fun hp h2 => (hpu hp h2).of_same hs1 hs2) ?_⟩
          rw [Array.setIfInBounds_comm _ _ hji]
          exact hd'
        exfalso
        rcases hb with hb | hb
        · have := hb.listed hshut _ hoj hall
          rw [not_listed hiun] at this
          cases this
        · obtain ⟨_, oi', hoi', hall'⟩ := mem_ready.1 hr
          have := hb.listed hshut _ hoi' hall'
          rw [not_listed hjun] at this
          cases this
end

/-! ### regions -/
inductive Md where
  | seq
  | draw (order : List (Nat × Fl)) (listed : Array Bool)
def Md.next : Md → Md
  | .seq => .seq
  | .draw [] L => .draw [] L
  | .draw ((i, _) :: r) L => .draw r (L.setIfInBounds i true)
def postN (n : Nat) (s : World) (K : Env → Heap → Prop) : Exit → Act → World → Prop := fun x a w => x = .normal ∧ ∃ e h, Has n e a ∧ G s h w ∧ K e h
def WantE (ops : Array Oper) (o : Oper) (e : Env) (b : Bool) : Prop :=
  match o.guard with
  | none => b = true
  | some (j, want) => ∃ g bv, (ops[j]?).bind (·.dst) = some g ∧ e g = .bool bv ∧ b = (bv == want)
theorem WantE.none {ops : Array Oper} {o : Oper} {e : Env} (h : o.guard = none) : WantE ops o e true := by unfold WantE; rw [h]
theorem WantE.yes {ops : Array Oper} {o : Oper} {e : Env} {j g : Nat} {want bv : Bool} (h : o.guard = some (j, want)) (hg : (ops[j]?).bind (·.dst) = some g) (hv : e g = .bool bv) (hb : bv = want) : WantE ops o e true := by
  unfold WantE; rw [h]; exact ⟨g, bv, hg, hv, by simp [hb]⟩
theorem WantE.no {ops : Array Oper} {o : Oper} {e : Env} {j g : Nat} {want bv : Bool} (h : o.guard = some (j, want)) (hg : (ops[j]?).bind (·.dst) = some g) (hv : e g = .bool bv) (hb : bv = !want) : WantE ops o e false := by
  unfold WantE; rw [h]; exact ⟨g, bv, hg, hv, by subst hb; cases want <;> rfl⟩
theorem WantE.spec {n : Nat} {ops : Array Oper} {o : Oper} {e : Env} {b : Bool} {a : Act} (h : WantE ops o e b) (ha : Has n e a) : Region.wanted o (yielded ops a.tmps) = b := by
  unfold WantE at h
  unfold Region.wanted
  cases hg : o.guard with
  | none => rw [hg] at h; exact h.symm
  | some jw =>
    obtain ⟨j, want⟩ := jw
    rw [hg] at h
    obtain ⟨g, bv, h1, h2, h3⟩ := h
    have h4 := ha.2.2 g
    rw [h2] at h4
    have h5 : a.tmps[g]? = some (.bool bv) := by
      cases hx : a.tmps[g]? with
      | none => simp [Array.getD_eq_getD_getElem?, hx, undef] at h4
      | some x => simp [Array.getD_eq_getD_getElem?, hx] at h4; rw [h4]
    have hy : yielded ops a.tmps j = some bv := by
      unfold yielded
      rw [h1]
      simp [h5]
    simp only [hy, h3]
    cases bv <;> cases want <;> rfl

structure OX (P : Program) (n : Nat) (s : World) (ops : Array Oper) (K : Env → Heap → Prop) (m : Md) (l : List (Oper × Fl)) (e : Env) (h : Heap) : Prop where
  out : (l.all fun p => okd n p.1) = true → match m with
    | .seq => ∀ a w, Has n e a → G s h w → wpList P ops (postN n s K) (l.map (·.1)) a w
    | .draw order listed => Region.noSelect ops = true → pick ops order = some l → chk ops order listed = true → Shut ops listed → ∀ a, Has n e a → DD P ops (postN n s K) s order.length listed a h

section
variable {P : Program} {n : Nat} {s : World} {ops : Array Oper} {K : Env → Heap → Prop} {m : Md} {l : List (Oper × Fl)} {e : Env} {h : Heap} {o : Oper} {f : Fl}
theorem OX.nil (hk : K e h) : OX P n s ops K m [] e h := by
  refine ⟨fun _ => ?_⟩
  cases m with
  | seq => exact fun a w ha hg => ⟨rfl, e, h, ha, hg, hk⟩
  | draw order listed =>
    intro _ hp hc _ a ha
    cases order with
    | cons x r =>
      obtain ⟨i, f⟩ := x
      simp only [pick] at hp
      split at hp <;> simp at hp
    | nil =>
      simp only [chk, List.isEmpty_iff] at hc
      exact ⟨hc, fun w hg => ⟨rfl, e, h, ha, hg, hk⟩⟩
theorem postN_panic {c : List PanicEntry} {a : Act} {w : World} {p : Prop} (hx : postN n s K (.panic c) a w) : p := by
  obtain ⟨hx, _⟩ := hx
  cases hx
theorem pick_cons {i : Nat} {f : Fl} {r : List (Nat × Fl)} {o : Oper} {f' : Fl} (hp : pick ops ((i, f) :: r) = some ((o, f') :: l)) : ops[i]? = some o ∧ f = f' ∧ pick ops r = some l := by
  simp only [pick] at hp
  split at hp
  · rename_i o' l' h1 h2
    simp at hp
    obtain ⟨⟨rfl, rfl⟩, rfl⟩ := hp
    exact ⟨h1, rfl, h2⟩
  · simp at hp
theorem pick_nil_ne {p : Oper × Fl} (hp : pick ops [] = some (p :: l)) {q : Prop} : q := by simp [pick] at hp
/-- the rule of a draw's step -/
theorem OX.step (hw : ∃ b, WantE ops o e b ∧ ((b = false ∧ OX P n s ops K m.next l (updO e o.dst undef) h) ∨
    (b = true ∧ ((∃ v, (Qy P (val e) o s h v ∧ (pureKind o.op = true → ∀ h', Qy P (val e) o s h' v)) ∧ OX P n s ops K m.next l (updO e o.dst v) h) ∨
      (f.grows = true ∧ Gr P (val e) o s h (fun v h' => OX P n s ops K m.next l (updO e o.dst v) h')) ∨
      (f.any = true ∧ Runs P (val e) o s h (fun v h' => OX P n s ops K m.next l (updO e o.dst v) h')))))) : OX P n s ops K m ((o, f) :: l) e h := by
  obtain ⟨b, hwe, hh⟩ := hw
  refine ⟨fun hok => ?_⟩
  have hok2 : okd n o = true ∧ (l.all fun p => okd n p.1) = true := by simpa using hok
  cases m with
  | seq =>
    intro a w ha hg
    have hwn := hwe.spec ha
    simp only [List.map_cons, wpList, hwn]
    rcases hh with ⟨rfl, hk⟩ | ⟨rfl, hk⟩
    · simp only [Bool.false_eq_true, if_false]
      exact hk.out hok2.2 _ _ (ha.putO _ hok2.1) hg
    · simp only [if_true]
      refine .inl ?_
      unfold Oper.wp
      rw [ha.eval]
      rcases hk with ⟨v, ⟨hq, _⟩, hk⟩ | ⟨_, hk⟩ | ⟨_, hk⟩
      · have hq := hq.out w hg.1 hg.2
        generalize (execOp (val e) o).run P w = r at *
        cases r with
        | halt x w' => exact hq.elim
        | ok nx w' =>
          cases nx <;> first
            | exact hq.elim
            | skip
          case value u =>
            obtain ⟨rfl, h1, h2⟩ := hq
            exact hk.out hok2.2 _ _ (ha.putO _ hok2.1) ⟨h1, hg.2.trans h2⟩
          case enter fn args =>
            refine Calls.mono hq fun en w'' ⟨he, h1, h2⟩ => ?_
            subst he
            exact hk.out hok2.2 _ _ (ha.putO _ hok2.1) ⟨h1, hg.2.trans h2⟩
      · have hq := hk.out w hg.1 hg.2
        generalize (execOp (val e) o).run P w = r at *
        cases r with
        | halt x w' => exact hq.elim
        | ok nx w' =>
          cases nx <;> first
            | exact hq.elim
            | skip
          case value u =>
            obtain ⟨h1, h', h2, h3, hk⟩ := hq
            exact hk.out hok2.2 _ _ (ha.putO _ hok2.1) ⟨h1, h3⟩
          case enter fn args =>
            refine Calls.mono hq fun en w'' ⟨v, he, h1, h', h2, h3, hk⟩ => ?_
            subst he
            exact hk.out hok2.2 _ _ (ha.putO _ hok2.1) ⟨h1, h3⟩
      · have hq := hk w hg.1 hg.2
        generalize (execOp (val e) o).run P w = r at *
        cases r with
        | halt x w' => exact hq.elim
        | ok nx w' =>
          cases nx <;> first
            | exact hq.elim
            | skip
          case value u =>
            obtain ⟨h1, h', h3, hk⟩ := hq
            exact hk.out hok2.2 _ _ (ha.putO _ hok2.1) ⟨h1, h3⟩
          case skip =>
            obtain ⟨h1, h', h3, hk⟩ := hq
            exact hk.out hok2.2 _ _ (ha.putO _ hok2.1) ⟨h1, h3⟩
          case enter fn args =>
            refine Calls.mono hq fun en w'' ⟨v, he, h1, h', h3, hk⟩ => ?_
            subst he
            exact hk.out hok2.2 _ _ (ha.putO _ hok2.1) ⟨h1, h3⟩
  | draw order listed =>
    intro hns hp hc hsh a ha
    cases order with
    | nil => exact pick_nil_ne hp
    | cons x r =>
      obtain ⟨i, f'⟩ := x
      obtain ⟨hi, rfl, hp'⟩ := pick_cons hp
      simp only [chk, Bool.and_eq_true] at hc
      obtain ⟨hc1, hc2⟩ := hc
      have hwn := hwe.spec ha
      have hmem : i ∈ Region.ready .any ops listed := by
        cases f' with
        | q => simp only [Bool.and_eq_true] at hc1; simpa using hc1.2
        | g => have h0 : Region.ready .any ops listed = [i] := by simpa using hc1
               rw [h0]; simp
        | z => simp only [Bool.and_eq_true] at hc1
               have h0 : Region.ready .any ops listed = [i] := by simpa using hc1.1
               rw [h0]; simp
      have hsh' : Shut ops (listed.setIfInBounds i true) := by
        obtain ⟨_, o', ho', hall⟩ := mem_ready.1 hmem
        exact hsh.set ho' hall
      have fin : ∀ v h', OX P n s ops K (Md.next (.draw ((i, f') :: r) listed)) l (updO e o.dst v) h' → DD P ops (postN n s K) s r.length (listed.setIfInBounds i true) (a.put o.dst v) h' :=
        fun v h' hk => hk.out hok2.2 hns hp' hc2 hsh' _ (ha.putO _ hok2.1)
      -- the rule where number i alone may come
      have alone : Region.ready .any ops listed = [i] → (∀ w, G s h w → wpOp P ops (postN n s K) i (fun a' w' => ∃ h', (Ext h h' ∨ allBefore ops i = true) ∧ G s h' w' ∧ DD P ops (postN n s K) s r.length (listed.setIfInBounds i true) a' h') a w) →
          DD P ops (postN n s K) s (r.length + 1) listed a h := fun hr hh2 => ⟨fun h0 => absurd (hr.symm.trans h0) (by simp), fun j hj w hg => (by rw [hr] at hj; simp at hj; subst hj; exact hh2 w hg)⟩
      have still : ∀ v, Still P ops s h o v a → (pureKind o.op = true → ∀ h', Still P ops s h' o v a) → DD P ops (postN n s K) s r.length (listed.setIfInBounds i true) (a.put o.dst v) h → DD P ops (postN n s K) s (r.length + 1) listed a h := fun v hy hpu hd => by
        have sole : Region.ready .any ops listed = [i] → DD P ops (postN n s K) s (r.length + 1) listed a h := fun hr => alone hr fun w hg => hy.wpOp hi hg fun w' hg' => ⟨h, .inl (Ext.refl h), hg', hd⟩
        cases f' with
        | q =>
          simp only [Bool.and_eq_true] at hc1
          exact DD.first hi (Region.noSelect_spec hns) (fun c a w hx => postN_panic hx) _ listed a h hsh (Region.free_spec hi hc1.1) (by simpa using hc1.2) hy hpu hd
        | g => exact sole (by simpa using hc1)
        | z => simp only [Bool.and_eq_true] at hc1; exact sole (by simpa using hc1.1)
      show DD P ops (postN n s K) s (r.length + 1) listed a h
      rcases hh with ⟨rfl, hk⟩ | ⟨rfl, hk⟩
      · exact still _ (.inr ⟨hwn, rfl⟩) (fun _ _ => .inr ⟨hwn, rfl⟩) (fin _ _ hk)
      · rcases hk with ⟨v, ⟨hq, hqa⟩, hk⟩ | ⟨hf, hk⟩ | ⟨hf, hk⟩
        · exact still v (.inl ⟨hwn, by rw [ha.eval]; exact hq⟩) (fun hp h' => .inl ⟨hwn, by rw [ha.eval]; exact hqa hp h'⟩) (fin _ _ hk)
        · have hr : Region.ready .any ops listed = [i] := by
            cases f' with
            | q => cases hf
            | g => simpa using hc1
            | z => simp only [Bool.and_eq_true] at hc1; simpa using hc1.1
          refine alone hr fun w hg => ?_
          unfold wpOp
          simp only [hi, hwn, if_true]
          refine .inl ?_
          unfold Oper.wp
          rw [ha.eval]
          have hq := hk.out w hg.1 hg.2
          generalize (execOp (val e) o).run P w = rr at *
          cases rr with
          | halt x w' => exact hq.elim
          | ok nx w' =>
            cases nx <;> first
              | exact hq.elim
              | skip
            case value u =>
              obtain ⟨h1, h', h2, h3, hk⟩ := hq
              exact ⟨h', .inl h2, ⟨h1, h3⟩, fin _ _ hk⟩
            case enter fn args =>
              refine Calls.mono hq fun en w'' ⟨v, he, h1, h', h2, h3, hk⟩ => ?_
              subst he
              exact ⟨h', .inl h2, ⟨h1, h3⟩, fin _ _ hk⟩
        · have hr : Region.ready .any ops listed = [i] ∧ allBefore ops i = true := by
            cases f' with
            | q => cases hf
            | g => cases hf
            | z => simp only [Bool.and_eq_true] at hc1; exact ⟨by simpa using hc1.1, hc1.2⟩
          refine alone hr.1 fun w hg => ?_
          unfold wpOp
          simp only [hi, hwn, if_true]
          refine .inl ?_
          unfold Oper.wp
          rw [ha.eval]
          have hq := hk w hg.1 hg.2
          generalize (execOp (val e) o).run P w = rr at *
          cases rr with
          | halt x w' => exact hq.elim
          | ok nx w' =>
            cases nx <;> first
              | exact hq.elim
              | skip
            case value u =>
              obtain ⟨h1, h', h3, hk⟩ := hq
              exact ⟨h', .inr hr.2, ⟨h1, h3⟩, fin _ _ hk⟩
            case skip =>
              obtain ⟨h1, h', h3, hk⟩ := hq
              exact ⟨h', .inr hr.2, ⟨h1, h3⟩, fin _ _ hk⟩
            case enter fn args =>
              refine Calls.mono hq fun en w'' ⟨v, he, h1, h', h3, hk⟩ => ?_
              subst he
              exact ⟨h', .inr hr.2, ⟨h1, h3⟩, fin _ _ hk⟩
theorem OX.quiet {v : Value} (hw : WantE ops o e true) (hq : Qy P (val e) o s h v) (k : OX P n s ops K m.next l (updO e o.dst v) h) (hpk : pureKind o.op = false) : OX P n s ops K m ((o, f) :: l) e h :=
  OX.step ⟨true, hw, .inr ⟨rfl, .inl ⟨v, ⟨hq, fun hp => by rw [hpk] at hp; cases hp⟩, k⟩⟩⟩
theorem OX.quietA {v : Value} (hw : WantE ops o e true) (hq : ∀ h, Qy P (val e) o s h v) (k : OX P n s ops K m.next l (updO e o.dst v) h) : OX P n s ops K m ((o, f) :: l) e h :=
  OX.step ⟨true, hw, .inr ⟨rfl, .inl ⟨v, ⟨hq h, fun _ => hq⟩, k⟩⟩⟩
theorem OX.skip (hw : WantE ops o e false) (k : OX P n s ops K m.next l (updO e o.dst undef) h) : OX P n s ops K m ((o, f) :: l) e h :=
  OX.step ⟨false, hw, .inl ⟨rfl, k⟩⟩
theorem OX.grow (hf : f.grows = true) (hw : WantE ops o e true) (hq : Gr P (val e) o s h (fun v h' => OX P n s ops K m.next l (updO e o.dst v) h')) : OX P n s ops K m ((o, f) :: l) e h :=
  OX.step ⟨true, hw, .inr ⟨rfl, .inr (.inl ⟨hf, hq⟩)⟩⟩
theorem OX.act (hf : f.any = true) (hw : WantE ops o e true) (hq : Runs P (val e) o s h (fun v h' => OX P n s ops K m.next l (updO e o.dst v) h')) : OX P n s ops K m ((o, f) :: l) e h :=
  OX.step ⟨true, hw, .inr ⟨rfl, .inr (.inr ⟨hf, hq⟩)⟩⟩
/-- a guard that is not decided: both ways -/
theorem OX.split {b : Bool} (hy : b = true → OX P n s ops K m l e h) (hn : b = false → OX P n s ops K m l e h) : OX P n s ops K m l e h := by
  cases b
  · exact hn rfl
  · exact hy rfl
end

/-! ### code -/
theorem oper_wp_q {P : Program} {o : Oper} {a : Act} {w : World} {K : Act → World → Prop} {Q Q' : Exit → Act → World → Prop}
    (hq : ∀ x a w, x ≠ .normal → Q x a w → Q' x a w) (hh : o.wp P a w K Q) : o.wp P a w K Q' := by
  unfold Oper.wp at *
  generalize (execOp a.eval o).run P w = r at *
  cases r with
  | ok n w' =>
    cases n <;> simp only [Oper.upon] at hh ⊢ <;> first
      | exact hh
      | skip
    case enter f args =>
      refine Calls.mono hh fun e w'' he => ?_
      cases e with
      | returned v => exact he
      | panicked c => exact hq _ _ _ (by simp) he
      | outgrown => obtain ⟨a, w, hx⟩ := he; exact ⟨a, w, hq _ _ _ (by simp) hx⟩
  | halt x w' =>
    cases x <;> simp only [Oper.upon] at hh ⊢ <;> first
      | exact hh.elim
      | exact hq _ _ _ (by simp) hh
def postE (n : Nat) (s : World) (Q : Exit → Env → Heap → Prop) : Exit → Act → World → Prop := fun x a w => ∃ e h, Has n e a ∧ G s h w ∧ Q x e h
structure EW (P : Program) (n : Nat) (s : World) (c : Code) (Q : Exit → Env → Heap → Prop) (e : Env) (h : Heap) : Prop where
  out : ∀ a w, Has n e a → G s h w → c.wp P (postE n s Q) a w
def qThen (K : Env → Heap → Prop) (Q : Exit → Env → Heap → Prop) : Exit → Env → Heap → Prop
  | .normal, e, h => K e h
  | x, e, h => Q x e h
def qBlock (id : Nat) (Q : Exit → Env → Heap → Prop) : Exit → Env → Heap → Prop
  | .exit i, e, h => if i = id then Q .normal e h else Q (.exit i) e h
  | x, e, h => Q x e h
section
variable {P : Program} {n : Nat} {s : World} {Q : Exit → Env → Heap → Prop} {e : Env} {h : Heap} {K : Env → Heap → Prop}
theorem EW.mono {c : Code} {Q' : Exit → Env → Heap → Prop} (k : EW P n s c Q e h) (hq : ∀ x e h, Q x e h → Q' x e h) : EW P n s c Q' e h :=
  ⟨fun a w ha hg => wp_mono (k.out a w ha hg) fun x a w ⟨e, h, h1, h2, h3⟩ => ⟨e, h, h1, h2, hq _ _ _ h3⟩⟩
theorem EW.seq {x y : Code} (k : EW P n s x (qThen (fun e h => EW P n s y Q e h) Q) e h) : EW P n s (.seq x y) Q e h := by
  refine ⟨fun a w ha hg => wp_seq (wp_mono (k.out a w ha hg) fun x a w ⟨e, h, h1, h2, h3⟩ => ?_)⟩
  cases x <;> first
    | exact (EW.out h3) a w h1 h2
    | exact ⟨e, h, h1, h2, h3⟩
theorem EW.skip (k : Q .normal e h) : EW P n s .skip Q e h := ⟨fun a w ha hg => wp_skip ⟨e, h, ha, hg, k⟩⟩
theorem EW.label {l : Nat} (k : Q .normal e h) : EW P n s (.label l) Q e h := ⟨fun a w ha hg => wp_label ⟨e, h, ha, hg, k⟩⟩
theorem EW.exit {id : Nat} (k : Q (.exit id) e h) : EW P n s (.exit id) Q e h := ⟨fun a w ha hg => wp_exit ⟨e, h, ha, hg, k⟩⟩
theorem EW.goto {l : Nat} (k : Q (.goto l) e h) : EW P n s (.goto l) Q e h := ⟨fun a w ha hg => wp_goto ⟨e, h, ha, hg, k⟩⟩
theorem EW.ret (k : Q .ret e h) : EW P n s .ret Q e h := ⟨fun a w ha hg => wp_ret ⟨e, h, ha, hg, k⟩⟩
theorem EW.cond {c : Operand} {x y : Code} {b : Bool} (hc : val e c = .bool b) (ht : b = true → EW P n s x Q e h) (hf : b = false → EW P n s y Q e h) : EW P n s (.cond c x y) Q e h := by
  refine ⟨fun a w ha hg => wp_cond (t := b) (by rw [ha.eval]; exact hc) ?_⟩
  cases b
  · exact (hf rfl).out a w ha hg
  · exact (ht rfl).out a w ha hg
theorem EW.cond_t {c : Operand} {x y : Code} {b : Bool} (hc : val e c = .bool b) (hb : b = true) (k : EW P n s x Q e h) : EW P n s (.cond c x y) Q e h :=
  EW.cond hc (fun _ => k) (fun hx => by rw [hb] at hx; cases hx)
theorem EW.cond_f {c : Operand} {x y : Code} {b : Bool} (hc : val e c = .bool b) (hb : b = false) (k : EW P n s y Q e h) : EW P n s (.cond c x y) Q e h :=
  EW.cond hc (fun hx => by rw [hb] at hx; cases hx) (fun _ => k)
theorem EW.block {id : Nat} {c : Code} (k : EW P n s c (qBlock id Q) e h) : EW P n s (.block id c) Q e h := by
  refine ⟨fun a w ha hg => wp_block (wp_mono (k.out a w ha hg) fun x a w ⟨e, h, h1, h2, h3⟩ => ?_)⟩
  cases x
  case exit i =>
    simp only [qBlock] at h3
    simp only [Exit.inBlock]
    split
    · rename_i hi; rw [if_pos hi] at h3; exact ⟨e, h, h1, h2, h3⟩
    · rename_i hi; rw [if_neg hi] at h3; exact ⟨e, h, h1, h2, h3⟩
  all_goals exact ⟨e, h, h1, h2, h3⟩
/-- a loop over states σ: what the slots hold, what the heap holds, what sinks -/
theorem EW.loop {c : Code} {σ : Type} (I : σ → Env → Heap → Prop) (μ : σ → Nat) (x0 : σ) (h0 : I x0 e h)
    (round : ∀ x e h, I x e h → EW P n s c (qThen (fun e' h' => ∃ x', I x' e' h' ∧ μ x' < μ x) Q) e h) : EW P n s (.loop c) Q e h := by
  refine ⟨fun a w ha hg b kk cs => ?_⟩
  have key : ∀ k : Nat, ∀ x e h a w, μ x = k → I x e h → Has n e a → G s h w →
      ∃ ex a' w', postE n s Q ex a' w' ∧ Arrives P (lone (b.at a (.code c :: .inLoop c :: kk)) cs w) b kk cs ex a' w' := by
    intro k
    induction k using Nat.strongRecOn with
    | _ k ih =>
      intro x e h a w hk hI ha hg
      obtain ⟨ex, a1, w1, ⟨e1, h1, g1, g2, g3⟩, harr⟩ := (round x e h hI).out a w ha hg b (.inLoop c :: kk) cs
      cases ex with
      | normal =>
        obtain ⟨x', hI', hlt⟩ := g3
        obtain ⟨ex2, a2, w2, hq2, harr2⟩ := ih (μ x') (hk ▸ hlt) x' e1 h1 a1 w1 rfl hI' g1 g2
        exact ⟨ex2, a2, w2, hq2, .of_steps (Steps.trans harr (.one step_inLoop)) harr2⟩
      | exit id => exact ⟨_, a1, w1, ⟨e1, h1, g1, g2, g3⟩, .pass (x := .inLoop c) rfl (fun _ _ => .inl (by simp)) harr⟩
      | goto l => exact ⟨_, a1, w1, ⟨e1, h1, g1, g2, g3⟩, .pass (x := .inLoop c) rfl (fun _ _ => .inl (by simp)) harr⟩
      | ret => exact ⟨_, a1, w1, ⟨e1, h1, g1, g2, g3⟩, .pass (x := .inLoop c) rfl (fun _ _ => .inl (by simp)) harr⟩
      | panic ch => exact ⟨_, a1, w1, ⟨e1, h1, g1, g2, g3⟩, .pass (x := .inLoop c) rfl (fun _ _ => .inl (by simp)) harr⟩
      | outgrown => exact ⟨_, a1, w1, ⟨e1, h1, g1, g2, g3⟩, .pass (x := .inLoop c) rfl (fun _ _ => .inl (by simp)) harr⟩
  obtain ⟨ex, a', w', hq, harr⟩ := key _ x0 e h a w rfl h0 ha hg
  exact ⟨ex, a', w', hq, .of_steps (.one step_loop) harr⟩
/-- what the slots of a loop hold -/
def Sl (l : List (Nat × Value)) (e : Env) : Prop := match l with | [] => True | (t, v) :: r => e t = v ∧ Sl r e
def updL (e : Env) : List (Nat × Value) → Env
  | [] => e
  | (t, v) :: r => upd (updL e r) t v
theorem upd_same {e : Env} {t : Nat} {v : Value} (hv : e t = v) : upd e t v = e := by
  funext u
  unfold upd
  cases hb : Nat.beq u t with
  | false => rfl
  | true => have := Nat.eq_of_beq_eq_true hb; subst this; simp [hv]
theorem updL_same : ∀ {l : List (Nat × Value)} {e : Env}, Sl l e → updL e l = e
  | [], _, _ => rfl
  | (t, v) :: r, e, hs => by
    simp only [updL, updL_same hs.2]
    exact upd_same hs.1
/-- the loop's rule as it is used: x0 the state at the begin; slots x what is held by name; R x what else holds -/
theorem EW.loopS {c : Code} {σ : Type} (slots : σ → List (Nat × Value)) (R : σ → Heap → Prop) (μ : σ → Nat) (x0 : σ) (hs0 : Sl (slots x0) e) (h0 : R x0 h)
    (round : ∀ x e h, R x h → EW P n s c (qThen (fun e' h' => ∃ x', Sl (slots x') e' ∧ R x' h' ∧ μ x' < μ x) Q) (updL e (slots x)) h) : EW P n s (.loop c) Q e h :=
  EW.loop (fun x e h => Sl (slots x) e ∧ R x h) μ x0 ⟨hs0, h0⟩ fun x e h ⟨h1, h2⟩ => by
    have := round x e h h2
    rw [updL_same h1] at this
    exact this.mono fun ex e' h' hq => by
      cases ex <;> first
        | exact hq
        | (obtain ⟨x', a, b, c⟩ := hq; exact ⟨x', ⟨a, b⟩, c⟩)

theorem EW.seqRegion {id : Nat} {ops : Array Oper} (hd : ((tag ops.toList).all fun p => okd n p.1) = true) (k : OX P n s ops (fun e h => Q .normal e h) .seq (tag ops.toList) e h) : EW P n s (.region id ops false) Q e h := by
  refine ⟨fun a w ha hg => wp_region_list ?_⟩
  have h1 := k.out hd a w ha hg
  have ht : ∀ l : List Oper, (tag l).map (·.1) = l := fun l => by induction l with | nil => rfl | cons o l ih => simp [tag, ih]
  rw [ht] at h1
  have hm : ∀ (l : List Oper) (a : Act) (w : World), wpList P ops (postN n s fun e h => Q .normal e h) l a w → wpList P ops (postE n s Q) l a w := by
    intro l
    induction l with
    | nil => exact fun a w ⟨_, e, h, h1, h2, h3⟩ => ⟨e, h, h1, h2, h3⟩
    | cons o l ih =>
      intro a w hh
      unfold wpList at hh ⊢
      split
      · rename_i hw
        rw [if_pos hw] at hh
        rcases hh with hh | ⟨_, a, w, hx, _⟩
        · refine .inl ?_
          have hh2 := Oper.wp_mono (K' := wpList P ops (postE n s Q) l) ih hh
          exact oper_wp_q (fun x a w hn hx => by obtain ⟨hx, _⟩ := hx; exact absurd hx hn) hh2
        · cases hx
      · rename_i hw
        rw [if_neg hw] at hh
        exact ih _ _ hh
  exact hm _ _ _ h1
theorem EW.drawRegion {id : Nat} {ops : Array Oper} (order : List (Nat × Fl)) {l : List (Oper × Fl)} (hm : P.follows .mixedOrders = true) (hlen : order.length = ops.size) (hns : Region.noSelect ops = true)
    (hp : pick ops order = some l) (hc : chk ops order (Array.replicate ops.size false) = true) (hd : (l.all fun p => okd n p.1) = true)
    (k : OX P n s ops (fun e h => Q .normal e h) (.draw order (Array.replicate ops.size false)) l e h) : EW P n s (.region id ops true) Q e h := by
  refine ⟨fun a w ha hg => wp_mono (Q := postN n s fun e h => Q .normal e h) (wp_region_any hm ?_) ?_⟩
  · have h1 := k.out hd hns hp hc (fun j o _ hl => by simp [Array.getElem?_replicate] at hl; split at hl <;> simp at hl) a ha
    rw [hlen] at h1
    exact wpAny_of_DD _ _ _ h { w with drawn := w.drawn + 1 } ⟨⟨hg.1.1, hg.1.2.1, hg.1.2.2⟩, hg.2⟩ h1
  · rintro x a w ⟨rfl, e, h, h1, h2, h3⟩
    exact ⟨e, h, h1, h2, h3⟩
end
end Go.Px
