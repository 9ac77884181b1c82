/- Struct values held against each other. No program of its own. -/
import Derived.Test.YtiahamibfpamgaaPxEls
import Derived.Laws.StructEq
set_option linter.unusedVariables false
set_option linter.unusedSimpArgs false
namespace Go.Px
def partV (P : Program) (t : TypeId) (cs : List Value) (off : Nat) : Option Value :=
  match tAgg P t with
  | some true => (tSize P t).map fun n => .agg ((cs.drop off).take n).toArray
  | some false => cs[off]?
  | none => none
theorem partV_sound {P : Program} {t : TypeId} {cs : Array Value} {off : Nat} {v : Value} (h : partV P t cs.toList off = some v) (w : World) : (part t cs off).run P w = .ok v w := by
  unfold partV at h
  split at h
  · rename_i ha
    cases hz : tSize P t with
    | none => rw [hz] at h; cases h
    | some n =>
      rw [hz] at h
      simp only [Option.map_some, Option.some.injEq] at h
      subst h
      simp [part, run_tAgg ha, run_tSize hz]
      apply Array.ext'
      simp [List.drop_take]
  · rename_i ha
    have h' : cs[off]? = some v := by simpa using h
    simp [part, run_tAgg ha, h']
  · cases h
def eqFV (rec : TypeId → Value → Value → Option Bool) (P : Program) (xs ys : List Value) : List Field → Option Bool
  | [] => some true
  | f :: fs => match partV P f.type xs f.offset, partV P f.type ys f.offset with
    | some a, some b => match rec f.type a b, eqFV rec P xs ys fs with
      | some r, some r' => some (r && r')
      | _, _ => none
    | _, _ => none
def eqV (P : Program) : Nat → TypeId → Value → Value → Option Bool
  | 0, _, _, _ => none
  | d + 1, t, x, y => match P.underlying t, x, y with
    | some .bool, .bool a, .bool b => some (a == b)
    | some (.int _), .int k a, .int k' b => if k = k' then some (decide (a = b)) else none
    | some .string, .string a, .string b => some (decide (a = b))
    | some (.struct fs), .agg xs, .agg ys => eqFV (eqV P d) P xs.toList ys.toList fs.toList
    | _, _, _ => none
/-- of a struct type: no blank field, nothing that the model stands in for -/
def plainT (P : Program) : Nat → TypeId → Bool
  | 0, _ => false
  | d + 1, t => match P.underlying t with
    | some (.struct fs) => !P.stoodInHeld t && fs.toList.all fun f => f.name != "_" && plainT P d f.type
    | some (.interface _) => false
    | some (.array _ _) => false
    | _ => true
theorem eqV_sound {P : Program} : ∀ (k : Nat) (t : TypeId) (x y : Value) (r : Bool), plainT P k t = true → eqV P k t x y = some r → ∀ d w, (Op.equalIn (d + k) t x y).run P w = .ok r w := by
  intro k
  induction k with
  | zero => intro t x y r _ h; simp [eqV] at h
  | succ k ih =>
    intro t x y r hp h d w
    unfold eqV at h
    split at h
    · rename_i hd; simp at h; subst h; simp [← Nat.add_assoc, Op.equalIn, run_underlying hd]
    · rename_i hd
      split at h
      · rename_i hk; subst hk; simp at h; subst h; simp [← Nat.add_assoc, Op.equalIn, run_underlying hd]; rfl
      · cases h
    · rename_i a b hd
      simp at h; subst h
      have : (a == b) = decide (a = b) := by rw [beq_toListBytes, toList_eq_iff]
      simp [← Nat.add_assoc, Op.equalIn, run_underlying hd, this]
    · rename_i fs xs ys hd
      unfold plainT at hp
      simp only [hd, Bool.and_eq_true, Bool.not_eq_true', List.all_eq_true] at hp
      obtain ⟨hp1, hp2⟩ := hp
      have hf : P.fieldsOf t = fs := by simp [Program.fieldsOf, hd]
      rw [← Nat.add_assoc, run_equalIn_struct w (d + k) t xs ys (by rw [hf]; exact hd) hp1, hf]
      have key : ∀ (l : List Field) (r : Bool), (∀ f ∈ l, (f.name != "_") = true ∧ plainT P k f.type = true) → eqFV (eqV P k) P xs.toList ys.toList l = some r → ∀ w, (Op.eqFields (d + k) xs ys l).run P w = .ok r w := by
        intro l
        induction l with
        | nil => intro r _ h w; simp [eqFV] at h; subst h; rfl
        | cons f l ihl =>
          intro r hall h w
          unfold eqFV at h
          split at h
          · rename_i a b ha hb
            split at h
            · rename_i r1 r2 hr1 hr2
              simp at h
              subst h
              obtain ⟨hn, hpl⟩ := hall f (by simp)
              have hn' : f.name ≠ "_" := by simpa using hn
              have e1 := partV_sound ha w
              have e2 := partV_sound hb w
              have e3 := ih f.type a b r1 hpl hr1 d w
              have e4 := ihl r2 (fun g hg => hall g (by simp [hg])) hr2 w
              rw [Op.eqFields, if_pos hn']
              simp only [Sem.run_bind, e1, e2, e3, Result.andThen_ok]
              cases r1
              · simp
              · simpa using e4
            · cases h
          · cases h
      exact key fs.toList r hp2 h w
    · cases h
section
variable {P : Program} {ρ : Operand → Value} {o : Oper} {s : World} {h : Heap}
theorem Qy.eqAgg {op : BinOp} {t t' : TypeId} {x y : Operand} {a b : Array Value} {r r' : Bool} (ho : o.op = .binOp op t x y t') (hx : ρ x = .agg a) (hy : ρ y = .agg b) (hp : (plainT P 3 t && !P.eqGuardType P.depth t) = true)
    (hr : eqV P 3 t (.agg a) (.agg b) = some r) (hr' : nilOp op r = some r') : Qy P ρ o s h (.bool r') := by
  simp only [Bool.and_eq_true, Bool.not_eq_true'] at hp
  refine Qy.pure fun w => ?_
  have h1 : ∀ w, (Op.equal t (.agg a) (.agg b)).run P w = .ok r w := eqV_sound 3 t _ _ r hp.1 hr 9997
  have h2 : ∀ w, (eqGuard op t x y (.agg a) (.agg b)).run P w = .ok () w := fun w => by
    cases op <;> simp [eqGuard, hp.2]
  have hno : ∀ op, binOp op t (.agg a) (.agg b) = match op with | .eql => (do Pure.pure (Value.bool (← Op.equal t (.agg a) (.agg b)))) | .neq => (do Pure.pure (Value.bool (!(← Op.equal t (.agg a) (.agg b))))) | op => binOp op t (.agg a) (.agg b) := fun op => by cases op <;> rfl
  cases op <;> simp only [nilOp, Option.some.injEq, reduceCtorEq] at hr' <;> subst hr' <;>
    simp [execOp, ho, hx, hy, h2, hno, h1]
end
end Go.Px
