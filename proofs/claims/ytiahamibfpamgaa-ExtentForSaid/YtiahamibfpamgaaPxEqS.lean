/- Struct values held against each other. No program of its own. -/
import Derived.Test.YtiahamibfpamgaaPxEls
import Derived.Laws.StructEq
set_option linter.unusedVariables false
set_option linter.unusedSimpArgs false
namespace Go.Px
def partV (P : Program) (t : TypeId) (cs : List Value) (off : Nat) : Option Value :=
  match tAgg P t with
  | some true => (tSize P t).map fun n => .agg ((cs.drop off).take n).toArray
  | some false => cs[off]?
  | none => none
theorem partV_sound {P : Program} {t : TypeId} {cs : Array Value} {off : Nat} {v : Value} (h : partV P t cs.toList off = some v) (w : World) : (part t cs off).run P w = .ok v w := by
  unfold partV at h
  split at h
  · rename_i ha
    cases hz : tSize P t with
    | none => rw [hz] at h; cases h
    | some n =>
      rw [hz] at h
      simp only [Option.map_some, Option.some.injEq] at h
      subst h
      simp [part, run_tAgg ha, run_tSize hz]
      apply Array.ext'
      simp [List.drop_take]
  · rename_i ha
    have h' : cs[off]? = some v := by simpa using h
    simp [part, run_tAgg ha, h']
  · cases h
def eqFV (rec : TypeId → Value → Value → Option Bool) (P : Program) (xs ys : List Value) : List Field → Option Bool
  | [] => some true
  | f :: fs => match partV P f.type xs f.offset, partV P f.type ys f.offset with
    | some a, some b => match rec f.type a b, eqFV rec P xs ys fs with
      | some r, some r' => some (r && r')
      | _, _ => none
    | _, _ => none
def eqV (P : Program) : Nat → TypeId → Value → Value → Option Bool
  | 0, _, _, _ => none
  | d + 1, t, x, y => match P.underlying t, x, y with
    | some .bool, .bool a, .bool b => some (a == b)
    | some (.int _), .int k a, .int k' b => if k = k' then some (decide (a = b)) else none
    | some .string, .string a, .string b => some (decide (a = b))
    | some (.struct fs), .agg xs, .agg ys => eqFV (eqV P d) P xs.toList ys.toList fs.toList
    | _, _, _ => none
/-- of a struct type: no blank field, nothing that the model stands in for -/
def plainT (P : Program) : Nat → TypeId → Bool
  | 0, _ => false
  | d + 1, t => match P.underlying t with
    | some (.struct fs) => !P.stoodInHeld t && fs.toList.all fun f => f.name != "_" && plainT P d f.type
    | some (.interface _) => false
    | some (.array _ _) => false
    | _ => true
theorem eqV_sound {P : Program} : ∀ (k : Nat) (t : TypeId) (x y : Value) (r : Bool), plainT P k t = true → eqV P k t x y = some r → ∀ d w, (Op.equalIn (d + k) t x y).run P w = .ok r w := by
  intro k
  induction k with
  | zero => intro t x y r _ h; simp [eqV] at h
  | succ k ih =>
    intro t x y r hp h d w
    unfold eqV at h
    split at h
    · rename_i hd; simp at h; subst h; simp [← Nat.add_assoc, Op.equalIn, run_underlying hd]
    · rename_i hd
      split at h
      · rename_i hk; subst hk; simp at h; subst h; simp [← Nat.add_assoc, Op.equalIn, run_underlying hd]; rfl
      · cases h
    · rename_i a b hd
      simp at h; subst h
      have : (a == b) = decide (a = b) := by rw [beq_toListBytes, toList_eq_iff]
      simp [← Nat.add_assoc, Op.equalIn, run_underlying hd, this]
    · rename_i fs xs ys hd
      unfold plainT at hp
      simp only [hd, Bool.and_eq_true, Bool.not_eq_true', List.all_eq_true] at hp
      obtain ⟨hp1, hp2⟩ := hp
      have hf : P.fieldsOf t = fs := by simp [Program.fieldsOf, hd]
      rw [← Nat.add_assoc, run_equalIn_struct w (d + k) t xs ys (by rw [hf]; exact hd) hp1, hf]
      have key : ∀ (l : List Field) (r : Bool), (∀ f ∈ l, (f.name != "_") = true ∧ plainT P k f.type = true) → eqFV (eqV P k) P xs.toList ys.toList l = some r → ∀ w, (Op.eqFields (d + k) xs ys l).run P w = .ok r w := by
        intro l
        induction l with
        | nil => intro r _ h w; simp [eqFV] at h; subst h; rfl
        | cons f l ihl =>
          intro r hall h w
          unfold eqFV at h
          split at h
          · rename_i a b ha hb
            split at h
            · rename_i r1 r2 hr1 hr2
              simp at h
              subst h
              obtain ⟨hn, hpl⟩ := hall f (by simp)
              have hn' : f.name ≠ "_" := by simpa using hn
              have e1 := partV_sound ha w
              have e2 := partV_sound hb w
              have e3 := ih f.type a b r1 hpl hr1 d w
              have e4 := ihl r2 (fun g hg => hall g (by simp [hg])) hr2 w
              rw [Op.eqFields, if_pos hn']
              simp only [Sem.run_bind, e1, e2, e3, Result.andThen_ok]
              cases r1
              · simp
              · simpa using e4
            · cases h
          · cases h
      exact key fs.toList r hp2 h w
    · cases h
section
variable {P : Program} {ρ : Operand → Value} {o : Oper} {s : World} {h : Heap}
theorem Qy.eqAgg {op : BinOp} {t t' : TypeId} {x y : Operand} {a b : Array Value} {r r' : Bool} (ho : o.op = .binOp op t x y t') (hx : ρ x = .agg a) (hy : ρ y = .agg b) (hp : (plainT P 3 t && !P.eqGuardType P.depth t) = true)
    (hr : eqV P 3 t (.agg a) (.agg b) = some r) (hr' : nilOp op r = some r') : Qy P ρ o s h (.bool r') := by
  simp only [Bool.and_eq_true, Bool.not_eq_true'] at hp
  refine Qy.pure fun w => ?_
  have h1 : ∀ w, (Op.equal t (.agg a) (.agg b)).run P w = .ok r w := eqV_sound 3 t _ _ r hp.1 hr 9997
  have h2 : ∀ w, (eqGuard op t x y (.agg a) (.agg b)).run P w = .ok () w := fun w => by
    cases op <;> simp [eqGuard, hp.2]
  have hno : ∀ op, binOp op t (.agg a) (.agg b) = match op with | .eql => (do Pure.pure (Value.bool (← Op.equal t (.agg a) (.agg b)))) | .neq => (do Pure.pure (Value.bool (!(← Op.equal t (.agg a) (.agg b))))) | op => binOp op t (.agg a) (.agg b) := fun op => by cases op <;> rfl
  cases op <;> simp only [nilOp, Option.some.injEq, reduceCtorEq] at hr' <;> subst hr' <;>
    simp [execOp, ho, hx, hy, h2, hno, h1]
end
section
variable {P : Program} {ρ : Operand → Value} {o : Oper} {s : World} {h : Heap}
open Enc (enc)
/-- a cell of an element, through two fields -/
theorem Qy.loadEl2 {α : Type} [Enc α] [Inhabited α] {t : TypeId} {x : Operand} {A : Option Addr} {xs : List α} {i : Int} {z j k : Nat} {v : Value} (ho : o.op = .load t x) (hx : ρ x = .pointer (some ((((adr A).add (i.toNat * z)).add j).add k))) (ht : tAgg P t = some false)
    (hr : Rd h A xs) (hz : Enc.k α = z) (hb : 0 ≤ i ∧ i < xs.length) (hv : (enc (ix xs i))[j + k]? = some v) : Qy P ρ o s h v :=
  Qy.loadEl (j := j + k) ho (by rw [hx, add_add _ j k]) ht hr hz hb hv
/-- a struct in an element -/
theorem Qy.loadPart {α : Type} [Enc α] [Inhabited α] {t : TypeId} {x : Operand} {A : Option Addr} {xs : List α} {i : Int} {z j n : Nat} {cs : List Value} (ho : o.op = .load t x) (hx : ρ x = .pointer (some (((adr A).add (i.toNat * z)).add j))) (ht : tAgg P t = some true) (hs : tSize P t = some n)
    (hr : Rd h A xs) (hz : Enc.k α = z) (hb : 0 ≤ i ∧ i < xs.length) (hv : forceL (((enc (ix xs i)).drop j).take n) = some cs) (hl : cs.length = n) : Qy P ρ o s h (.agg cs.toArray) := by
  subst hz
  subst hl
  refine Qy.loadk ho hx ht hs ?_
  have := (hr.at_ hb.1 hb.2).drop j cs.length
  rwa [forceL_eq hv] at this
end
theorem and_mask (k : IntKind) (a : Int) (j : Nat) (m : Int) (hm : m = ((2 ^ j - 1 : Nat) : Int)) (hj : j < k.bits) (hw : k.wrap (a % (2 ^ j : Nat)) = a % (2 ^ j : Nat)) : ibits .and k a m = a % ((2 ^ j : Nat) : Int) := by
  subst hm
  unfold ibits
  simp only [BitVec.toNat_and, BitVec.toNat_ofInt]
  have hp : (2 : Nat) ^ j < 2 ^ k.bits := Nat.pow_lt_pow_right (by omega) hj
  have hp0 : 0 < (2 : Nat) ^ j := Nat.pow_pos (by omega)
  have h1 : (((2 ^ j - 1 : Nat) : Int) % ((2 ^ k.bits : Nat) : Int)).toNat = 2 ^ j - 1 := by
    rw [Int.emod_eq_of_lt (by omega) (by omega)]; rfl
  rw [h1, Nat.and_two_pow_sub_one_eq_mod]
  have hd : (2 : Nat) ^ j ∣ 2 ^ k.bits := Nat.pow_dvd_pow _ (by omega)
  have hpk : 0 < (2 : Nat) ^ k.bits := Nat.pow_pos (by omega)
  have h2 : (((a % ((2 ^ k.bits : Nat) : Int)).toNat % 2 ^ j : Nat) : Int) = a % ((2 ^ j : Nat) : Int) := by
    have hnn := Int.emod_nonneg a (show ((2 ^ k.bits : Nat) : Int) ≠ 0 by omega)
    rw [Int.natCast_emod, Int.toNat_of_nonneg hnn]
    exact Int.emod_emod_of_dvd a (Int.natCast_dvd_natCast.2 hd)
  rw [h2]
  exact hw
theorem Qy.andm {P : Program} {ρ : Operand → Value} {o : Oper} {s : World} {h : Heap} {t t' : TypeId} {x y : Operand} {a m : Int} (j : Nat) (n : Int) (ho : o.op = .binOp .and t x y t') (hx : ρ x = .int .i64 a) (hy : ρ y = .int .i64 m) (hm : m = ((2 ^ j - 1 : Nat) : Int)) (hn : n = ((2 ^ j : Nat) : Int)) (hj : (decide (j < 63)) = true) : Qy P ρ o s h (.int .i64 (a % n)) := by
  have hj := of_decide_eq_true hj
  subst hn
  have := Qy.bits (P := P) (s := s) (h := h) ho rfl hx hy
  rw [and_mask .i64 a j m hm (by show j < 64; omega)] at this
  · exact this
  · have hp0 : 0 < (2 : Nat) ^ j := Nat.pow_pos (by omega)
    have hp : (2 : Nat) ^ j ≤ 2 ^ 62 := Nat.pow_le_pow_right (by omega) (by omega)
    have h1 := Int.emod_nonneg a (show ((2 ^ j : Nat) : Int) ≠ 0 by omega)
    have h2 := Int.emod_lt_of_pos a (show 0 < ((2 ^ j : Nat) : Int) by omega)
    exact wrap_i64 (by omega) (by omega)
theorem Qy.shrn {P : Program} {ρ : Operand → Value} {o : Oper} {s : World} {h : Heap} {t t' : TypeId} {x y : Operand} {k k' : IntKind} {a b : Int} (j : Nat) (c : Int) (ho : o.op = .binOp .shr t x y t') (hx : ρ x = .int k a) (hy : ρ y = .int k' b) (hb : b = (j : Int)) (hc : c = ((2 ^ j : Nat) : Int)) (hj : Nat.ble j k.bits = true) (ha : 0 ≤ a) : Qy P ρ o s h (.int k (a / c)) := by
  subst hb; subst hc
  have hj := Nat.le_of_ble_eq_true hj
  have := Qy.shr (P := P) (s := s) (h := h) ho hx hy (by omega)
  rw [Int.toNat_natCast, Nat.min_eq_left hj, Int.fdiv_eq_ediv_of_nonneg _ (Int.pow_nonneg (by omega))] at this
  have e : ((2 : Int) ^ j) = ((2 ^ j : Nat) : Int) := by simp
  rwa [e] at this
theorem Qy.shln {P : Program} {ρ : Operand → Value} {o : Oper} {s : World} {h : Heap} {t t' : TypeId} {x y : Operand} {k k' : IntKind} {a b : Int} (j : Nat) (c : Int) (ho : o.op = .binOp .shl t x y t') (hx : ρ x = .int k a) (hy : ρ y = .int k' b) (hb : b = (j : Int)) (hc : c = ((2 ^ j : Nat) : Int)) (hj : Nat.ble j k.bits = true) : Qy P ρ o s h (.int k (k.wrap (a * c))) := by
  subst hb; subst hc
  have hj := Nat.le_of_ble_eq_true hj
  have := Qy.shl (P := P) (s := s) (h := h) ho hx hy (by omega)
  rw [Int.toNat_natCast, Nat.min_eq_left hj] at this
  have e : ((2 : Int) ^ j) = ((2 ^ j : Nat) : Int) := by simp
  rwa [e] at this
theorem wrap_u64 (a : Int) : IntKind.u64.wrap a = a % 18446744073709551616 := by simp [IntKind.wrap, IntKind.bits, IntKind.signed]
theorem wrap_u8' (a : Int) : IntKind.u8.wrap a = a % 256 := by simp [IntKind.wrap, IntKind.bits, IntKind.signed]
def inK (k : IntKind) (a : Int) : Prop := k.min ≤ a ∧ a ≤ k.max
theorem wrap_in {k : IntKind} {a : Int} (h : k.wrap a = a) {P : Program} {ρ : Operand → Value} {o : Oper} {s : World} {hh : Heap} (q : Qy P ρ o s hh (.int k (k.wrap a))) : Qy P ρ o s hh (.int k a) := by rwa [h] at q
/-- a conversion that changes nothing, or cuts -/
theorem Qy.convSame {P : Program} {ρ : Operand → Value} {o : Oper} {s : World} {h : Heap} {t t' : TypeId} {x : Operand} {k k' : IntKind} {a : Int} (ho : o.op = .convert t t' x) (hx : ρ x = .int k a) (hs : isInt P t = some k) (ht : isInt P t' = some k') (h0 : 0 ≤ a ∧ a ≤ (match k' with | .u8 => 255 | .u16 => 65535 | .u32 => 4294967295 | .u64 => 18446744073709551615 | .i8 => 127 | .i16 => 32767 | .i32 => 2147483647 | .i64 => 9223372036854775807)) : Qy P ρ o s h (.int k' a) := by
  refine wrap_in ?_ (Qy.convInt ho hx hs ht)
  cases k' <;> simp [IntKind.wrap, IntKind.bits, IntKind.signed] at h0 ⊢ <;> omega
theorem Qy.convU8 {P : Program} {ρ : Operand → Value} {o : Oper} {s : World} {h : Heap} {t t' : TypeId} {x : Operand} {k : IntKind} {a : Int} (ho : o.op = .convert t t' x) (hx : ρ x = .int k a) (hs : isInt P t = some k) (ht : isInt P t' = some .u8) : Qy P ρ o s h (.int .u8 (a % 256)) := by
  have := Qy.convInt (P := P) (s := s) (h := h) ho hx hs ht
  rwa [wrap_u8'] at this
end Go.Px
