/- Operations on memory. No program of its own. -/
import Derived.Test.YtiahamibfpamgaaPxMem
import Derived.Maps.AppendAt
set_option linter.unusedVariables false
set_option linter.unusedSimpArgs false
namespace Go.Px
open Enc (enc)
section
variable {P : Program} {ρ : Operand → Value} {o : Oper} {s : World} {h : Heap}

/-! ### addresses -/
theorem isSlice_und {t e : TypeId} (ht : isSlice P t = some e) : P.underlying t = some (.slice e) := by
  unfold isSlice at ht
  split at ht
  · rename_i hd; simp at ht; subst ht; exact hd
  · cases ht
theorem Qy.fieldAddr {t : TypeId} {x : Operand} {i off k : Nat} {b : Bool} {a : Addr} (ho : o.op = .fieldAddr t x i) (hx : ρ x = .pointer (some a)) (hf : fieldOf P t i = some (off, k, b)) (hk : k ≠ 0) : Qy P ρ o s h (.pointer (some (a.add off))) := by
  refine Qy.pure fun w => ?_
  unfold fieldOf at hf
  split at hf
  · rename_i fs hd
    split at hf
    · rename_i f hi
      split at hf
      · rename_i o' k' b' ho' hs hb
        simp at hf
        obtain ⟨rfl, rfl, rfl⟩ := hf
        have ho2 := litN_eq ho'
        subst ho2
        have hi' : fs[i]? = some f := by simpa using hi
        simp [execOp, ho, hx, Instr.fieldAt, run_underlying hd, hi', Instr.sureAddr, fieldPlace, run_tSize hs, hk]
      · cases hf
    · cases hf
  · cases hf
theorem Qy.field {t : TypeId} {x : Operand} {i off k : Nat} {cs : Array Value} {v : Value} (ho : o.op = .field t x i) (hx : ρ x = .agg cs) (hf : fieldOf P t i = some (off, k, false)) (hv : cs.toList[off]? = some v) : Qy P ρ o s h v := by
  refine Qy.pure fun w => ?_
  unfold fieldOf at hf
  split at hf
  · rename_i fs hd
    split at hf
    · rename_i f hi
      split at hf
      · rename_i o' k' b' ho' hs hb
        simp at hf
        obtain ⟨rfl, rfl, rfl⟩ := hf
        have ho2 := litN_eq ho'
        subst ho2
        have hi' : fs[i]? = some f := by simpa using hi
        have hv' : cs[f.offset]? = some v := by simpa using hv
        simp [execOp, ho, hx, Instr.field, run_underlying hd, hi', asAgg, part, run_tAgg hb, hv']
      · cases hf
    · cases hf
  · cases hf
theorem Qy.fieldAgg {t : TypeId} {x : Operand} {i off k : Nat} {cs : Array Value} (ho : o.op = .field t x i) (hx : ρ x = .agg cs) (hf : fieldOf P t i = some (off, k, true)) : Qy P ρ o s h (.agg ((cs.toList.drop off).take k).toArray) := by
  refine Qy.pure fun w => ?_
  unfold fieldOf at hf
  split at hf
  · rename_i fs hd
    split at hf
    · rename_i f hi
      split at hf
      · rename_i o' k' b' ho' hs hb
        simp at hf
        obtain ⟨rfl, rfl, rfl⟩ := hf
        have ho2 := litN_eq ho'
        subst ho2
        have hi' : fs[i]? = some f := by simpa using hi
        have he : cs.extract f.offset (f.offset + k') = ((cs.toList.drop f.offset).take k').toArray := by
          apply Array.ext'
          simp [Array.toList_extract, List.extract_eq_take_drop, List.take_drop]
        simp [execOp, ho, hx, Instr.field, run_underlying hd, hi', asAgg, part, run_tAgg hb, run_tSize hs, he]
      · cases hf
    · cases hf
  · cases hf
theorem Qy.index {t e : TypeId} {x y : Operand} {A : Option Addr} {n c z : Nat} {k : IntKind} {i : Int} (ho : o.op = .indexAddr t x y) (hx : ρ x = .slice A n c) (hy : ρ y = .int k i) (ht : isSlice P t = some e) (hz : tSize P e = some z)
    (hb : 0 ≤ i ∧ i < n) (hA : A.isSome = true) : Qy P ρ o s h (.pointer (some ((adr A).add (i.toNat * z)))) := by
  refine Qy.pure fun w => ?_
  cases A with
  | none => cases hA
  | some a => simp [execOp, ho, hx, hy, Instr.indexAt, asIntOf, run_underlying (isSlice_und ht), hb, run_tSize hz, adr]
theorem Qy.len {t : TypeId} {x : Operand} {A : Option Addr} {n c : Nat} (ho : o.op = .call ⟨.builtin .len, #[x], #[t]⟩) (hx : ρ x = .slice A n c) (ht : (isSlice P t).isSome = true) : Qy P ρ o s h (.int .i64 n) := by
  refine Qy.pure fun w => ?_
  obtain ⟨e, he⟩ := Option.isSome_iff_exists.1 ht
  simp [execOp, ho, resolve, invoke, builtin, Builtin.len_, hx, run_underlying (isSlice_und he), goInt]
theorem Qy.cap {t : TypeId} {x : Operand} {A : Option Addr} {n c : Nat} (ho : o.op = .call ⟨.builtin .cap, #[x], #[t]⟩) (hx : ρ x = .slice A n c) (ht : (isSlice P t).isSome = true) : Qy P ρ o s h (.int .i64 c) := by
  refine Qy.pure fun w => ?_
  obtain ⟨e, he⟩ := Option.isSome_iff_exists.1 ht
  simp [execOp, ho, resolve, invoke, builtin, Builtin.cap_, hx, run_underlying (isSlice_und he), goInt]
theorem isStr_und {t : TypeId} (ht : isStr P t = true) : P.underlying t = some .string := by
  unfold isStr at ht
  split at ht
  · assumption
  · cases ht
theorem Qy.lenStr {t : TypeId} {x : Operand} {b : ByteArray} (ho : o.op = .call ⟨.builtin .len, #[x], #[t]⟩) (hx : ρ x = .string b) (ht : isStr P t = true) : Qy P ρ o s h (.int .i64 b.size) := by
  refine Qy.pure fun w => ?_
  simp [execOp, ho, resolve, invoke, builtin, Builtin.len_, hx, run_underlying (isStr_und ht), goInt]

/-! ### against nil -/
def isFuncT (P : Program) (t : TypeId) : Bool := match P.underlying t with | some (.func _ _ _) => true | _ => false
def nilOp : BinOp → Bool → Option Bool
  | .eql, b => some b
  | .neq, b => some (!b)
  | _, _ => none
/-- '==' and '!=' by what 'equalIn' gives -/
theorem run_eq {t t' : TypeId} {x y : Operand} {a b : Value} {r r' : Bool} {op : BinOp} (ho : o.op = .binOp op t x y t') (hx : ρ x = a) (hy : ρ y = b)
    (hno : ∀ op, binOp op t a b = match op with | .eql => (do pure (.bool (← Op.equal t a b))) | .neq => (do pure (.bool (!(← Op.equal t a b)))) | op => binOp op t a b)
    (hg : ∀ op w, (eqGuard op t x y a b).run P w = .ok () w) (hr : nilOp op r = some r')
    (he : ∀ d w, (Op.equalIn (d + 2) t a b).run P w = .ok r w) : Qy P ρ o s h (.bool r') := by
  refine Qy.pure fun w => ?_
  have h1 : (Op.equal t a b).run P w = .ok r w := he 9998 w
  have h2 := hno op
  cases op <;> simp only [nilOp, Option.some.injEq, reduceCtorEq] at hr <;> subst hr <;>
    simp [execOp, ho, hx, hy, hg, h2, h1]
theorem Qy.nilPtr {op : BinOp} {t t' : TypeId} {x y : Operand} {p : Option Addr} {r : Bool} (ho : o.op = .binOp op t x y t') (hx : ρ x = .pointer p) (hy : ρ y = .pointer none) (ht : isPtr P t = true) (hr : nilOp op p.isNone = some r) : Qy P ρ o s h (.bool r) := by
  unfold isPtr at ht
  split at ht
  · rename_i e hd
    refine run_eq ho hx hy (fun op => by cases op <;> first | rfl | (cases p <;> rfl)) (fun op w => by simp [eqGuard]) hr fun d w => ?_
    cases p <;> simp [Op.equalIn, run_underlying hd]
  · cases ht
theorem Qy.nilSlice {op : BinOp} {t t' : TypeId} {x y : Operand} {p : Option Addr} {n c n' c' : Nat} {r : Bool} (ho : o.op = .binOp op t x y t') (hx : ρ x = .slice p n c) (hy : ρ y = .slice none n' c') (ht : (isSlice P t).isSome = true) (hr : nilOp op p.isNone = some r) : Qy P ρ o s h (.bool r) := by
  obtain ⟨e, he⟩ := Option.isSome_iff_exists.1 ht
  have hd := isSlice_und he
  refine run_eq ho hx hy (fun op => by cases op <;> rfl) (fun op w => by simp [eqGuard]) hr fun d w => ?_
  cases p <;> simp [Op.equalIn, run_underlying hd]
theorem Qy.eqBool {op : BinOp} {t t' : TypeId} {x y : Operand} {a b r : Bool} (ho : o.op = .binOp op t x y t') (hx : ρ x = .bool a) (hy : ρ y = .bool b) (ht : isBoolT P t = true) (hr : nilOp op (a == b) = some r) : Qy P ρ o s h (.bool r) := by
  unfold isBoolT at ht
  split at ht
  · rename_i hd
    refine run_eq ho hx hy (fun op => by cases op <;> rfl) (fun op w => by simp [eqGuard]) hr fun d w => ?_
    simp [Op.equalIn, run_underlying hd]
  · cases ht
/-! ### loads -/
theorem Qy.load1 {t : TypeId} {x : Operand} {a : Addr} {v : Value} (ho : o.op = .load t x) (hx : ρ x = .pointer (some a)) (ht : tAgg P t = some false) (hc : cellH h a = some v) : Qy P ρ o s h v := by
  refine Qy.known fun w hw => ?_
  have : w.cell? a = some v := hw.cell hc
  simp [execOp, ho, hx, Instr.loadAt, Instr.sureAddr, loadVar, run_tAgg ht, load, Sem.run, this]
theorem run_loadCells_at {w : World} {a : Addr} {cs : List Value} (k : At w.heap a cs) : (loadCells a cs.length).run P w = .ok cs.toArray w := by
  have := run_loadCells (P := P) w a cs.length (fun j => cs.getD j undef) (fun j hj => by
    have : cs[j]? = some (cs.getD j undef) := by simp [List.getD_eq_getElem?_getD, hj]
    exact k j _ this)
  rw [this]
  congr 2
  apply List.ext_getElem
  · simp
  · intro i h1 h2
    have h2' : i < cs.length := h2
    simp [List.getD_eq_getElem?_getD, h2']
theorem Qy.loadk {t : TypeId} {x : Operand} {a : Addr} {cs : List Value} (ho : o.op = .load t x) (hx : ρ x = .pointer (some a)) (ht : tAgg P t = some true) (hz : tSize P t = some cs.length) (hc : At h a cs) : Qy P ρ o s h (.agg cs.toArray) := by
  refine Qy.known fun w hw => ?_
  simp [execOp, ho, hx, Instr.loadAt, Instr.sureAddr, loadVar, run_tAgg ht, run_tSize hz, run_loadCells_at (P := P) (hc.ext hw)]
/-- an element, whole or a cell of it -/
theorem Qy.loadEl {α : Type} [Enc α] [Inhabited α] {t : TypeId} {x : Operand} {A : Option Addr} {xs : List α} {i : Int} {z j : Nat} {v : Value} (ho : o.op = .load t x) (hx : ρ x = .pointer (some (((adr A).add (i.toNat * z)).add j))) (ht : tAgg P t = some false)
    (hr : Rd h A xs) (hz : Enc.k α = z) (hb : 0 ≤ i ∧ i < xs.length) (hv : (enc (ix xs i))[j]? = some v) : Qy P ρ o s h v := by
  subst hz
  exact Qy.load1 ho hx ht (hr.at_ hb.1 hb.2 j v hv)
theorem Qy.loadEl0 {α : Type} [Enc α] [Inhabited α] {t : TypeId} {x : Operand} {A : Option Addr} {xs : List α} {i : Int} {z : Nat} {v : Value} (ho : o.op = .load t x) (hx : ρ x = .pointer (some ((adr A).add (i.toNat * z)))) (ht : tAgg P t = some false)
    (hr : Rd h A xs) (hz : Enc.k α = z) (hb : 0 ≤ i ∧ i < xs.length) (hv : (enc (ix xs i))[0]? = some v) : Qy P ρ o s h v := by
  refine Qy.loadEl (j := 0) ho ?_ ht hr hz hb hv
  rw [hx]; simp [Addr.add]
theorem Qy.loadElk {α : Type} [Enc α] [Inhabited α] {t : TypeId} {x : Operand} {A : Option Addr} {xs : List α} {i : Int} {z : Nat} (ho : o.op = .load t x) (hx : ρ x = .pointer (some ((adr A).add (i.toNat * z)))) (ht : tAgg P t = some true) (hs : tSize P t = some (Enc.k α))
    (hr : Rd h A xs) (hz : Enc.k α = z) (hb : 0 ≤ i ∧ i < xs.length) : Qy P ρ o s h (.agg (enc (ix xs i)).toArray) := by
  subst hz
  exact Qy.loadk ho hx ht (by rw [Enc.len]; exact hs) (hr.at_ hb.1 hb.2)

/-! ### new memory -/
theorem alloc_ext {w : World} {o : Obj} : Ext w.heap (w.heap.push o) := ⟨by simp, fun b hb => by rw [Array.getElem?_push]; simp [Nat.ne_of_lt hb]⟩
theorem alloc_blk {w : World} {cs : Array Value} {t : TypeId} : Blk (w.heap.push (.cells cs t)) w.heap.size t cs := by simp [Blk]
theorem Gr.box {t : TypeId} {x : Operand} {v : Value} {K : Value → Heap → Prop} (ho : o.op = .box t x) (hx : ρ x = v)
    (k : ∀ b h', h.size ≤ b → Ext h h' → Blk h' b t v.cells → K (.pointer (some ⟨b, 0, none⟩)) h') : Gr P ρ o s h K := by
  refine ⟨fun w hs hw => ?_⟩
  simp [execOp, ho, hx, Instr.box, newVar, newRow, newObj, Sem.run]
  exact ⟨⟨hs.1, hs.2.1, hs.2.2⟩, w.heap.push (.cells v.cells t), hw.trans alloc_ext, Ext.refl _, k _ _ hw.1 (hw.trans alloc_ext) alloc_blk⟩
theorem Gr.alloc {t : TypeId} {v : Value} {K : Value → Heap → Prop} (ho : o.op = .alloc t) (hz : (P.info? t).bind (·.zero) = some v)
    (k : ∀ b h', h.size ≤ b → Ext h h' → Blk h' b t v.cells → K (.pointer (some ⟨b, 0, none⟩)) h') : Gr P ρ o s h K := by
  refine ⟨fun w hs hw => ?_⟩
  obtain ⟨i, hi, hi2⟩ := Option.bind_eq_some_iff.1 hz
  simp [execOp, ho, Instr.alloc, zeroValue, typeInfo, hi, hi2, newVar, newRow, newObj, Sem.run]
  exact ⟨⟨hs.1, hs.2.1, hs.2.2⟩, w.heap.push (.cells v.cells t), hw.trans alloc_ext, Ext.refl _, k _ _ hw.1 (hw.trans alloc_ext) alloc_blk⟩

/-! ### stores -/
theorem setRow_blk {w : World} {b : Nat} {t : TypeId} {cur : Array Value} (hb : Blk w.heap b t cur) (cs : Array Value) : Blk (w.setRow b cs).heap b t cs := by
  unfold Blk at *
  simp [World.setRow, Array.getElem?_modify, hb]
theorem setRow_chg {w : World} {b : Nat} (cs : Array Value) : Chg [b] w.heap (w.setRow b cs).heap := by
  refine ⟨by simp [World.setRow], fun k hk hm => ?_⟩
  have : ¬ b = k := fun e => hm (by simp [e])
  simp [World.setRow, Array.getElem?_modify, this]
def putAt (cs : Array Value) (off : Nat) (vs : List Value) : Array Value := (cs.toList.take off ++ vs ++ cs.toList.drop (off + vs.length)).toArray
theorem Runs.store {t t' : TypeId} {x y : Operand} {b off : Nat} {a : Addr} {v : Value} {cs : Array Value} {K : Value → Heap → Prop} (ho : o.op = .store t x y) (hx : ρ x = .pointer (some a)) (ha : a = ⟨b, off, none⟩) (hy : ρ y = v)
    (hz : tSize P t = some v.cells.size) (hb : Blk h b t' cs) (hl : off + v.cells.size ≤ cs.size) (h1 : ∀ u ∈ v.cells.toList, u.oneCell' = true)
    (k : ∀ h', Chg [b] h h' → Blk h' b t' (putAt cs off v.cells.toList) → K undef h') : Runs P ρ o s h K := by
  intro w hs hw
  subst ha
  have hst := run_storeCells_at P b off t' v.cells.toList 0 cs w (hb.ext hw) (by simpa using hl) h1
  simp only [Nat.add_zero] at hst
  simp [execOp, ho, hx, hy, Instr.storeAt, Instr.sureAddr, storeVar, run_tSize hz, hst]
  refine ⟨⟨hs.1, hs.2.1, hs.2.2⟩, _, Ext.refl _, k _ ((hw.chg [b]).trans (setRow_chg _)) ?_⟩
  have := setRow_blk (hb.ext hw) (putAt cs off v.cells.toList)
  simpa [putAt] using this

/-! ### rows of one's own: append, make, literals -/
theorem grown_chg {w w' : World} {v : Value} {A : Option Addr} (hg : w.grownBy w' v.ownBlock) (hv : v.ownBlock = A.map (·.block)) : Chg (blk A) w.heap w'.heap := by
  refine ⟨hg.size, fun b hb hm => hg.block b hb ?_⟩
  rw [hv]
  cases A with
  | none => simp
  | some a => simp [blk] at hm ⊢; exact hm
theorem grown_str {w w' : World} {r : Option Nat} (hg : w.grownBy w' r) : Str w w' := ⟨hg.os, hg.tape, hg.output⟩
/-- of the element's type: its zero, its size in cells and in bytes -/
def elemOk (P : Program) (t : TypeId) (k : Nat) (bytes : Nat) : Bool :=
  match P.info? t with
  | some i => (match i.zero with | some z => z.cells.size == k | none => false) && i.size == k && i.bytes == bytes && decide (0 < bytes)
  | none => false
theorem elemOk_spec {t : TypeId} {k bytes : Nat} (hk : elemOk P t k bytes = true) : ∃ i z, P.info? t = some i ∧ i.zero = some z ∧ z.cells.size = k ∧ i.size = k ∧ i.bytes = bytes ∧ 0 < bytes := by
  unfold elemOk at hk
  split at hk
  · rename_i i hi
    simp only [Bool.and_eq_true, beq_iff_eq, decide_eq_true_eq] at hk
    obtain ⟨⟨⟨h1, h2⟩, h3⟩, h4⟩ := hk
    split at h1
    · rename_i z hz; exact ⟨i, z, hi, hz, by simpa using h1, h2, h3, h4⟩
    · cases h1
  · cases hk
theorem Runs.append {α : Type} [Enc α] {sx x : Operand} {t t2 e : TypeId} {A X : Option Addr} {c c' base bytes : Nat} {xs ys : List α} {K : Value → Heap → Prop}
    (ho : o.op = .call ⟨.builtin .append, #[sx, x], #[t, t2]⟩) (ht2 : t2 = t) (ht : isSlice P t = some e) (he : elemOk P e (Enc.k α) bytes = true) (hs : ρ sx = .slice A xs.length c) (hx : ρ x = .slice X ys.length c')
    (own : Own h base e A c xs) (rd : Rd h X ys) (hbase : base ≤ h.size) (hlen : (xs.length + ys.length) * bytes ≤ 140737488355328)
    (k : ∀ A' c' h', Own h' base e A' c' (xs ++ ys) → Chg (blk A) h h' → (blk A' = blk A ∨ ∀ b ∈ blk A', h.size ≤ b) → K (.slice A' (xs ++ ys).length c') h') : Runs P ρ o s h K := by
  intro w hst hw
  subst ht2
  obtain ⟨i, z, hi, hz, hzs, hsz, hby, hpos⟩ := elemOk_spec he
  have hk := Enc.pos (α := α)
  have hpos' : xs.length + ys.length ≤ 140737488355328 := Nat.le_trans (Nat.le_mul_of_pos_right _ hpos) hlen
  have own' := own.ext hw
  have rd' := rd.ext hw
  have hrow := own'.row rfl
  cases X with
  | some a =>
    obtain ⟨v', w', hr, h2, h3, _, h5⟩ := run_append_own_at (P := P) w base t2 o.type e i z (Enc.k α) bytes (isSlice_und ht) hi hz hsz hby hzs hk (.slice A xs.length c) xs.length (encs xs) hrow a ys.length c' (encs ys) (encs_len ys)
      (fun j u hu => rd'.2 j u hu) (encs_one ys) (by simp only [maxLen]; omega) hlen (Nat.le_trans hbase hw.1)
    rw [← encs_append] at h2
    obtain ⟨A', c2, rfl, ho'⟩ := Own.of_row (by simp) h2
    have hA : ∀ (A : Option Addr) n c, (Value.slice A n c).ownBlock = A.map (·.block) := fun A n c => by cases A <;> rfl
    have hc : Chg (blk A) w.heap w'.heap := grown_chg h3 (hA _ _ _)
    simp only [execOp, ho, resolve, invoke, builtin, Sem.run_bind, Sem.run_pure, Result.andThen_ok, List.map_toArray, List.map_cons, List.map_nil, hs, hx, hr]
    refine ⟨hst.trans (grown_str h3), _, Ext.refl _, k _ _ _ ho' ((hw.chg _).trans hc) ?_⟩
    rw [hA, hA] at h5
    rcases h5 with h5 | h5
    · refine .inl ?_
      cases A' <;> cases A <;> simp [blk] at h5 ⊢
      exact h5
    · refine .inr fun b hb => ?_
      cases A' with
      | none => simp [blk] at hb
      | some a' => simp at h5; simp [blk] at hb; rw [hb, h5]; exact hw.1
  | none =>
    have hy : ys = [] := by
      cases ys with
      | nil => rfl
      | cons y ys => exact absurd (rd.1 (by simp)) (by simp)
    subst hy
    have hr : (Builtin.append_ #[t2, t2] o.type #[.slice A xs.length c, .slice none ([] : List α).length c']).run P w = .ok (.slice A xs.length c) w := by
      rcases own with ⟨rfl, rfl, rfl⟩ | ⟨g, cur, rfl, hg1, hg2, hg3, hg4, hg5, hg6⟩
      · simp [Builtin.append_, run_underlying (isSlice_und ht), sizeOf, typeInfo, hi, Builtin.lenOf, Builtin.firstCells]
      · simp [Builtin.append_, run_underlying (isSlice_und ht), sizeOf, typeInfo, hi, Builtin.lenOf, Builtin.firstCells, hg3, storeCells]
    simp only [execOp, ho, resolve, invoke, builtin, Sem.run_bind, Sem.run_pure, Result.andThen_ok, List.map_toArray, List.map_cons, List.map_nil, hs, hx, hr]
    have hkk := k A c w.heap (by rw [List.append_nil]; exact own') (hw.chg _) (.inl rfl)
    rw [List.append_nil] at hkk
    exact ⟨hst, _, Ext.refl _, hkk⟩
theorem Own.fresh {α : Type} [Enc α] {w : World} {t : TypeId} {cs : Array Value} {xs : List α} {base : Nat} (hc : cs.toList = encs xs) (hb : base ≤ w.heap.size) (hm : xs.length ≤ maxLen) : Own (w.heap.push (.cells cs t)) base t (some ⟨w.heap.size, 0, none⟩) xs.length xs := by
  refine .inr ⟨w.heap.size, cs, rfl, hb, alloc_blk, Nat.le_refl _, hm, ?_, ?_⟩
  · rw [← encs_len, ← hc, Array.length_toList]
  · rw [hc, ← encs_len, List.take_length]
/-- make([]T, n) -/
theorem Gr.make {α : Type} [Enc α] {t e : TypeId} {x y : Operand} {k1 k2 : IntKind} {n : Int} {z : α} {bytes : Nat} {K : Value → Heap → Prop} (ho : o.op = .makeSlice t x y) (hx : ρ x = .int k1 n) (hy : ρ y = .int k2 n) (ht : isSlice P t = some e)
    (he : elemOk P e (Enc.k α) bytes = true) (hz : ((P.info? e).bind (·.zero)).map (·.cells.toList) = some (enc z)) (hn : 0 ≤ n ∧ n * bytes ≤ 281474976710656)
    (k : ∀ A h', h.size ≤ (adr A).block → Ext h h' → A.isSome = true → Own h' h.size e A n.toNat (List.replicate n.toNat z) → K (.slice A (List.replicate n.toNat z).length n.toNat) h') : Gr P ρ o s h K := by
  refine ⟨fun w hs hw => ?_⟩
  obtain ⟨i, z', hi, hz', hzs, hsz, hby, hpos⟩ := elemOk_spec he
  have hzc : z'.cells.toList = enc z := by simpa [hi, hz'] using hz
  have hn1 : n ≤ 281474976710656 := by
    have h1 : n * 1 ≤ n * bytes := Int.mul_le_mul_of_nonneg_left (by omega) hn.1
    omega
  have hw1 : IntKind.i64.wrap n = n := wrap_i64 (by omega) (by omega)
  obtain ⟨m, rfl⟩ := Int.eq_ofNat_of_zero_le hn.1
  have hbm : ¬ ((bytes : Int) * (m : Int) > 281474976710656) := by rw [Int.mul_comm]; omega
  have hpow : (2 : Int) ^ 48 = 281474976710656 := by decide
  have hzcs : z'.cells = (enc z).toArray := by rw [← hzc]
  have hcells : (Array.range (m * Enc.k α)).map (fun j => (enc z).toArray[j % (enc z).length]!) = (encs (List.replicate m z)).toArray := by
    apply Array.ext'
    simp only [Array.toList_map, Array.toList_range, List.toList_toArray]
    apply List.ext_getElem
    · simp [encs_len]
    · intro j h1 h2
      have hk := Enc.pos (α := α)
      have hl := Enc.len z
      have hj : j % Enc.k α < (enc z).length := by rw [hl]; exact Nat.mod_lt _ hk
      have hrep : ∀ (m j : Nat) (hj : j < (encs (List.replicate m z)).length), (encs (List.replicate m z))[j] = (enc z)[j % Enc.k α]'(by rw [hl]; exact Nat.mod_lt _ hk) := by
        intro m
        induction m with
        | zero => intro j hj; simp [encs] at hj
        | succ m ih =>
          intro j hj
          have hc : encs (List.replicate (m + 1) z) = enc z ++ encs (List.replicate m z) := by simp [encs, List.replicate_succ]
          rw [List.getElem_of_eq hc]
          rw [List.getElem_append]
          split
          · rename_i hlt
            simp only [Nat.mod_eq_of_lt (show j < Enc.k α by rw [← hl]; exact hlt)]
          · rename_i hge
            rw [ih]
            simp only [hl]
            congr 1
            rw [hl] at hge
            exact (Nat.mod_eq_sub_mod (by omega)).symm
      rw [hrep]
      simp [hl, hj]
      rw [List.getElem?_eq_getElem hj]
      rfl
  have hown := Own.fresh (α := α) (w := w) (t := e) (base := h.size) (cs := (encs (List.replicate m z)).toArray) (xs := List.replicate m z) rfl hw.1 (by simp [maxLen]; omega)
  rw [List.length_replicate] at hown
  have hrun : (Instr.makeSlice t (.int k1 (m : Int)) (.int k2 (m : Int))).run P w = .ok (.slice (some ⟨w.heap.size, 0, none⟩) m m) { w with heap := w.heap.push (.cells (encs (List.replicate m z)).toArray e) } := by
    by_cases h0 : m * Enc.k α = 0
    · have hm0 : m = 0 := by
        rcases Nat.mul_eq_zero.1 h0 with h | h
        · exact h
        · have := Enc.pos (α := α); omega
      subst hm0
      have hw0 : IntKind.i64.wrap 0 = 0 := wrap_i64 (by omega) (by omega)
      simp [Instr.makeSlice, run_underlying (isSlice_und ht), asInt, asIntOf, typeInfo, hi, hby, hw0, askRoom, sizeOf, hsz, newRow, newObj, Sem.run, encs, show Array.range 0 = #[] from rfl]
      try rfl
    · simp only [Instr.makeSlice]
      simp [run_underlying (isSlice_und ht), asInt, asIntOf, typeInfo, hi, hby, hw1, hpow, hbm, askRoom, sizeOf, hsz, h0, zeroValue, hz', hzcs, newRow, newObj]
      simp at hcells
      have hmn : ¬ ((m : Int) < 0) := by omega
      split <;> simp_all [Sem.run, mark] <;> try rfl
  simp [execOp, ho, hx, hy, hrun]
  have hkk := k (some ⟨w.heap.size, 0, none⟩) (w.heap.push (.cells (encs (List.replicate m z)).toArray e)) hw.1 (hw.trans alloc_ext) rfl (by simpa using hown)
  simp only [List.length_replicate, Int.toNat_natCast] at hkk
  exact ⟨⟨hs.1, hs.2.1, hs.2.2⟩, _, hw.trans alloc_ext, Ext.refl _, hkk⟩
theorem Qy.indexRd {α : Type} [Enc α] {t e : TypeId} {x y : Operand} {A : Option Addr} {n c z : Nat} {k : IntKind} {i : Int} {xs : List α} {h0 : Heap} (ho : o.op = .indexAddr t x y) (hx : ρ x = .slice A n c) (hy : ρ y = .int k i) (ht : isSlice P t = some e) (hz : tSize P e = some z)
    (hr : Rd h0 A xs) (hn : n = xs.length) (hb : 0 ≤ i ∧ i < n) : Qy P ρ o s h (.pointer (some ((adr A).add (i.toNat * z)))) :=
  Qy.index ho hx hy ht hz hb (hr.1 (by omega))
end
/-! ### the walker's small rules -/
section
variable {K : Env → Heap → Prop} {Q : Exit → Env → Heap → Prop} {e : Env} {h : Heap} {P : Program} {n : Nat} {s : World} {ops : Array Oper} {m : Md} {l : List (Oper × Fl)} {fn : Func} {R : Value → Heap → Prop}
theorem qT_n (k : K e h) : qThen K Q .normal e h := k
theorem qT_ret (k : Q .ret e h) : qThen K Q .ret e h := k
theorem qT_exit {i : Nat} (k : Q (.exit i) e h) : qThen K Q (.exit i) e h := k
theorem qT_goto {i : Nat} (k : Q (.goto i) e h) : qThen K Q (.goto i) e h := k
theorem qB_n {id : Nat} (k : Q .normal e h) : qBlock id Q .normal e h := k
theorem qB_ret {id : Nat} (k : Q .ret e h) : qBlock id Q .ret e h := k
theorem qB_hit {id : Nat} (k : Q .normal e h) : qBlock id Q (.exit id) e h := by simpa [qBlock] using k
theorem qB_pass {id i : Nat} (hne : Nat.beq i id = false) (k : Q (.exit i) e h) : qBlock id Q (.exit i) e h := by
  have : i ≠ id := fun he => by subst he; simp at hne
  simpa [qBlock, this] using k
theorem rQ_ret (k : Rets P fn e h R) : retQ P fn R .ret e h := k
theorem rQ_n (k : Rets P fn e h R) : retQ P fn R .normal e h := k
theorem OX.gsplit {o : Oper} {f : Fl} {j g : Nat} {want b : Bool} (hg : o.guard = some (j, want)) (hj : (ops[j]?).bind (·.dst) = some g) (hv : e g = .bool b)
    (hy : b = true → OX P n s ops K m ((o, f) :: l) e h) (hn : b = false → OX P n s ops K m ((o, f) :: l) e h) : OX P n s ops K m ((o, f) :: l) e h := by
  cases b
  · exact hn rfl
  · exact hy rfl
end
end Go.Px
