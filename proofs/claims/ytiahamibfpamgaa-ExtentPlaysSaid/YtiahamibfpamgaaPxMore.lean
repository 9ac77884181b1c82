/- Facts that last, rows cut and built, structs, results in memory. No program of its own. -/
import Derived.Test.YtiahamibfpamgaaPxPure
import Derived.Laws.Tables
set_option linter.unusedVariables false
set_option linter.unusedSimpArgs false
namespace Go.Px
open Enc (enc)
/-- facts that last while the heap grows -/
structure Know (F : Heap → Prop) (h : Heap) : Prop where
  out : F h
  mon : ∀ {h h' : Heap}, Ext h h' → F h → F h'
section
variable {F : Heap → Prop} {h h' : Heap}
theorem Know.nil (h : Heap) : Know (fun _ => True) h := ⟨trivial, fun _ k => k⟩
theorem Know.up (k : Know F h) (x : Ext h h') : Know F h' := ⟨k.mon x k.out, k.mon⟩
theorem Know.blk {b : Nat} {t : TypeId} {cs : Array Value} (k : Know F h) (a : Blk h b t cs) : Know (fun x => Blk x b t cs ∧ F x) h := ⟨⟨a, k.out⟩, fun x q => ⟨q.1.ext x, k.mon x q.2⟩⟩
theorem Know.rd {α : Type} [Enc α] {A : Option Addr} {xs : List α} (k : Know F h) (a : Rd h A xs) : Know (fun x => Rd x A xs ∧ F x) h := ⟨⟨a, k.out⟩, fun x q => ⟨q.1.ext x, k.mon x q.2⟩⟩
theorem Know.own {α : Type} [Enc α] {A : Option Addr} {b c : Nat} {t : TypeId} {xs : List α} (k : Know F h) (a : Own h b t A c xs) : Know (fun x => Own x b t A c xs ∧ F x) h := ⟨⟨a, k.out⟩, fun x q => ⟨q.1.ext x, k.mon x q.2⟩⟩
theorem Know.since {h0 : Heap} (k : Know F h) (a : Ext h0 h) : Know (fun x => Ext h0 x ∧ F x) h := ⟨⟨a, k.out⟩, fun x q => ⟨q.1.trans x, k.mon x q.2⟩⟩
theorem Know.but {h0 : Heap} {M : List Nat} (k : Know F h) (a : Chg M h0 h) : Know (fun x => Chg M h0 x ∧ F x) h := ⟨⟨a, k.out⟩, fun x q => ⟨q.1.trans (x.chg M), k.mon x q.2⟩⟩
theorem Know.cell {a : Addr} {v : Value} (k : Know F h) (c : cellH h a = some v) : Know (fun x => cellH x a = some v ∧ F x) h := ⟨⟨c, k.out⟩, fun x q => ⟨x.cell q.1, k.mon x q.2⟩⟩
end

section
variable {P : Program} {ρ : Operand → Value} {o : Oper} {s : World} {h : Heap}
/-! ### cutting -/
theorem Qy.cut {t e : TypeId} {x : Operand} {lo hi : Option Operand} {A : Option Addr} {n c z : Nat} {l r : Nat} (ho : o.op = .slice t x lo hi none) (hx : ρ x = .slice A n c) (ht : isSlice P t = some e) (hz : tSize P e = some z)
    (hl : lo.map ρ = none ∧ l = 0 ∨ ∃ k, lo.map ρ = some (.int k (l : Int))) (hr : hi.map ρ = none ∧ r = n ∨ ∃ k, hi.map ρ = some (.int k (r : Int))) (hlr : l ≤ r) (hrc : r ≤ c) :
    Qy P ρ o s h (.slice (if c = l then A else A.map (·.add (l * z))) (r - l) (c - l)) := by
  refine Qy.pure fun w => ?_
  have hd := isSlice_und ht
  have h1 : (Instr.sliceBounds true n c (lo.map ρ) (hi.map ρ) none).run P w = .ok (l, r, c) w := by
    have hlr' : (0 : Int) ≤ (l : Int) ∧ (l : Int) ≤ (r : Int) := ⟨by omega, by omega⟩
    have hrc' : (0 : Int) ≤ (r : Int) ∧ (r : Int) ≤ (c : Int) := ⟨by omega, by omega⟩
    rcases hr with ⟨hr, rfl⟩ | ⟨k, hr⟩ <;> rcases hl with ⟨hl, rfl⟩ | ⟨k', hl⟩ <;> rw [hr, hl] <;>
      simp [Instr.sliceBounds, Instr.sliceBound, asIntOf, hlr, hrc]
  simp [execOp, ho, hx, Instr.sliceAt, run_underlying hd, Instr.slice, h1, run_tSize hz]
theorem Qy.cutLo {t e : TypeId} {x y : Operand} {A : Option Addr} {n c z : Nat} {k : IntKind} {l : Int} (ho : o.op = .slice t x (some y) none none) (hx : ρ x = .slice A n c) (hy : ρ y = .int k l) (ht : isSlice P t = some e) (hz : tSize P e = some z)
    (hb : 0 ≤ l ∧ l ≤ n) (hc : n ≤ c) : Qy P ρ o s h (.slice (if c = l.toNat then A else A.map (·.add (l.toNat * z))) (n - l.toNat) (c - l.toNat)) := by
  obtain ⟨l, rfl⟩ := Int.eq_ofNat_of_zero_le hb.1
  exact Qy.cut ho hx ht hz (.inr ⟨k, by simp [hy]⟩) (.inl ⟨rfl, rfl⟩) (by omega) hc
theorem Qy.cutHi {t e : TypeId} {x y : Operand} {A : Option Addr} {n c z : Nat} {k : IntKind} {r : Int} (ho : o.op = .slice t x none (some y) none) (hx : ρ x = .slice A n c) (hy : ρ y = .int k r) (ht : isSlice P t = some e) (hz : tSize P e = some z)
    (hb : 0 ≤ r ∧ r ≤ c) : Qy P ρ o s h (.slice A r.toNat c) := by
  obtain ⟨r, rfl⟩ := Int.eq_ofNat_of_zero_le hb.1
  have := Qy.cut (P := P) (s := s) (h := h) (l := 0) (r := r) ho hx ht hz (.inl ⟨rfl, rfl⟩) (.inr ⟨k, by simp [hy]⟩) (by omega) (by omega)
  simpa [Addr.add] using this
theorem Qy.cutBoth {t e : TypeId} {x y y' : Operand} {A : Option Addr} {n c z : Nat} {k k' : IntKind} {l r : Int} (ho : o.op = .slice t x (some y) (some y') none) (hx : ρ x = .slice A n c) (hy : ρ y = .int k l) (hy' : ρ y' = .int k' r) (ht : isSlice P t = some e) (hz : tSize P e = some z)
    (hb : 0 ≤ l ∧ l ≤ r ∧ r ≤ c) : Qy P ρ o s h (.slice (if c = l.toNat then A else A.map (·.add (l.toNat * z))) (r.toNat - l.toNat) (c - l.toNat)) := by
  obtain ⟨l, rfl⟩ := Int.eq_ofNat_of_zero_le hb.1
  obtain ⟨r, rfl⟩ := Int.eq_ofNat_of_zero_le (show 0 ≤ r by omega)
  exact Qy.cut ho hx ht hz (.inr ⟨k, by simp [hy]⟩) (.inr ⟨k', by simp [hy']⟩) (by omega) (by omega)
def bt (b : ByteArray) (i : Int) : Int := if h : i.toNat < b.size then ((b[i.toNat]'h).toNat : Int) else 0
theorem bt_range (b : ByteArray) (i : Int) : 0 ≤ bt b i ∧ bt b i ≤ 255 := by
  unfold bt
  split
  · rename_i h
    have := (b[i.toNat]'h).toNat_lt
    omega
  · omega
theorem Qy.strIndex {t : TypeId} {x y : Operand} {b : ByteArray} {k : IntKind} {i : Int} (ho : o.op = .index t x y) (hx : ρ x = .string b) (hy : ρ y = .int k i) (ht : isStr P t = true) (hb : 0 ≤ i ∧ i < b.size) :
    Qy P ρ o s h (.int .u8 (bt b i)) := by
  refine Qy.pure fun w => ?_
  have hlt : i.toNat < b.size := by omega
  simp [execOp, ho, hx, hy, Instr.index, asIntOf, run_underlying (isStr_und ht), hb.1, hlt, bt]
theorem Qy.strCut {t : TypeId} {x : Operand} {lo hi : Option Operand} {b : ByteArray} {l r : Nat} (ho : o.op = .slice t x lo hi none) (hx : ρ x = .string b) (ht : isStr P t = true)
    (hl : lo.map ρ = none ∧ l = 0 ∨ ∃ k, lo.map ρ = some (.int k (l : Int))) (hr : hi.map ρ = none ∧ r = b.size ∨ ∃ k, hi.map ρ = some (.int k (r : Int))) (hlr : l ≤ r) (hrc : r ≤ b.size) :
    Qy P ρ o s h (.string (b.extract l r)) := by
  refine Qy.pure fun w => ?_
  have hd := isStr_und ht
  have h1 : (Instr.sliceBounds false b.size b.size (lo.map ρ) (hi.map ρ) none).run P w = .ok (l, r, b.size) w := by
    rcases hr with ⟨hr, rfl⟩ | ⟨k, hr⟩ <;> rcases hl with ⟨hl, rfl⟩ | ⟨k', hl⟩ <;> rw [hr, hl] <;>
      simp [Instr.sliceBounds, Instr.sliceBound, asIntOf, hlr, hrc]
  simp [execOp, ho, hx, Instr.sliceAt, run_underlying hd, Instr.slice, h1]
theorem Qy.strCutLo {t : TypeId} {x y : Operand} {b : ByteArray} {k : IntKind} {l : Int} (ho : o.op = .slice t x (some y) none none) (hx : ρ x = .string b) (hy : ρ y = .int k l) (ht : isStr P t = true) (hb : 0 ≤ l ∧ l ≤ b.size) :
    Qy P ρ o s h (.string (b.extract l.toNat b.size)) := by
  obtain ⟨l, rfl⟩ := Int.eq_ofNat_of_zero_le hb.1
  exact Qy.strCut ho hx ht (.inr ⟨k, by simp [hy]⟩) (.inl ⟨rfl, rfl⟩) (by omega) (by omega)
theorem Qy.strCutBoth {t : TypeId} {x y y' : Operand} {b : ByteArray} {k k' : IntKind} {l r : Int} (ho : o.op = .slice t x (some y) (some y') none) (hx : ρ x = .string b) (hy : ρ y = .int k l) (hy' : ρ y' = .int k' r) (ht : isStr P t = true) (hb : 0 ≤ l ∧ l ≤ r ∧ r ≤ b.size) :
    Qy P ρ o s h (.string (b.extract l.toNat r.toNat)) := by
  obtain ⟨l, rfl⟩ := Int.eq_ofNat_of_zero_le hb.1
  obtain ⟨r, rfl⟩ := Int.eq_ofNat_of_zero_le (show 0 ≤ r by omega)
  exact Qy.strCut ho hx ht (.inr ⟨k, by simp [hy]⟩) (.inr ⟨k', by simp [hy']⟩) (by omega) (by omega)
theorem Qy.strAdd {t t' : TypeId} {x y : Operand} {a b : ByteArray} (ho : o.op = .binOp .add t x y t') (hx : ρ x = .string a) (hy : ρ y = .string b) (hb : (a.size : Int) + b.size ≤ 9223372036854775807) : Qy P ρ o s h (.string (a ++ b)) := by
  refine Qy.pure fun w => ?_
  have hm : IntKind.i64.max = 9223372036854775807 := by decide
  have : ¬ (((a.size + b.size : Nat) : Int) > 9223372036854775807) := by omega
  have h2 : ¬ (9223372036854775807 < (a.size : Int) + (b.size : Int)) := by omega
  simp [execOp, ho, hx, hy, eqGuard, binOp, Op.stringOp, hm, h2]
theorem Qy.convInt {t t' : TypeId} {x : Operand} {k k' : IntKind} {a : Int} (ho : o.op = .convert t t' x) (hx : ρ x = .int k a) (hs : isInt P t = some k) (ht : isInt P t' = some k') : Qy P ρ o s h (.int k' (k'.wrap a)) := by
  refine Qy.pure fun w => ?_
  have h1 : P.underlying t = some (.int k) := by
    unfold isInt at hs
    split at hs
    · rename_i hd; simp at hs; subst hs; exact hd
    · cases hs
  have h2 : P.underlying t' = some (.int k') := by
    unfold isInt at ht
    split at ht
    · rename_i hd; simp at ht; subst ht; exact hd
    · cases ht
  simp [execOp, ho, hx, convert, run_underlying h1, run_underlying h2, Conv.intToInt]

/-! ### structs made -/
def setL : List Value → Nat → List Value → List Value
  | cs, 0, [] => cs
  | _ :: cs, 0, v :: vs => v :: setL cs 0 vs
  | c :: cs, off + 1, vs => c :: setL cs off vs
  | [], _, _ => []
def forceL : List Value → Option (List Value)
  | [] => some []
  | x :: xs => match forceL xs with
    | some ys => some (x :: ys)
    | none => none
theorem forceL_eq : ∀ {xs ys : List Value}, forceL xs = some ys → xs = ys := by
  intro xs
  induction xs with
  | nil => intro ys h; simp [forceL] at h; exact h.symm
  | cons x xs ih =>
    intro ys h
    simp only [forceL] at h
    split at h
    · rename_i zs hz; simp at h; rw [← h, ih hz]
    · cases h
theorem setL_len : ∀ (cs : List Value) (off : Nat) (vs : List Value), (setL cs off vs).length = cs.length := by
  intro cs
  induction cs with
  | nil => intro off vs; cases off <;> cases vs <;> simp [setL]
  | cons c cs ih =>
    intro off vs
    cases off with
    | zero => (cases vs <;> simp [setL, ih])
    | succ off => simp [setL, ih]
theorem setL_spec : ∀ (cs : List Value) (off : Nat) (vs : List Value) (i : Nat), (vs.zipIdx i).foldl (fun (a : List Value) p => a.set (off + (p.2 - i)) p.1) cs = setL cs off vs := by
  intro cs off vs
  induction vs generalizing cs off with
  | nil => intro i; simp; induction cs generalizing off with
    | nil => cases off <;> simp [setL]
    | cons c cs ih => cases off with | zero => simp [setL] | succ off => simp [setL, ← ih off]
  | cons v vs ih =>
    intro i
    simp only [List.zipIdx_cons, List.foldl_cons, Nat.sub_self, Nat.add_zero]
    have h1 : (vs.zipIdx (i + 1)).foldl (fun (a : List Value) p => a.set (off + (p.2 - i)) p.1) (cs.set off v) = (vs.zipIdx (i + 1)).foldl (fun (a : List Value) p => a.set ((off + 1) + (p.2 - (i + 1))) p.1) (cs.set off v) := by
      have hmem : ∀ p ∈ vs.zipIdx (i + 1), i + 1 ≤ p.2 := fun p hp => (List.le_snd_of_mem_zipIdx hp)
      generalize vs.zipIdx (i + 1) = l at hmem
      generalize cs.set off v = a
      induction l generalizing a with
      | nil => rfl
      | cons p l ihl =>
        simp only [List.foldl_cons]
        have hp := hmem p (by simp)
        rw [show off + (p.2 - i) = off + 1 + (p.2 - (i + 1)) by omega]
        exact ihl (fun q hq => hmem q (by simp [hq])) _
    rw [h1, ih]
    -- setL (cs.set off v) (off + 1) vs = setL cs off (v :: vs)
    clear h1
    induction cs generalizing off with
    | nil => cases off <;> simp [setL]
    | cons c cs ihc => cases off with | zero => simp [setL] | succ off => simp [setL, ihc]
def fillL (place : Nat → Option (Nat × Nat)) : List Value → List (Nat × List Value) → Option (List Value)
  | cells, [] => some cells
  | cells, (i, vs) :: r => match place i with
    | some (off, k) => if vs.length = k ∧ off + k ≤ cells.length then fillL place (setL cells off vs) r else none
    | none => none
theorem fillL_spec (place : Nat → Option (Nat × Nat)) : ∀ (parts : List (Nat × Value)) (cells : Array Value) (cs : List Value), fillL place cells.toList (parts.map fun p => (p.1, p.2.cells.toList)) = some cs → Instr.fill place cells parts = some cs.toArray := by
  intro parts
  induction parts with
  | nil => intro cells cs h; simp [fillL] at h; simp [Instr.fill, ← h]
  | cons p parts ih =>
    obtain ⟨i, v⟩ := p
    intro cells cs h
    simp only [List.map_cons, fillL] at h
    simp only [Instr.fill]
    split at h
    · rename_i off k hp
      simp only [hp]
      split at h
      · rename_i hc
        have hc1 : v.cells.size = k := by simpa using hc.1
        have hc2 : off + v.cells.size ≤ cells.size := by rw [hc1]; simpa using hc.2
        rw [if_neg (by rw [hc1]; simp; omega)]
        refine ih _ _ ?_
        rw [← h]
        congr 1
        have h1 := setL_spec cells.toList off v.cells.toList 0
        rw [← h1]
        rw [← Array.foldl_toList, Array.toList_zipIdx]
        have : ∀ (l : List (Value × Nat)) (a : Array Value), (l.foldl (fun cs p => cs.setIfInBounds (off + p.2) p.1) a).toList = l.foldl (fun (a : List Value) p => a.set (off + (p.2 - 0)) p.1) a.toList := by
          intro l
          induction l with
          | nil => intro a; rfl
          | cons p l ihl => intro a; simp only [List.foldl_cons, ihl, Array.toList_setIfInBounds, Nat.sub_zero]
        exact this _ _
      · cases h
    · cases h
def placesOf (P : Program) (t : TypeId) : Option (List (Nat × Nat)) := match P.underlying t with
  | some (.struct fs) => fs.toList.mapM (fun f => (P.info? f.type).map fun i => (f.offset, i.size))
  | _ => none
def buildL (P : Program) (t : TypeId) (parts : List (Nat × List Value)) : Option (List Value) :=
  match (P.info? t).bind (·.zero), placesOf P t with
  | some z, some pl => (fillL (pl[·]?) z.cells.toList parts).bind forceL
  | _, _ => none
theorem Qy.build {t : TypeId} {parts : Array (Nat × Operand)} {cs : List Value} (ho : o.op = .build t parts) (hb : buildL P t (parts.toList.map fun p => (p.1, (ρ p.2).cells.toList)) = some cs) : Qy P ρ o s h (.agg cs.toArray) := by
  refine Qy.pure fun w => ?_
  unfold buildL placesOf at hb
  split at hb
  · rename_i z pl hz hpl
    obtain ⟨l, hl, hf⟩ := Option.bind_eq_some_iff.1 hb
    rw [forceL_eq hf] at hl
    obtain ⟨it, hit, hz'⟩ := Option.bind_eq_some_iff.1 hz
    split at hpl
    · rename_i fs hd
      have hbuilt : P.built t (parts.toList.map fun p => (p.1, ρ p.2)) = some cs.toArray := by
        simp only [Program.built, hit, hd, hz', hpl]
        have := fillL_spec (fun i => pl[i]?) (parts.toList.map fun p => (p.1, ρ p.2)) z.cells cs (by simpa [List.map_map, Function.comp_def] using hl)
        simpa using this
      have hr := run_build (P := P) w t (parts.map fun p => (p.1, ρ p.2)) cs.toArray (by simpa using hbuilt)
      simp [execOp, ho, hr]
    · cases hpl
  · cases hb

/-! ### literals of slices -/
theorem fill_row {α : Type} [Enc α] : ∀ (rest : List α) (done : List α) (parts : List (Nat × Value)) (cells : Array Value) (tl : List Value), parts.map (·.1) = List.range' done.length rest.length → parts.map (fun p => p.2.cells.toList) = rest.map enc →
    cells.toList = encs done ++ tl → tl.length = rest.length * Enc.k α → Instr.fill (fun i => some (i * Enc.k α, Enc.k α)) cells parts = some (encs (done ++ rest)).toArray := by
  intro rest
  induction rest with
  | nil =>
    intro done parts cells tl h1 h2 h3 h4
    have : parts = [] := by simpa using h2
    subst this
    have : tl = [] := List.eq_nil_of_length_eq_zero (by simpa using h4)
    subst this
    simp only [Instr.fill, List.append_nil, Option.some.injEq]
    apply Array.ext'
    simpa using h3
  | cons x rest ih =>
    intro done parts cells tl h1 h2 h3 h4
    cases parts with
    | nil => simp at h2
    | cons p parts =>
      obtain ⟨i, v⟩ := p
      simp only [List.map_cons, List.length_cons, List.range'_succ, List.cons.injEq] at h1 h2
      obtain ⟨rfl, h1⟩ := h1
      have hk := Enc.len x
      have hvs : v.cells.size = Enc.k α := by rw [← hk, ← h2.1]; simp
      have hle : encs done = (encs done) := rfl
      have hdl := encs_len done
      have hcs : cells.size = done.length * Enc.k α + (rest.length + 1) * Enc.k α := by
        rw [← Array.length_toList, h3, List.length_append, hdl, h4, List.length_cons]
      have hfit : done.length * Enc.k α + Enc.k α ≤ cells.size := by rw [hcs, Nat.add_mul]; omega
      simp only [Instr.fill]
      rw [if_neg (by rw [hvs]; simp; omega)]
      refine (ih (done ++ [x]) parts _ (tl.drop (Enc.k α)) ?_ ?_ ?_ ?_).trans (by simp)
      · rw [h1]; simp
      · exact h2.2
      · have h5 := setL_spec cells.toList (done.length * Enc.k α) v.cells.toList 0
        have : ∀ (l : List (Value × Nat)) (a : Array Value), (l.foldl (fun cs p => cs.setIfInBounds (done.length * Enc.k α + p.2) p.1) a).toList = l.foldl (fun (a : List Value) p => a.set (done.length * Enc.k α + (p.2 - 0)) p.1) a.toList := by
          intro l
          induction l with
          | nil => intro a; rfl
          | cons p l ihl => intro a; simp only [List.foldl_cons, ihl, Array.toList_setIfInBounds, Nat.sub_zero]
        rw [← Array.foldl_toList, Array.toList_zipIdx, this, h5, h3, h2.1]
        -- setL (a ++ tl) a.length x = a ++ x ++ drop
        have hs : ∀ (a tl vs : List Value), vs.length ≤ tl.length → setL (a ++ tl) a.length vs = a ++ vs ++ tl.drop vs.length := by
          intro a
          induction a with
          | nil =>
            intro tl vs hv
            simp only [List.nil_append, List.length_nil]
            induction vs generalizing tl with
            | nil => cases tl <;> simp [setL]
            | cons v vs ihv => cases tl with | nil => simp at hv | cons t tl => simp [setL, ihv tl (by simpa using hv)]
          | cons c a iha => intro tl vs hv; simp [setL, iha tl vs hv]
        rw [← hdl, hs _ _ _ (by rw [hk, h4, List.length_cons, Nat.add_mul]; omega)]
        simp [encs, hk]
      · rw [List.length_drop, h4, List.length_cons, Nat.add_mul]; omega
theorem Gr.lit {α : Type} [Enc α] {t e : TypeId} {n : Nat} {parts : Array (Nat × Operand)} {xs : List α} {bytes : Nat} {K : Value → Heap → Prop} (ho : o.op = .buildSlice t n parts) (ht : isSlice P t = some e) (he : elemOk P e (Enc.k α) bytes = true)
    (hn : n = xs.length) (h1 : parts.toList.map (·.1) = List.range' 0 n) (h2 : (parts.toList.map fun p => (ρ p.2).cells.toList) = xs.map enc) (hs : n * Enc.k α ≤ 16777216)
    (k : ∀ b h', h.size ≤ b → Ext h h' → b < h'.size → Own h' h.size e (some ⟨b, 0, none⟩) xs.length xs → K (.slice (some ⟨b, 0, none⟩) xs.length xs.length) h') : Gr P ρ o s h K := by
  refine ⟨fun w hst hw => ?_⟩
  subst hn
  obtain ⟨i, z, hi, hz, hzs, hsz, hby, hpos⟩ := elemOk_spec he
  have hpow : ¬ (xs.length * Enc.k α > 2 ^ 24) := by omega
  have hpow' : ¬ (16777216 < xs.length * Enc.k α) := by omega
  have hfill : ∀ cells : Array Value, cells.size = xs.length * Enc.k α → Instr.fill (fun i => some (i * Enc.k α, Enc.k α)) cells (parts.toList.map fun p => (p.1, ρ p.2)) = some (encs xs).toArray := fun cells hc => by
    have := fill_row xs [] (parts.toList.map fun p => (p.1, ρ p.2)) cells cells.toList (by simpa [List.map_map, Function.comp_def] using h1) (by simpa [List.map_map, Function.comp_def] using h2) (by simp [encs]) (by simpa using hc)
    simpa using this
  have hrun : (Instr.buildSlice t xs.length (parts.map fun p => (p.1, ρ p.2))).run P w = .ok (.slice (some ⟨w.heap.size, 0, none⟩) xs.length xs.length) { w with heap := w.heap.push (.cells (encs xs).toArray e) } := by
    by_cases h0 : xs.length * Enc.k α = 0
    · have hx0 : xs = [] := by
        rcases Nat.mul_eq_zero.1 h0 with h | h
        · exact List.eq_nil_of_length_eq_zero h
        · have := Enc.pos (α := α); omega
      subst hx0
      have hp0 : parts = #[] := by
        have : parts.toList = [] := by simpa using h2
        exact Array.toList_eq_nil_iff.1 this
      subst hp0
      simp [Instr.buildSlice, run_underlying (isSlice_und ht), sizeOf, typeInfo, hi, Instr.fill, newRow, newObj, Sem.run, encs, show Array.range 0 = #[] from rfl]
    · have hf := hfill ((Array.range (xs.length * Enc.k α)).map (z.cells[· % z.cells.size]!)) (by simp)
      try simp at hf
      simp [Instr.buildSlice, run_underlying (isSlice_und ht), sizeOf, typeInfo, hi, hsz, hpow', h0, zeroValue, hz, hf, newRow, newObj, Sem.run]
  simp [execOp, ho, hrun]
  have hown := Own.fresh (α := α) (w := w) (t := e) (base := h.size) (cs := (encs xs).toArray) (xs := xs) rfl hw.1 (by have := Enc.pos (α := α); have h2 : xs.length * 1 ≤ xs.length * Enc.k α := Nat.mul_le_mul_left _ this; simp [maxLen]; omega)
  exact ⟨⟨hst.1, hst.2.1, hst.2.2⟩, _, hw.trans alloc_ext, Ext.refl _, k _ _ hw.1 (hw.trans alloc_ext) (by simp) hown⟩
end
end Go.Px
