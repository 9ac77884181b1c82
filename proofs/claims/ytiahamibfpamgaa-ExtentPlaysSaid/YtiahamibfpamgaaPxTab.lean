/- A region's order, checked on a table of numbers. No program of its own. -/
import Derived.Test.YtiahamibfpamgaaPxEqS
set_option linter.unusedVariables false
set_option linter.unusedSimpArgs false
namespace Go.Px
abbrev Row := Option Nat × Nat × List Nat × Bool
def maskOf (l : List Nat) : Nat := l.foldl (fun s e => s ||| 2 ^ e) 0
theorem mask_fold (l : List Nat) : ∀ (s d : Nat), (l.foldl (fun s e => s ||| 2 ^ e) s).testBit d = (s.testBit d || l.contains d) := by
  induction l with
  | nil => intro s d; simp
  | cons e l ih =>
    intro s d
    simp only [List.foldl_cons]
    rw [ih, Nat.testBit_or, Nat.testBit_two_pow, List.contains_cons]
    have : decide (e = d) = (d == e) := by
      by_cases h : e = d
      · subst h; simp
      · have h' : ¬ d = e := fun x => h x.symm
        simp [h, h']
    rw [this, Bool.or_assoc]
theorem maskOf_bit (l : List Nat) (d : Nat) : (maskOf l).testBit d = l.contains d := by
  unfold maskOf; rw [mask_fold]; simp
def depsOf (o : Oper) : List Nat := (o.after.toList.filter fun e => Region.binds .any e).map (·.on)
def row (ops : Array Oper) (o : Oper) : Row := (o.dst, maskOf (o.looksAt ops), depsOf o, pureKind o.op)
def apartR (a b : Row) : Bool :=
  (match a.1 with | some d => !(b.2.1.testBit d) && b.1 != some d | none => true) &&
  (match b.1 with | some d => !(a.2.1.testBit d) | none => true)
theorem apartR_eq (ops : Array Oper) (x y : Oper) : apartR (row ops x) (row ops y) = x.apart ops y := by
  unfold apartR Oper.apart row
  simp only [maskOf_bit]
  cases x.dst <;> cases y.dst <;> rfl
def freeR (T : List Row) (L i : Nat) : Bool :=
  match T[i]? with
  | none => false
  | some ri => T.zipIdx.all fun p => p.2 == i || L.testBit p.2 || p.1.2.2.1.contains i || apartR ri p.1
def readyI (T : List Row) (L i : Nat) : Bool := !L.testBit i && (match T[i]? with | some r => r.2.2.1.all fun e => L.testBit e | none => false)
def readyR (T : List Row) (L : Nat) : List Nat := (List.range T.length).filter fun i => readyI T L i
def befR (T : List Row) : List Nat := T.foldl (fun acc r => acc ++ [r.2.2.1.foldl (fun s e => s ||| 2 ^ e ||| acc.getD e 0) 0]) []
def allBeforeR (T : List Row) (B : List Nat) (i : Nat) : Bool :=
  T.zipIdx.all fun p => p.2 == i || (B.getD i 0).testBit p.2 || (B.getD p.2 0).testBit i || p.1.2.2.2
def chkR (T : List Row) (B : List Nat) : List (Nat × Fl) → Nat → Bool
  | [], L => (readyR T L).isEmpty
  | (i, f) :: rest, L => (match f with
      | .q => freeR T L i && readyI T L i
      | .g => readyR T L == [i]
      | .z => readyR T L == [i] && allBeforeR T B i) && chkR T B rest (L ||| 2 ^ i)
def Agree (n : Nat) (listed : Array Bool) (L : Nat) : Prop := listed.size = n ∧ ∀ j, listed.getD j false = L.testBit j
section
variable {ops : Array Oper} {T : List Row} {listed : Array Bool} {L : Nat}
theorem T_get (hT : ops.toList.map (row ops) = T) (i : Nat) : T[i]? = (ops[i]?).map (row ops) := by
  subst hT; simp
theorem T_len (hT : ops.toList.map (row ops) = T) : T.length = ops.size := by subst hT; simp
theorem getD_lt {α : Type} {a : Array α} {i : Nat} {d d' : α} (h : i < a.size) : a.getD i d = a.getD i d' := by simp [h]
theorem deps_all (o : Oper) (p : Nat → Bool) : (o.after.all fun e => !Region.binds .any e || p e.on) = (depsOf o).all p := by
  unfold depsOf
  rw [← Array.all_toList]
  generalize o.after.toList = l
  induction l with
  | nil => rfl
  | cons e l ih =>
    simp only [List.all_cons, List.filter_cons]
    cases hb : Region.binds .any e
    · simp only [Bool.not_false, Bool.true_or, Bool.true_and, Bool.false_eq_true, if_false]; exact ih
    · simp only [Bool.not_true, Bool.false_or, if_true, List.map_cons, List.all_cons]; rw [ih]
theorem readyI_eq (hT : ops.toList.map (row ops) = T) (ha : Agree ops.size listed L) {i : Nat} (hi : i < ops.size) :
    (!listed.getD i true && ((ops[i]?).map (·.after.all fun e => !Region.binds .any e || listed.getD e.on false)).getD false) = readyI T L i := by
  unfold readyI
  rw [T_get hT, getD_lt (d' := false) (by rw [ha.1]; exact hi), ha.2]
  have hf : (fun e : Edge => !Region.binds .any e || listed.getD e.on false) = fun e => !Region.binds .any e || L.testBit e.on := by funext e; rw [ha.2]
  have this : ops[i]? = some (ops[i]'hi) := Array.getElem?_eq_getElem hi
  rw [hf, this]
  show (_ && (ops[i]'hi).after.all _) = _
  rw [deps_all _ (fun j => L.testBit j)]
  rfl
theorem readyR_eq (hT : ops.toList.map (row ops) = T) (ha : Agree ops.size listed L) : Region.ready .any ops listed = readyR T L := by
  unfold Region.ready readyR
  rw [T_len hT]
  apply List.filter_congr
  intro i hi
  exact readyI_eq hT ha (List.mem_range.1 hi)
theorem freeR_imp (hT : ops.toList.map (row ops) = T) (ha : Agree ops.size listed L) {i : Nat} (h : freeR T L i = true) : Region.free .any ops listed i = true := by
  unfold freeR at h
  rw [T_get hT] at h
  unfold Region.free
  cases hi : ops[i]? with
  | none => rw [hi] at h; simp at h
  | some oi =>
    rw [hi] at h
    simp only [Option.map_some, List.all_eq_true] at h
    simp only [List.all_eq_true, List.mem_range]
    intro j hj
    have hTj : T[j]? = some (row ops ops[j]) := by rw [T_get hT]; simp [hj]
    have hm : (row ops ops[j], j) ∈ T.zipIdx := by
      rw [List.mk_mem_zipIdx_iff_getElem?]; exact hTj
    have h2 := h _ hm
    have hoj : ops[j]? = some ops[j] := by simp [hj]
    rw [hoj, getD_lt (d' := false) (by rw [ha.1]; exact hj), ha.2]
    simp only [Bool.or_eq_true] at h2 ⊢
    rcases h2 with ((h2 | h2) | h2) | h2
    · exact .inl (.inl h2)
    · exact .inl (.inr h2)
    · refine .inr (.inl ?_)
      simp only [row, depsOf, List.contains_iff_mem, List.mem_map, List.mem_filter] at h2
      obtain ⟨e, ⟨he, hb⟩, rfl⟩ := h2
      rw [Array.any_eq_true']
      exact ⟨e, by simpa using he, by simp [hb]⟩
    · exact .inr (.inr (by rw [← apartR_eq]; exact h2))
theorem befR_eq (hT : ops.toList.map (row ops) = T) : (Region.before ops).toList = befR T := by
  subst hT
  unfold Region.before befR
  rw [← Array.foldl_toList]
  have key : ∀ (l : List Oper) (acc : Array Nat), (l.foldl (fun acc o => acc.push (o.after.foldl (fun s e => if Region.binds .any e then s ||| 2 ^ e.on ||| acc.getD e.on 0 else s) 0)) acc).toList =
      (l.map (row ops)).foldl (fun acc r => acc ++ [r.2.2.1.foldl (fun s e => s ||| 2 ^ e ||| acc.getD e 0) 0]) acc.toList := by
    intro l
    induction l with
    | nil => intro acc; rfl
    | cons o l ih =>
      intro acc
      simp only [List.foldl_cons, List.map_cons]
      rw [ih]
      congr 1
      rw [Array.toList_push]
      congr 2
      rw [← Array.foldl_toList]
      have : ∀ (es : List Edge) (s : Nat), es.foldl (fun s e => if Region.binds .any e then s ||| 2 ^ e.on ||| acc.getD e.on 0 else s) s =
          ((es.filter fun e => Region.binds .any e).map (·.on)).foldl (fun s e => s ||| 2 ^ e ||| acc.toList.getD e 0) s := by
        intro es
        induction es with
        | nil => intro s; rfl
        | cons e es ihe =>
          intro s
          simp only [List.foldl_cons, List.filter_cons]
          cases hb : Region.binds .any e
          · simpa [hb] using ihe s
          · simp only [if_true, List.map_cons, List.foldl_cons]
            rw [ihe]
            simp [Array.getD_eq_getD_getElem?, List.getD_eq_getElem?_getD]
      exact this _ _
  have := key ops.toList #[]
  simpa using this
theorem allBeforeR_imp (hT : ops.toList.map (row ops) = T) {i : Nat} (h : allBeforeR T (befR T) i = true) : allBefore ops i = true := by
  unfold allBeforeR at h
  unfold allBefore
  simp only [List.all_eq_true, List.mem_range] at h ⊢
  intro j hj
  have hTj : T[j]? = some (row ops ops[j]) := by rw [T_get hT]; simp [hj]
  have hm : (row ops ops[j], j) ∈ T.zipIdx := by rw [List.mk_mem_zipIdx_iff_getElem?]; exact hTj
  have h2 := h _ hm
  have hB : ∀ k, (befR T).getD k 0 = (Region.before ops).getD k 0 := fun k => by rw [← befR_eq hT]; simp [Array.getD_eq_getD_getElem?, List.getD_eq_getElem?_getD]
  rw [hB, hB] at h2
  have hoj : ops[j]? = some ops[j] := by simp [hj]
  rw [hoj]
  simpa [row] using h2
theorem Agree.set (ha : Agree ops.size listed L) {i : Nat} (hi : i < ops.size) : Agree ops.size (listed.setIfInBounds i true) (L ||| 2 ^ i) := by
  refine ⟨by simp [ha.1], fun j => ?_⟩
  rw [Nat.testBit_or, Nat.testBit_two_pow, ← ha.2]
  by_cases hij : i = j
  · subst hij
    have : i < listed.size := by rw [ha.1]; exact hi
    simp [this]
  · simp [Array.getD_eq_getD_getElem?, Array.getElem?_setIfInBounds_ne hij, hij]
theorem readyI_lt (hT : ops.toList.map (row ops) = T) {i : Nat} (h : readyI T L i = true) : i < ops.size := by
  unfold readyI at h
  rw [T_get hT] at h
  rcases Nat.lt_or_ge i ops.size with hi | hi
  · exact hi
  · have : ops[i]? = none := by simp [hi]
    rw [this] at h
    simp at h
theorem chkR_imp (hT : ops.toList.map (row ops) = T) : ∀ (order : List (Nat × Fl)) (listed : Array Bool) (L : Nat), Agree ops.size listed L → chkR T (befR T) order L = true → chk ops order listed = true
  | [], listed, L, ha, h => by unfold chkR at h; unfold chk; rw [readyR_eq hT ha]; exact h
  | (i, f) :: rest, listed, L, ha, h => by
    unfold chkR at h
    unfold chk
    simp only [Bool.and_eq_true] at h ⊢
    obtain ⟨h1, h2⟩ := h
    have hi : i < ops.size := by
      cases f with
      | q => simp only [Bool.and_eq_true] at h1; exact readyI_lt hT h1.2
      | g => have h1 := eq_of_beq h1; have : i ∈ readyR T L := by rw [h1]; simp
             exact readyI_lt hT (List.mem_filter.1 this).2
      | z => simp only [Bool.and_eq_true] at h1; have h1 := eq_of_beq h1.1; have : i ∈ readyR T L := by rw [h1]; simp
             exact readyI_lt hT (List.mem_filter.1 this).2
    refine ⟨?_, chkR_imp hT rest _ _ (ha.set hi) h2⟩
    cases f with
    | q =>
      simp only [Bool.and_eq_true] at h1 ⊢
      refine ⟨freeR_imp hT ha h1.1, ?_⟩
      rw [readyR_eq hT ha, List.contains_iff_mem]
      exact List.mem_filter.2 ⟨List.mem_range.2 (by rw [T_len hT]; exact hi), h1.2⟩
    | g => show (_ == _) = true; rw [readyR_eq hT ha]; exact h1
    | z =>
      simp only [Bool.and_eq_true] at h1 ⊢
      exact ⟨by rw [readyR_eq hT ha]; exact h1.1, allBeforeR_imp hT h1.2⟩
theorem Agree.zero (n : Nat) : Agree n (Array.replicate n false) 0 := by
  refine ⟨by simp, fun j => ?_⟩
  simp [Array.getD_eq_getD_getElem?, Array.getElem?_replicate]
  split <;> rfl
def dstOk (n : Nat) (T : List Row) (order : List (Nat × Fl)) : Bool := order.all fun p => match T[p.1]? with | some r => (match r.1 with | none => true | some d => Nat.blt d n) | none => false
theorem dstOk_imp (hT : ops.toList.map (row ops) = T) {n : Nat} : ∀ {order : List (Nat × Fl)}, dstOk n T order = true → ∃ l, pick ops order = some l ∧ (l.all fun p => okd n p.1) = true
  | [], _ => ⟨[], rfl, rfl⟩
  | (i, f) :: rest, h => by
    simp only [dstOk, List.all_cons, Bool.and_eq_true] at h
    obtain ⟨h1, h2⟩ := h
    obtain ⟨l, hl, hok⟩ := dstOk_imp hT (order := rest) h2
    rw [T_get hT] at h1
    cases hi : ops[i]? with
    | none => rw [hi] at h1; simp at h1
    | some o =>
      rw [hi] at h1
      refine ⟨(o, f) :: l, by simp [pick, hi, hl], ?_⟩
      simp only [List.all_cons, hok, Bool.and_true]
      unfold okd
      simp only [Option.map_some, row] at h1
      cases hd : o.dst with
      | none => rfl
      | some d => rw [hd] at h1; exact h1
def drawT (n : Nat) (T : List Row) (order : List (Nat × Fl)) : Bool := order.length == T.length && chkR T (befR T) order 0 && dstOk n T order
theorem drawOk_of {n : Nat} {order : List (Nat × Fl)} (hT : ops.toList.map (row ops) = T) (hns : Region.noSelect ops = true) (h : drawT n T order = true) : drawOk n ops order = true := by
  simp only [drawT, Bool.and_eq_true] at h
  obtain ⟨⟨h1, h2⟩, h3⟩ := h
  obtain ⟨l, hl, hok⟩ := dstOk_imp hT h3
  have h1 := eq_of_beq h1
  simp only [drawOk, picked, Bool.and_eq_true, hns, hl, Option.isSome_some, Option.getD_some, hok, and_true, beq_iff_eq]
  exact ⟨by rw [h1, T_len hT], chkR_imp hT _ _ _ (Agree.zero _) h2⟩
theorem EW.drawT {P : Program} {n : Nat} {s : World} {Q : Exit → Env → Heap → Prop} {e : Env} {h : Heap} {id : Nat} (T : Nat → List (Nat × Fl)) (W : Nat → List Row) (hm : P.follows .mixedOrders = true) (hT : ops.toList.map (row ops) = W id) (hns : Region.noSelect ops = true) (hc : drawT n (W id) (T id) = true)
    (k : OX P n s ops (fun e h => Q .normal e h) (.draw (T id) (Array.replicate ops.size false)) (picked ops (T id)) e h) : EW P n s (.region id ops true) Q e h :=
  EW.draw T hm (drawOk_of hT hns hc) k
end
end Go.Px
