/- Memory: cells, rows that are read, rows of one's own; and the operations on them. No program of its own. -/
import Derived.Test.YtiahamibfpamgaaPxOps
import Derived.Deep.OwnRows
set_option linter.unusedVariables false
set_option linter.unusedSimpArgs false
namespace Go.Px

def cellH (h : Heap) (a : Addr) : Option Value :=
  match h[a.block]? with
  | some (.cells c _ _) => if a.spot.isSome then none else c[a.off]?
  | _ => none
theorem cellH_world (w : World) (a : Addr) : w.cell? a = cellH w.heap a := rfl
theorem cellH_lt {h : Heap} {a : Addr} {v : Value} (hc : cellH h a = some v) : a.block < h.size := by
  unfold cellH at hc
  cases hb : h[a.block]? with
  | none => rw [hb] at hc; cases hc
  | some o => exact (Array.getElem?_eq_some_iff.1 hb).1
theorem cellH_of_block {h h' : Heap} {a : Addr} (hb : h'[a.block]? = h[a.block]?) : cellH h' a = cellH h a := by simp [cellH, hb]
theorem Ext.cell {h h' : Heap} (k : Ext h h') {a : Addr} {v : Value} (hc : cellH h a = some v) : cellH h' a = some v := by
  rw [cellH_of_block (k.2 _ (cellH_lt hc))]; exact hc
theorem Chg.cell {M : List Nat} {h h' : Heap} (k : Chg M h h') {a : Addr} {v : Value} (hc : cellH h a = some v) (hM : a.block ∉ M) : cellH h' a = some v := by
  rw [cellH_of_block (k.2 _ (cellH_lt hc) hM)]; exact hc

/-- a block known whole -/
def Blk (h : Heap) (b : Nat) (t : TypeId) (cs : Array Value) : Prop := h[b]? = some (.cells cs t (0, 0))
theorem Blk.lt {h : Heap} {b : Nat} {t : TypeId} {cs : Array Value} (hb : Blk h b t cs) : b < h.size := (Array.getElem?_eq_some_iff.1 hb).1
theorem Blk.ext {h h' : Heap} {b : Nat} {t : TypeId} {cs : Array Value} (hb : Blk h b t cs) (k : Ext h h') : Blk h' b t cs := (k.2 b hb.lt).trans hb
theorem Blk.chg {M : List Nat} {h h' : Heap} {b : Nat} {t : TypeId} {cs : Array Value} (hb : Blk h b t cs) (k : Chg M h h') (hM : b ∉ M) : Blk h' b t cs := (k.2 b hb.lt hM).trans hb
theorem Blk.cell {h : Heap} {b : Nat} {t : TypeId} {cs : Array Value} {a : Addr} {j : Nat} {v : Value} (hb : Blk h b t cs) (ha : a = ⟨b, j, none⟩) (hv : cs.toList[j]? = some v) : cellH h a = some v := by
  subst ha
  simp only [cellH, show h[b]? = some (.cells cs t (0, 0)) from hb]
  simpa using hv

theorem add_lit (b o j : Nat) : (⟨b, o, none⟩ : Addr).add j = ⟨b, o + j, none⟩ := by unfold Addr.add; split <;> simp_all
theorem add_add (a : Addr) (i j : Nat) : (a.add i).add j = a.add (i + j) := by
  unfold Addr.add
  by_cases h1 : i = 0 <;> by_cases h2 : j = 0 <;> simp [h1, h2, Nat.add_assoc]

/-- from a on the cells of cs lie -/
def At (h : Heap) (a : Addr) (cs : List Value) : Prop := ∀ (j : Nat) (u : Value), cs[j]? = some u → cellH h (a.add j) = some u
theorem At.ext {h h' : Heap} {a : Addr} {cs : List Value} (k : At h a cs) (x : Ext h h') : At h' a cs := fun j u hu => x.cell (k j u hu)
theorem At.chg {M : List Nat} {h h' : Heap} {a : Addr} {cs : List Value} (k : At h a cs) (x : Chg M h h') (hM : a.block ∉ M) : At h' a cs := fun j u hu =>
  x.cell (k j u hu) (by unfold Addr.add; split <;> simpa using hM)
theorem At.drop {h : Heap} {a : Addr} {cs : List Value} (k : At h a cs) (i n : Nat) : At h (a.add i) ((cs.drop i).take n) := fun j u hu => by
  rw [add_add]
  refine k _ _ ?_
  rw [List.getElem?_take] at hu
  split at hu
  · rwa [List.getElem?_drop] at hu
  · cases hu

/-! ### kinds of elements -/
class Enc (α : Type) where
  k : Nat
  enc : α → List Value
  len : ∀ x, (enc x).length = k
  one : ∀ x, ∀ v ∈ enc x, v.oneCell' = true
  pos : 0 < k
instance : Enc Int := ⟨1, fun x => [.int .i64 x], fun _ => rfl, fun _ _ hv => by simp at hv; subst hv; rfl, by decide⟩
instance : Enc Bool := ⟨1, fun x => [.bool x], fun _ => rfl, fun _ _ hv => by simp at hv; subst hv; rfl, by decide⟩
instance : Enc ByteArray := ⟨1, fun x => [.string x], fun _ => rfl, fun _ _ hv => by simp at hv; subst hv; rfl, by decide⟩
open Enc (enc)
def encs {α : Type} [Enc α] (xs : List α) : List Value := xs.flatMap enc
theorem encs_len {α : Type} [Enc α] (xs : List α) : (encs xs).length = xs.length * Enc.k α := by
  induction xs with
  | nil => simp [encs]
  | cons x xs ih => simp only [encs, List.flatMap_cons, List.length_append, Enc.len, List.length_cons, Nat.add_mul] at ih ⊢; omega
theorem encs_append {α : Type} [Enc α] (xs ys : List α) : encs (xs ++ ys) = encs xs ++ encs ys := by simp [encs]
theorem encs_one {α : Type} [Enc α] (xs : List α) : ∀ v ∈ encs xs, v.oneCell' = true := by
  intro v hv
  simp only [encs, List.mem_flatMap] at hv
  obtain ⟨x, _, hx⟩ := hv
  exact Enc.one x v hx
theorem encs_take {α : Type} [Enc α] : ∀ (xs : List α) (n : Nat), (encs xs).take (n * Enc.k α) = encs (xs.take n) := by
  intro xs
  induction xs with
  | nil => intro n; simp [encs]
  | cons x xs ih =>
    intro n
    cases n with
    | zero => simp [encs]
    | succ n =>
      have h1 := Enc.len x
      have hi := ih n
      simp only [encs, List.flatMap_cons, List.take_succ_cons] at hi ⊢
      rw [Nat.add_mul, Nat.one_mul, Nat.add_comm, ← h1, List.take_length_add_append, h1, hi]
theorem encs_drop {α : Type} [Enc α] : ∀ (xs : List α) (n : Nat), (encs xs).drop (n * Enc.k α) = encs (xs.drop n) := by
  intro xs
  induction xs with
  | nil => intro n; simp [encs]
  | cons x xs ih =>
    intro n
    cases n with
    | zero => simp [encs]
    | succ n =>
      have h1 := Enc.len x
      have hi := ih n
      simp only [encs, List.flatMap_cons, List.drop_succ_cons] at hi ⊢
      rw [Nat.add_mul, Nat.one_mul, Nat.add_comm, ← h1, List.drop_length_add_append, h1, hi]
def ix {α : Type} [Inhabited α] (xs : List α) (i : Int) : α := xs.getD i.toNat default
theorem encs_at {α : Type} [Enc α] [Inhabited α] {xs : List α} {i : Nat} (hi : i < xs.length) : ((encs xs).drop (i * Enc.k α)).take (Enc.k α) = enc (xs.getD i default) := by
  rw [encs_drop]
  have := encs_take (xs.drop i) 1
  rw [Nat.one_mul] at this
  rw [this, List.drop_eq_getElem_cons hi, List.take_succ_cons, List.take_zero]
  simp [encs, List.getD_eq_getElem?_getD, hi]

/-! ### rows that are read -/
def adr : Option Addr → Addr
  | some a => a
  | none => ⟨0, 0, none⟩
def Rd {α : Type} [Enc α] (h : Heap) (A : Option Addr) (xs : List α) : Prop := (0 < xs.length → A.isSome = true) ∧ At h (adr A) (encs xs)
theorem Rd.ext {α : Type} [Enc α] {h h' : Heap} {A : Option Addr} {xs : List α} (k : Rd h A xs) (x : Ext h h') : Rd h' A xs := ⟨k.1, k.2.ext x⟩
theorem Rd.chg {α : Type} [Enc α] {M : List Nat} {h h' : Heap} {A : Option Addr} {xs : List α} (k : Rd h A xs) (x : Chg M h h') (hM : (adr A).block ∉ M) : Rd h' A xs := ⟨k.1, k.2.chg x hM⟩
theorem Rd.nil {α : Type} [Enc α] (h : Heap) (A : Option Addr) : Rd h A ([] : List α) := ⟨fun hx => by simp at hx, fun j u hu => by simp [encs] at hu⟩
theorem Rd.some_ {α : Type} [Enc α] {h : Heap} {A : Option Addr} {xs : List α} (k : Rd h A xs) {i : Int} (h0 : 0 ≤ i) (h1 : i < xs.length) : A.isSome = true := k.1 (by omega)
theorem Rd.at_ {α : Type} [Enc α] [Inhabited α] {h : Heap} {A : Option Addr} {xs : List α} (k : Rd h A xs) {i : Int} (h0 : 0 ≤ i) (h1 : i < xs.length) : At h ((adr A).add (i.toNat * Enc.k α)) (enc (ix xs i)) := by
  have := k.2.drop (i.toNat * Enc.k α) (Enc.k α)
  rwa [encs_at (by omega)] at this
theorem Rd.take {α : Type} [Enc α] {h : Heap} {A : Option Addr} {xs : List α} (k : Rd h A xs) (n : Nat) : Rd h A (xs.take n) := by
  refine ⟨fun hx => k.1 (by rw [List.length_take] at hx; omega), fun j u hu => k.2 j u ?_⟩
  rw [← encs_take, List.getElem?_take] at hu
  split at hu
  · exact hu
  · cases hu
theorem Rd.drop {α : Type} [Enc α] {h : Heap} {A : Option Addr} {xs : List α} (k : Rd h A xs) (n : Nat) : Rd h (A.map (·.add (n * Enc.k α))) (xs.drop n) := by
  refine ⟨fun hx => ?_, fun j u hu => ?_⟩
  · rw [List.length_drop] at hx
    have := k.1 (by omega)
    simpa using this
  · rw [← encs_drop, List.getElem?_drop] at hu
    have hlt : 0 < xs.length := by
      have h2 : n * Enc.k α + j < (encs xs).length := (List.getElem?_eq_some_iff.1 hu).1
      rw [encs_len] at h2
      rcases Nat.eq_zero_or_pos xs.length with h0 | h0
      · rw [h0] at h2; omega
      · exact h0
    have hA := k.1 hlt
    cases A with
    | none => cases hA
    | some a => show cellH h ((a.add _).add j) = _; rw [add_add]; exact k.2 _ _ hu

/-! ### rows of one's own -/
def blk : Option Addr → List Nat
  | some a => [a.block]
  | none => []
def Own {α : Type} [Enc α] (h : Heap) (base : Nat) (t : TypeId) (A : Option Addr) (c : Nat) (xs : List α) : Prop :=
  (A = none ∧ c = 0 ∧ xs = []) ∨ ∃ g cur, A = some ⟨g, 0, none⟩ ∧ base ≤ g ∧ Blk h g t cur ∧ xs.length ≤ c ∧ c ≤ maxLen ∧ cur.size = c * Enc.k α ∧ cur.toList.take (xs.length * Enc.k α) = encs xs
section
variable {α : Type} [Enc α] {h h' : Heap} {base : Nat} {t : TypeId} {A : Option Addr} {c : Nat} {xs : List α}
theorem Own.nil (h : Heap) (base : Nat) (t : TypeId) : Own h base t none 0 ([] : List α) := .inl ⟨rfl, rfl, rfl⟩
theorem Own.mono {base' : Nat} (k : Own h base t A c xs) (hb : base' ≤ base) : Own h base' t A c xs :=
  k.imp id fun ⟨g, cur, h1, h2, h3⟩ => ⟨g, cur, h1, Nat.le_trans hb h2, h3⟩
theorem Own.blk_ge (k : Own h base t A c xs) : ∀ b ∈ blk A, base ≤ b := by
  intro b hb
  rcases k with ⟨rfl, _⟩ | ⟨g, cur, rfl, h2, _⟩
  · simp [blk] at hb
  · simp [blk] at hb; omega
theorem Own.blk_lt (k : Own h base t A c xs) : ∀ b ∈ blk A, b < h.size := by
  intro b hb
  rcases k with ⟨rfl, _⟩ | ⟨g, cur, rfl, h2, h3, _⟩
  · simp [blk] at hb
  · simp [blk] at hb; subst hb; exact h3.lt
theorem Own.ext (k : Own h base t A c xs) (x : Ext h h') : Own h' base t A c xs :=
  k.imp id fun ⟨g, cur, h1, h2, h3, h4⟩ => ⟨g, cur, h1, h2, h3.ext x, h4⟩
theorem Own.chg {M : List Nat} (k : Own h base t A c xs) (x : Chg M h h') (hM : ∀ b ∈ blk A, b ∉ M) : Own h' base t A c xs := by
  rcases k with k | ⟨g, cur, rfl, h2, h3, h4⟩
  · exact .inl k
  · exact .inr ⟨g, cur, rfl, h2, h3.chg x (hM g (by simp [blk])), h4⟩
theorem Own.rd (k : Own h base t A c xs) : Rd h A xs := by
  rcases k with ⟨rfl, _, rfl⟩ | ⟨g, cur, rfl, _, hb, _, _, _, htk⟩
  · exact Rd.nil h none
  · refine ⟨fun _ => rfl, fun j u hu => ?_⟩
    show cellH h ((⟨g, 0, none⟩ : Addr).add j) = _
    rw [add_lit]
    refine hb.cell (by rw [Nat.zero_add]) ?_
    rw [← htk, List.getElem?_take] at hu
    split at hu
    · exact hu
    · cases hu
theorem Own.le (k : Own h base t A c xs) : xs.length ≤ c := by
  rcases k with ⟨_, rfl, rfl⟩ | ⟨g, cur, _, _, _, h1, _⟩
  · simp
  · exact h1
theorem Own.row {w : World} (hw : w.heap = h) (k : Own h base t A c xs) : w.ownsRow base t (Enc.k α) (.slice A xs.length c) xs.length (encs xs) := by
  refine ⟨encs_len xs, ?_⟩
  rcases k with ⟨rfl, rfl, rfl⟩ | ⟨g, cur, rfl, h1, h2, h3, h4, h5, h6⟩
  · exact .inl ⟨rfl, rfl⟩
  · exact .inr ⟨g, c, cur, rfl, h1, by rw [hw]; exact h2, h3, h4, h5, h6⟩
theorem Own.of_row {w : World} {v : Value} {n : Nat} (hn : n = xs.length) (k : w.ownsRow base t (Enc.k α) v n (encs xs)) : ∃ A c, v = .slice A xs.length c ∧ Own w.heap base t A c xs := by
  subst hn
  rcases k.2 with ⟨rfl, h0⟩ | ⟨g, cap, cur, rfl, h1, h2, h3, h4, h5, h6⟩
  · have hx : xs = [] := List.eq_nil_of_length_eq_zero h0
    subst hx
    exact ⟨none, 0, rfl, Own.nil _ _ _⟩
  · exact ⟨_, _, rfl, .inr ⟨g, cur, rfl, h1, h2, h3, h4, h5, h6⟩⟩
end
attribute [irreducible] ix
end Go.Px
