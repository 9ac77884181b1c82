/- Lists by numbers. -/
import Derived.Test.YtiahamibfpamgaaPxWalk
set_option linter.unusedVariables false
set_option linter.unusedSimpArgs false
namespace Go.Px
theorem ix_eq {α : Type} [Inhabited α] {xs : List α} {i : Nat} (h : i < xs.length) : ix xs (i : Int) = xs[i] := by simp [ix, List.getD_eq_getElem?_getD, h]
theorem ix_mem {α : Type} [Inhabited α] {xs : List α} {i : Int} (h0 : 0 ≤ i) (h : i < xs.length) : ix xs i ∈ xs := by
  have h' : i.toNat < xs.length := by omega
  simp [ix, List.getD_eq_getElem?_getD, h']
theorem take_ix {α : Type} [Inhabited α] (l : List α) (i : Nat) (h : i < l.length) : l.take (i + 1) = l.take i ++ [ix l (i : Int)] := by
  rw [ix_eq h, List.take_add_one, List.getElem?_eq_getElem h]; rfl
/-- where the first one stands of which p holds; -1 -/
def idxF {α : Type} (p : α → Bool) (xs : List α) : Int := match xs.findIdx? p with | some i => i | none => -1
theorem idxF_hit {α : Type} [Inhabited α] {p : α → Bool} {xs : List α} {i : Nat} (h : i < xs.length) (hp : p (ix xs i) = true) (hb : ∀ j : Nat, j < i → p (ix xs j) = false) : idxF p xs = i := by
  have : xs.findIdx? p = some i := by
    rw [List.findIdx?_eq_some_iff_getElem]
    refine ⟨h, by rwa [← ix_eq h], fun j hj => ?_⟩
    have := hb j hj
    rw [ix_eq (by omega)] at this
    simp [this]
  simp [idxF, this]
theorem idxF_miss {α : Type} [Inhabited α] {p : α → Bool} {xs : List α} (hb : ∀ j : Nat, j < xs.length → p (ix xs j) = false) : idxF p xs = -1 := by
  have : xs.findIdx? p = none := by
    rw [List.findIdx?_eq_none_iff]
    intro x hx
    obtain ⟨j, hj, rfl⟩ := List.getElem_of_mem hx
    have := hb j hj
    rwa [ix_eq hj] at this
  simp [idxF, this]
theorem idxF_nonneg {α : Type} {p : α → Bool} {xs : List α} : decide (0 ≤ idxF p xs) = xs.any p := by
  unfold idxF
  cases h : xs.findIdx? p with
  | none =>
    rw [List.findIdx?_eq_none_iff] at h
    simp
    exact fun x hx => by simp [h x hx]
  | some i =>
    obtain ⟨h1, h2, _⟩ := List.findIdx?_eq_some_iff_getElem.1 h
    simp
    exact ⟨_, List.getElem_mem h1, h2⟩
end Go.Px
