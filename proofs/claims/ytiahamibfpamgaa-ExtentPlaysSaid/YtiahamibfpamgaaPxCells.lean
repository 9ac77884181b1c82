/- Rows of cells written in two places. -/
import Derived.Test.YtiahamibfpamgaaPxRows
set_option linter.unusedVariables false
set_option linter.unusedSimpArgs false
namespace Go.Px
open Enc (enc)
theorem cut_blk {c l z g : Nat} (h : c ≠ l) : (if c = l then some (⟨g, 0, none⟩ : Addr) else Option.map (fun x : Addr => x.add (l * z)) (some ⟨g, 0, none⟩)) = some ⟨g, l * z, none⟩ := by rw [if_neg h]; simp [add_lit]
theorem put_down (cur : Array Value) (E1 D Y : List Value) (p q : Nat) (hq : cur.toList.take q = E1) (hq2 : E1.length = q) (hp : q + Y.length = p) (hpl : p ≤ cur.size) :
    (putAt (putAt cur p D) q Y).toList = E1 ++ Y ++ D ++ cur.toList.drop (p + D.length) := by
  have hl : p ≤ cur.toList.length := by simpa using hpl
  have h1 : (cur.toList.take p).length = p := by rw [List.length_take]; omega
  rw [putAt_list, putAt_list, hp]
  have h2 : (cur.toList.take p ++ D ++ cur.toList.drop (p + D.length)).take q = E1 := by
    rw [List.append_assoc, List.take_append_of_le_length (by omega), List.take_take, Nat.min_eq_left (by omega), hq]
  have h3 : (cur.toList.take p ++ D ++ cur.toList.drop (p + D.length)).drop p = D ++ cur.toList.drop (p + D.length) := by
    rw [List.append_assoc]
    conv => lhs; arg 1; rw [← h1]
    exact List.drop_left
  rw [h2, h3]
  simp [List.append_assoc]
theorem put_up (cur : Array Value) (E1 D Y : List Value) (p q : Nat) (hq : cur.toList.take q = E1) (hq2 : E1.length = q) (hp : q + Y.length = p) (hpl : p ≤ cur.size) :
    (putAt (putAt cur q Y) p D).toList = E1 ++ Y ++ D ++ ((putAt cur q Y).toList.drop (p + D.length)) := by
  have hl : p ≤ cur.toList.length := by simpa using hpl
  rw [putAt_list (putAt cur q Y)]
  congr 2
  rw [putAt_list, hq]
  rw [List.take_append_of_le_length (by simp; omega)]
  exact List.take_of_length_le (by simp; omega)
theorem put_take (cur : Array Value) (q p : Nat) (Y : List Value) (h : p ≤ q) (hl : q ≤ cur.size) : (putAt cur q Y).toList.take p = cur.toList.take p := by
  have hl' : q ≤ cur.toList.length := by simpa using hl
  rw [putAt_list, List.append_assoc, List.take_append_of_le_length (by rw [List.length_take]; omega), List.take_take, Nat.min_eq_left h]
theorem put_drop (cur : Array Value) (q p : Nat) (Y : List Value) (h : q + Y.length ≤ p) (hl : p ≤ cur.size) : (putAt cur q Y).toList.drop p = cur.toList.drop p := by
  have hl' : p ≤ cur.toList.length := by simpa using hl
  rw [putAt_list]
  have h1 : (cur.toList.take q ++ Y).length = q + Y.length := by rw [List.length_append, List.length_take]; omega
  rw [show p = (cur.toList.take q ++ Y).length + (p - (q + Y.length)) by omega, List.drop_length_add_append, List.drop_drop]
  congr 1
  omega
section
variable {α : Type} [Enc α] {h : Heap} {base : Nat} {t : TypeId} {c g : Nat} {cur : Array Value} {xs : List α}
theorem Own.mk_ (hb : Blk h g t cur) (hg : base ≤ g) (hle : xs.length ≤ c) (hcm : c ≤ maxLen) (hsz : cur.size = c * Enc.k α) (htk : cur.toList.take (xs.length * Enc.k α) = encs xs) : Own h base t (some ⟨g, 0, none⟩) c xs :=
  .inr ⟨g, cur, rfl, hg, hb, hle, hcm, hsz, htk⟩
/-- the cells of a part of a row -/
theorem part_cells (htk : cur.toList.take (xs.length * Enc.k α) = encs xs) (j : Nat) : (cur.toList.drop (j * Enc.k α)).take ((xs.length - j) * Enc.k α) = encs (xs.drop j) := by
  rw [← encs_drop, ← htk, List.drop_take, Nat.sub_mul]
theorem first_cells (htk : cur.toList.take (xs.length * Enc.k α) = encs xs) {i : Nat} (hi : i ≤ xs.length) : cur.toList.take (i * Enc.k α) = encs (xs.take i) := by
  rw [← encs_take, ← htk, List.take_take, Nat.min_eq_left (Nat.mul_le_mul_right _ hi)]
end
end Go.Px
