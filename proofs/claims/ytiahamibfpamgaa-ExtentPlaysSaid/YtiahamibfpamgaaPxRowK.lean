/- From a row's reading to what is known of a heap, and back. No program of its own. -/
import Derived.Test.YtiahamibfpamgaaPxTab
import Derived.WalkKit
import Derived.ProofKit
import Derived.OpenShut
import Derived.ShutString
import Derived.ChangeOld
import Derived.Below
import Derived.SizedLaws
import Derived.Deep.Slices
set_option linter.unusedVariables false
set_option linter.unusedSimpArgs false
namespace Go.Px
open Enc (enc)
inductive CK | bool | int (k : IntKind) | str
def flatFs (rec : TypeId → Option (List CK)) (P : Program) : Nat → List Field → Option (List CK)
  | _, [] => some []
  | off, f :: fs => if f.offset = off then
      match rec f.type with
      | some a => if a.length = P.cellsOf f.type then
          match flatFs rec P (off + a.length) fs with
          | some b => some (a ++ b)
          | none => none
        else none
      | none => none
    else none
def flatK (P : Program) : Nat → TypeId → Option (List CK)
  | 0, _ => none
  | d + 1, t => match P.underlying t with
    | some .bool => some [.bool]
    | some (.int k) => some [.int k]
    | some .string => some [.str]
    | some (.struct fs) => match flatFs (flatK P d) P 0 fs.toList with
      | some ks => if ks.length = P.cellsOf t then some ks else none
      | none => none
    | _ => none
def CellOk : CK → Value → Prop
  | .bool, v => ∃ b, v = .bool b
  | .int k, v => ∃ n, v = .int k n ∧ (Lit.int k n).wf = true
  | .str, v => ∃ s, v = .string s ∧ s.size ≤ maxLen
def CellsOk : List CK → List Value → Prop
  | [], [] => True
  | k :: ks, v :: vs => CellOk k v ∧ CellsOk ks vs
  | _, _ => False
theorem CellsOk.append : ∀ {a b : List CK} {x y : List Value}, CellsOk a x → CellsOk b y → CellsOk (a ++ b) (x ++ y)
  | [], _, [], _, _, h => h
  | [], _, _ :: _, _, h, _ => h.elim
  | _ :: _, _, [], _, h, _ => h.elim
  | _ :: a, _, _ :: x, _, h, h' => ⟨h.1, CellsOk.append h.2 h'⟩
theorem CellsOk.len : ∀ {a : List CK} {x : List Value}, CellsOk a x → x.length = a.length
  | [], [], _ => rfl
  | [], _ :: _, h => h.elim
  | _ :: _, [], h => h.elim
  | _ :: a, _ :: x, h => by simp [CellsOk.len h.2]
theorem mapM_all {α β : Type} {f : α → Option β} : ∀ {l : List α} {ys : List β}, l.mapM f = some ys → ∀ a ∈ l, ∃ y, f a = some y
  | [], _, _, a, ha => by simp at ha
  | x :: l, ys, h, a, ha => by
    rw [List.mapM_cons] at h
    cases hx : f x with
    | none => rw [hx] at h; simp at h
    | some y =>
      cases hl : l.mapM f with
      | none => rw [hx, hl] at h; simp at h
      | some zs =>
        rcases List.mem_cons.1 ha with rfl | ha
        · exact ⟨y, hx⟩
        · exact mapM_all hl a ha
theorem trod_flat {H : Type} {ec : TypeId × Value → H} {P : Program} {w : World} {base : Nat} {sp : Nat → Bool} {held : Bool} : ∀ (d : Nat) {t : TypeId} {ks : List CK} {fuel : Nat} {cs : List Value} {x : DataW H × List MemPlace},
    flatK P d t = some ks → DataW.trod ec P w base sp held fuel t cs = some x → CellsOk ks cs
  | 0, t, ks, fuel, cs, x, hk, h => by simp [flatK] at hk
  | d + 1, t, ks, 0, cs, x, hk, h => by simp [DataW.trod] at h
  | d + 1, t, ks, fuel + 1, cs, x, hk, h => by
    unfold flatK at hk
    split at hk
    · rename_i hu; simp at hk; subst hk
      unfold DataW.trod at h
      simp only [hu] at h
      split at h <;> simp_all [CellsOk, CellOk]
    · rename_i k hu; simp at hk; subst hk
      unfold DataW.trod at h
      simp only [hu] at h
      split at h <;> simp_all [CellsOk, CellOk]
    · rename_i hu; simp at hk; subst hk
      unfold DataW.trod at h
      simp only [hu] at h
      split at h <;> simp_all [CellsOk, CellOk]
    · rename_i fs hu
      cases hfs : flatFs (flatK P d) P 0 fs.toList with
      | none => rw [hfs] at hk; simp at hk
      | some ks' =>
        rw [hfs] at hk
        simp only at hk
        split at hk
        · rename_i hlen
          simp at hk
          subst hk
          have h2 : cs.length = P.cellsOf t ∧ ∃ xs, fs.toList.mapM (fun f => DataW.trod ec P w base sp held fuel f.type ((cs.drop f.offset).take (P.cellsOf f.type))) = some xs := by
            unfold DataW.trod at h
            simp only [hu] at h
            by_cases hc : cs.length = P.cellsOf t
            · rw [if_pos hc] at h
              cases hm : fs.toList.mapM (fun f => DataW.trod ec P w base sp held fuel f.type ((cs.drop f.offset).take (P.cellsOf f.type))) with
              | none => rw [hm] at h; simp at h
              | some xs => exact ⟨hc, xs, rfl⟩
            · rw [if_neg hc] at h; cases h
          obtain ⟨hcl, xs, hm⟩ := h2
          have hall := mapM_all hm
          have key : ∀ (l : List Field) (off : Nat) (ks : List CK), (∀ f ∈ l, ∃ y, DataW.trod ec P w base sp held fuel f.type ((cs.drop f.offset).take (P.cellsOf f.type)) = some y) → flatFs (flatK P d) P off l = some ks → off + ks.length = cs.length → CellsOk ks (cs.drop off) := by
            intro l
            induction l with
            | nil =>
              intro off ks _ hf hl
              simp [flatFs] at hf
              subst hf
              simp at hl
              subst hl
              simp [CellsOk]
            | cons f l ihl =>
              intro off ks hall hf hl
              unfold flatFs at hf
              split at hf
              · rename_i hoff
                split at hf
                · rename_i a ha
                  split at hf
                  · rename_i hal
                    split at hf
                    · rename_i b hb
                      simp at hf
                      subst hf
                      simp only [List.length_append] at hl
                      obtain ⟨y, hy⟩ := hall f List.mem_cons_self
                      have h1 := trod_flat d ha hy
                      have h2 := ihl (off + a.length) b (fun g hg => hall g (List.mem_cons_of_mem _ hg)) hb (by omega)
                      have : cs.drop off = (cs.drop f.offset).take (P.cellsOf f.type) ++ cs.drop (off + a.length) := by
                        rw [hoff, ← hal, ← List.drop_drop]
                        exact (List.take_append_drop _ _).symm
                      rw [this]
                      exact h1.append h2
                    · cases hf
                  · cases hf
                · cases hf
              · cases hf
          have := key fs.toList 0 ks' hall hfs (by rw [hcl]; omega)
          simpa using this
        · cases hk
    · cases hk
theorem at_encs {α : Type} [Enc α] {h : Heap} : ∀ {xs : List α} {a : Addr}, (∀ i (hi : i < xs.length), At h (a.add (i * Enc.k α)) (enc xs[i])) → At h a (encs xs)
  | [], a, _ => fun j u hu => by simp [encs] at hu
  | x :: xs, a, hall => by
    have h0 := hall 0 (by simp)
    have ih := @at_encs α _ h xs (a.add (Enc.k α)) fun i hi => by
      have := hall (i + 1) (by simpa using hi)
      rw [add_add, Nat.add_comm, ← Nat.succ_mul]
      simpa using this
    intro j u hu
    rw [show encs (x :: xs) = enc x ++ encs xs by simp [encs]] at hu
    by_cases hj : j < (enc x).length
    · rw [List.getElem?_append_left hj] at hu
      have := h0 j u (by simpa using hu)
      rw [add_add] at this
      simpa using this
    · rw [List.getElem?_append_right (by omega)] at hu
      have := ih (j - (enc x).length) u hu
      rw [add_add, Enc.len] at this
      rwa [show Enc.k α + (j - Enc.k α) = j by rw [Enc.len] at hj; omega] at this
theorem cells_at {w : World} {a : Addr} {n : Nat} {cs : List Value} (h : w.cells? 0 a n = some cs) (j : Nat) (hj : j < n) (u : Value) (hu : cs[j]? = some u) : cellH w.heap (a.add j) = some u := by
  unfold World.cells? at h
  rw [if_pos (Nat.zero_le _)] at h
  have key : ∀ (l : List Nat) (cs : List Value), l.mapM (fun i => w.cell? (a.add i)) = some cs → ∀ (j : Nat) (u : Value), cs[j]? = some u → ∃ i, l[j]? = some i ∧ w.cell? (a.add i) = some u := by
    intro l
    induction l with
    | nil => intro cs h j u hu; simp at h; subst h; simp at hu
    | cons x l ih =>
      intro cs h j u hu
      rw [List.mapM_cons] at h
      cases hx : w.cell? (a.add x) with
      | none => rw [hx] at h; simp at h
      | some y =>
        cases hl : l.mapM (fun i => w.cell? (a.add i)) with
        | none => rw [hx, hl] at h; simp at h
        | some zs =>
          rw [hx, hl] at h
          simp at h
          subst h
          cases j with
          | zero => simp at hu; subst hu; exact ⟨x, rfl, hx⟩
          | succ j => simp at hu; simpa using ih zs hl j u hu
  obtain ⟨i, hi, hc⟩ := key _ cs h j u hu
  rw [List.getElem?_range hj] at hi
  injection hi with hi
  subst hi
  exact hc
/-- a slice that is read: its elements, in memory -/
theorem rd_of_trod {α : Type} [Enc α] [Inhabited α] {H : Type} {ec : TypeId × Value → H} {P : Program} {W : World} {t e : TypeId} {ks : List CK} {v : Value} {d : DataW H} {ps : List MemPlace} {ts : List TypeId} {ds : List (DataW H)} {j : Nat} (good : α → Prop) (n : Nat) (hsz : (DataW.weightsEach P ts ds).all (· ≤ reachBytes) = true) (htj : ts[j]? = some t) (hdj : ds[j]? = some d) (ht : P.underlying t = some (.slice e)) (hf : flatK P n e = some ks) (hk : P.cellsOf e = Enc.k α)
    (hp : ∀ cs, CellsOk ks cs → ∃ x : α, cs = enc x ∧ good x) (h : DataW.Trod ec P W 0 (fun _ => true) true t v d ps) (hv : v.cells.toList = [v]) :
    ∃ A c xs, v = .slice A (xs : List α).length c ∧ Rd W.heap A xs ∧ (∀ x ∈ xs, good x) ∧ xs.length ≤ c ∧ c ≤ maxLen ∧ xs.length * P.bytesOf e ≤ 140737488351232 := by
  obtain ⟨fuel, hf2⟩ := h
  rw [hv] at hf2
  rcases Go.Deep.open_slice ht hf2 with ⟨hc, _⟩ | ⟨a, len, cap, m, n2, D, Pl, hc, _, hl, hm, hmm, hx0, hall⟩
  · simp at hc
    subst hc
    exact ⟨none, 0, [], rfl, Rd.nil _ _, by simp, by simp, by simp [maxLen], by simp⟩
  · simp at hc
    subst hc
    simp only [if_true] at hmm
    subst hmm
    have hx : ∀ i, i < len → ∃ x : α, good x ∧ At W.heap (a.add (i * Enc.k α)) (enc x) := by
      intro i hi
      obtain ⟨cs', h1, h2⟩ := hall i (by omega)
      obtain ⟨x, rfl, hg⟩ := hp _ (trod_flat n hf h2)
      refine ⟨x, hg, fun j u hu => ?_⟩
      rw [hk] at h1
      have hj : j < Enc.k α := by rw [← Enc.len x]; exact (List.getElem?_eq_some_iff.1 hu).1
      exact cells_at h1 j hj u hu
    have hch : ∃ X : Nat → α, ∀ i, i < len → good (X i) ∧ At W.heap (a.add (i * Enc.k α)) (enc (X i)) := by
      refine ⟨fun i => if hi : i < len then Classical.choose (hx i hi) else default, fun i hi => ?_⟩
      simp only [hi, dif_pos]
      exact Classical.choose_spec (hx i hi)
    obtain ⟨X, hX⟩ := hch
    refine ⟨some a, _, (List.range len).map X, by simp, ⟨fun _ => rfl, at_encs (a := a) fun i hi => ?_⟩, fun x hx => ?_, by simpa using hl, hm, ?_⟩
    · simp at hi
      simpa using (hX i hi).2
    · simp at hx
      obtain ⟨i, hi, rfl⟩ := hx
      exact (hX i hi).1
    · obtain ⟨rfl, _⟩ := Prod.mk.inj hx0
      have z := Go.sized_slice hsz htj hdj ht
      simp only [List.length_map, List.length_range] at z ⊢
      have h1 : len * P.bytesOf e ≤ (len + (m - len)) * P.bytesOf e := Nat.mul_le_mul_right _ (by omega)
      have h2 : reachBytes = 140737488351232 := by decide
      omega
/-- a struct that is handed over, of plain cells -/
theorem agg_of_trod {α : Type} [Enc α] {H : Type} {ec : TypeId × Value → H} {P : Program} {W : World} {t : TypeId} {ks : List CK} {cs : Array Value} {d : DataW H} {ps : List MemPlace} (good : α → Prop) (n : Nat) (hf : flatK P n t = some ks)
    (hp : ∀ cs, CellsOk ks cs → ∃ x : α, cs = enc x ∧ good x) (h : DataW.Trod ec P W 0 (fun _ => true) true t (.agg cs) d ps) : ∃ x : α, cs = (enc x).toArray ∧ good x := by
  obtain ⟨fuel, hf2⟩ := h
  obtain ⟨x, hx, hg⟩ := hp _ (trod_flat n hf hf2)
  exact ⟨x, by apply Array.ext'; exact hx, hg⟩
theorem cells1 {k0 : CK} {cs : List Value} (h : CellsOk [k0] cs) : ∃ x0, cs = [x0] ∧ CellOk k0 x0 := by
  have hl := h.len
  match cs, hl, h with
  | [x0], _, h => exact ⟨x0, rfl, h.1⟩
theorem cells2 {k0 k1 : CK} {cs : List Value} (h : CellsOk [k0, k1] cs) : ∃ x0 x1, cs = [x0, x1] ∧ CellOk k0 x0 ∧ CellOk k1 x1 := by
  have hl := h.len
  match cs, hl, h with
  | [x0, x1], _, h => exact ⟨x0, x1, rfl, h.1, h.2.1⟩
theorem cells3 {k0 k1 k2 : CK} {cs : List Value} (h : CellsOk [k0, k1, k2] cs) : ∃ x0 x1 x2, cs = [x0, x1, x2] ∧ CellOk k0 x0 ∧ CellOk k1 x1 ∧ CellOk k2 x2 := by
  have hl := h.len
  match cs, hl, h with
  | [x0, x1, x2], _, h => exact ⟨x0, x1, x2, rfl, h.1, h.2.1, h.2.2.1⟩
theorem cells4 {k0 k1 k2 k3 : CK} {cs : List Value} (h : CellsOk [k0, k1, k2, k3] cs) : ∃ x0 x1 x2 x3, cs = [x0, x1, x2, x3] ∧ CellOk k0 x0 ∧ CellOk k1 x1 ∧ CellOk k2 x2 ∧ CellOk k3 x3 := by
  have hl := h.len
  match cs, hl, h with
  | [x0, x1, x2, x3], _, h => exact ⟨x0, x1, x2, x3, rfl, h.1, h.2.1, h.2.2.1, h.2.2.2.1⟩
theorem cells5 {k0 k1 k2 k3 k4 : CK} {cs : List Value} (h : CellsOk [k0, k1, k2, k3, k4] cs) : ∃ x0 x1 x2 x3 x4, cs = [x0, x1, x2, x3, x4] ∧ CellOk k0 x0 ∧ CellOk k1 x1 ∧ CellOk k2 x2 ∧ CellOk k3 x3 ∧ CellOk k4 x4 := by
  have hl := h.len
  match cs, hl, h with
  | [x0, x1, x2, x3, x4], _, h => exact ⟨x0, x1, x2, x3, x4, rfl, h.1, h.2.1, h.2.2.1, h.2.2.2.1, h.2.2.2.2.1⟩
theorem cells6 {k0 k1 k2 k3 k4 k5 : CK} {cs : List Value} (h : CellsOk [k0, k1, k2, k3, k4, k5] cs) : ∃ x0 x1 x2 x3 x4 x5, cs = [x0, x1, x2, x3, x4, x5] ∧ CellOk k0 x0 ∧ CellOk k1 x1 ∧ CellOk k2 x2 ∧ CellOk k3 x3 ∧ CellOk k4 x4 ∧ CellOk k5 x5 := by
  have hl := h.len
  match cs, hl, h with
  | [x0, x1, x2, x3, x4, x5], _, h => exact ⟨x0, x1, x2, x3, x4, x5, rfl, h.1, h.2.1, h.2.2.1, h.2.2.2.1, h.2.2.2.2.1, h.2.2.2.2.2.1⟩
theorem cells7 {k0 k1 k2 k3 k4 k5 k6 : CK} {cs : List Value} (h : CellsOk [k0, k1, k2, k3, k4, k5, k6] cs) : ∃ x0 x1 x2 x3 x4 x5 x6, cs = [x0, x1, x2, x3, x4, x5, x6] ∧ CellOk k0 x0 ∧ CellOk k1 x1 ∧ CellOk k2 x2 ∧ CellOk k3 x3 ∧ CellOk k4 x4 ∧ CellOk k5 x5 ∧ CellOk k6 x6 := by
  have hl := h.len
  match cs, hl, h with
  | [x0, x1, x2, x3, x4, x5, x6], _, h => exact ⟨x0, x1, x2, x3, x4, x5, x6, rfl, h.1, h.2.1, h.2.2.1, h.2.2.2.1, h.2.2.2.2.1, h.2.2.2.2.2.1, h.2.2.2.2.2.2.1⟩
theorem i64_bd {a : Int} (w : (Lit.int .i64 a).wf = true) : -9223372036854775808 ≤ a ∧ a ≤ 9223372036854775807 := by
  revert w
  simp [Lit.wf, IntKind.min, IntKind.max, IntKind.signed, IntKind.bits]
end Go.Px
