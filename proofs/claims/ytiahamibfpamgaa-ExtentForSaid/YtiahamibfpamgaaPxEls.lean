/- An owned row: append and stores into its elements, where the row is new since a heap. No program of its own. -/
import Derived.Test.YtiahamibfpamgaaPxCells
set_option linter.unusedVariables false
set_option linter.unusedSimpArgs false
namespace Go.Px
open Enc (enc)
section
variable {P : Program} {ρ : Operand → Value} {o : Oper} {s : World} {h : Heap}
theorem put_list_take (cl : List Value) (p m : Nat) (vs : List Value) (h1 : p + vs.length ≤ m) (h2 : m ≤ cl.length) :
    (cl.take p ++ vs ++ cl.drop (p + vs.length)).take m = (cl.take m).take p ++ vs ++ (cl.take m).drop (p + vs.length) := by
  have h3 : (cl.take p ++ vs).length = p + vs.length := by rw [List.length_append, List.length_take]; omega
  have h4 : m = (cl.take p ++ vs).length + (m - (p + vs.length)) := by omega
  conv => lhs; rw [h4]
  rw [List.take_length_add_append, List.take_take, Nat.min_eq_left (by omega), List.drop_take]
theorem encs_set {α : Type} [Enc α] (xs : List α) (n : Nat) (y : α) (hn : n < xs.length) :
    (encs xs).take (n * Enc.k α) ++ enc y ++ (encs xs).drop (n * Enc.k α + (enc y).length) = encs (xs.set n y) := by
  have : n * Enc.k α + (enc y).length = (n + 1) * Enc.k α := by rw [Enc.len, Nat.add_mul, Nat.one_mul]
  rw [this, encs_take, encs_drop, List.set_eq_take_append_cons_drop, if_pos hn]
  simp [encs]
theorem putAt_set {α : Type} [Enc α] {cur : Array Value} {xs : List α} (n : Nat) (y : α) (hn : n < xs.length) (hl : xs.length * Enc.k α ≤ cur.size) (htk : cur.toList.take (xs.length * Enc.k α) = encs xs) :
    (putAt cur (n * Enc.k α) (enc y)).toList.take (xs.length * Enc.k α) = encs (xs.set n y) := by
  have h1 : (n + 1) * Enc.k α ≤ xs.length * Enc.k α := Nat.mul_le_mul_right _ hn
  rw [Nat.add_mul, Nat.one_mul] at h1
  rw [putAt_list, put_list_take _ _ _ _ (by rw [Enc.len]; exact h1) (by simpa using hl), htk, encs_set _ _ _ hn]
/-- a part of an element -/
theorem putAt_part {α : Type} [Enc α] [Inhabited α] {cur : Array Value} {xs : List α} (n j : Nat) (vs : List Value) (y : α) (hn : n < xs.length) (hl : xs.length * Enc.k α ≤ cur.size) (htk : cur.toList.take (xs.length * Enc.k α) = encs xs)
    (hj : j + vs.length ≤ Enc.k α) (hy : setL (enc (ix xs (n : Int))) j vs = enc y) : putAt cur (n * Enc.k α + j) vs = putAt cur (n * Enc.k α) (enc y) := by
  have h1 : (n + 1) * Enc.k α ≤ xs.length * Enc.k α := Nat.mul_le_mul_right _ hn
  rw [Nat.add_mul, Nat.one_mul] at h1
  have hc : (cur.toList.drop (n * Enc.k α)).take (Enc.k α) = enc (ix xs (n : Int)) := by
    have h2 := encs_at (xs := xs) hn
    rw [← htk, List.drop_take, List.take_take, Nat.min_eq_left (by omega)] at h2
    simpa [ix] using h2
  have hlc : cur.toList.length = cur.size := by simp
  have h3 : enc y = ((cur.toList.drop (n * Enc.k α)).take (Enc.k α)).take j ++ vs ++ ((cur.toList.drop (n * Enc.k α)).take (Enc.k α)).drop (j + vs.length) := by
    rw [← hy, hc, ← putAt_setL (enc (ix xs (n : Int))).toArray j vs (by simp [Enc.len]; omega), putAt_list]
  have hyl := Enc.len y
  apply Array.ext'
  rw [putAt_list, putAt_list]
  have e1 : cur.toList.take (n * Enc.k α + j) = cur.toList.take (n * Enc.k α) ++ (cur.toList.drop (n * Enc.k α)).take j := by rw [List.take_add]
  have e2 : cur.toList.drop (n * Enc.k α + j + vs.length) = ((cur.toList.drop (n * Enc.k α)).take (Enc.k α)).drop (j + vs.length) ++ cur.toList.drop (n * Enc.k α + Enc.k α) := by
    rw [List.drop_take, List.drop_drop, show n * Enc.k α + (j + vs.length) = n * Enc.k α + j + vs.length by omega]
    conv => lhs; rw [← List.take_append_drop (Enc.k α - (j + vs.length)) (cur.toList.drop (n * Enc.k α + j + vs.length))]
    rw [List.drop_drop]
    congr 2
    omega
  rw [e1, e2, hyl, h3, List.take_take, Nat.min_eq_left (by omega)]
  simp only [List.append_assoc]
theorem Own.isSome {α : Type} [Enc α] {base : Nat} {t : TypeId} {A : Option Addr} {c : Nat} {xs : List α} (own : Own h base t A c xs) (hn : 0 < xs.length) :
    ∃ g cur, A = some ⟨g, 0, none⟩ ∧ base ≤ g ∧ Blk h g t cur ∧ xs.length ≤ c ∧ c ≤ maxLen ∧ cur.size = c * Enc.k α ∧ cur.toList.take (xs.length * Enc.k α) = encs xs := by
  rcases own with ⟨_, _, h⟩ | h
  · subst h; simp at hn
  · exact h
/-- a store of a whole element -/
theorem Runs.setEl {α : Type} [Enc α] {t e : TypeId} {x y : Operand} {A : Option Addr} {c base z : Nat} {xs : List α} {i : Int} {y' : α} {K : Value → Heap → Prop} (ho : o.op = .store t x y) (hx : ρ x = .pointer (some ((adr A).add (i.toNat * z))))
    (hy : (ρ y).cells.toList = enc y') (hs : tSize P t = some (Enc.k α)) (own : Own h base e A c xs) (hz : Enc.k α = z) (hb : 0 ≤ i ∧ i < xs.length)
    (k : ∀ h', Chg (blk A) h h' → Own h' base e A c (xs.set i.toNat y') → K undef h') : Runs P ρ o s h K := by
  subst hz
  obtain ⟨g, cur, rfl, h1, h2, h3, h4, h5, h6⟩ := own.isSome (by omega)
  have hn : i.toNat < xs.length := by omega
  have hl : xs.length * Enc.k α ≤ cur.size := by rw [h5]; exact Nat.mul_le_mul_right _ h3
  have hn1 : (i.toNat + 1) * Enc.k α ≤ xs.length * Enc.k α := Nat.mul_le_mul_right _ hn
  rw [Nat.add_mul, Nat.one_mul] at hn1
  have hvl : (ρ y).cells.size = Enc.k α := by rw [← Array.length_toList, hy, Enc.len]
  refine Runs.store ho hx (by show (⟨g, 0, none⟩ : Addr).add _ = _; rw [add_lit, Nat.zero_add]) rfl (by rw [hvl]; exact hs) h2 (by rw [hvl]; omega) (by rw [hy]; exact Enc.one y') fun h' hC hB => k h' hC ?_
  rw [hy] at hB
  refine .inr ⟨g, _, rfl, h1, hB, by simpa using h3, h4, ?_, ?_⟩
  · rw [putAt_size _ _ _ (by rw [Enc.len]; omega)]; exact h5
  · rw [List.length_set]; exact putAt_set _ _ hn hl h6
/-- a store into a part of an element -/
theorem Runs.setFd {α : Type} [Enc α] [Inhabited α] {t e : TypeId} {x y : Operand} {A : Option Addr} {c base z j : Nat} {xs : List α} {i : Int} {y' : α} {vs : List Value} {K : Value → Heap → Prop} (ho : o.op = .store t x y) (hx : ρ x = .pointer (some (((adr A).add (i.toNat * z)).add j)))
    (hy : (ρ y).cells.toList = vs) (hs : tSize P t = some vs.length) (own : Own h base e A c xs) (hz : Enc.k α = z) (hb : 0 ≤ i ∧ i < xs.length) (hj : j + vs.length ≤ z) (hy' : setL (enc (ix xs i)) j vs = enc y') (h1v : (vs.all Value.oneCell') = true)
    (k : ∀ h', Chg (blk A) h h' → Own h' base e A c (xs.set i.toNat y') → K undef h') : Runs P ρ o s h K := by
  subst hz
  obtain ⟨g, cur, rfl, h1, h2, h3, h4, h5, h6⟩ := own.isSome (by omega)
  have hn : i.toNat < xs.length := by omega
  have hl : xs.length * Enc.k α ≤ cur.size := by rw [h5]; exact Nat.mul_le_mul_right _ h3
  have hn1 : (i.toNat + 1) * Enc.k α ≤ xs.length * Enc.k α := Nat.mul_le_mul_right _ hn
  rw [Nat.add_mul, Nat.one_mul] at hn1
  have hvl : (ρ y).cells.size = vs.length := by rw [← Array.length_toList, hy]
  have hi : ((i.toNat : Nat) : Int) = i := by omega
  refine Runs.store ho hx (b := g) (off := i.toNat * Enc.k α + j) (by show ((⟨g, 0, none⟩ : Addr).add _).add _ = _; rw [add_lit, add_lit, Nat.zero_add]) rfl (by rw [hvl]; exact hs) h2 (by rw [hvl]; omega) (by rw [hy]; simpa using h1v) fun h' hC hB => k h' hC ?_
  rw [hy, putAt_part i.toNat j vs y' hn hl h6 hj (by rw [hi]; exact hy')] at hB
  refine .inr ⟨g, _, rfl, h1, hB, by simpa using h3, h4, ?_, ?_⟩
  · rw [putAt_size _ _ _ (by rw [Enc.len]; omega)]; exact h5
  · rw [List.length_set]; exact putAt_set _ _ hn hl h6
/-- append to a row that is new since h0: what was there then stays -/
theorem Runs.appF {α : Type} [Enc α] {sx x : Operand} {t t2 e : TypeId} {A X : Option Addr} {c c' bytes : Nat} {xs ys : List α} {h0 : Heap} {K : Value → Heap → Prop} (hE : Ext h0 h)
    (ho : o.op = .call ⟨.builtin .append, #[sx, x], #[t, t2]⟩) (ht2 : t2 = t) (ht : isSlice P t = some e) (he : elemOk P e (Enc.k α) bytes = true) (hs : ρ sx = .slice A xs.length c) (hx : ρ x = .slice X ys.length c')
    (own : Own h h0.size e A c xs) (rd : Rd h X ys) (hlen : (xs.length + ys.length) * bytes ≤ 140737488355328)
    (k : ∀ A' c' h', Ext h0 h' → Own h' h0.size e A' c' (xs ++ ys) → Chg (blk A) h h' → (blk A' = blk A ∨ ∀ b ∈ blk A', h.size ≤ b) → K (.slice A' (xs ++ ys).length c') h') : Runs P ρ o s h K :=
  Runs.append (base := h0.size) ho ht2 ht he hs hx own rd hE.1 hlen fun A' c' h' hO hC hM => k A' c' h' (Chg.fresh hE hC own.blk_ge) hO hC hM
end
section
variable {P : Program} {n : Nat} {s : World} {Q : Exit → Env → Heap → Prop} {e : Env} {h : Heap}
/-- the loop's rule, with a row of one's own -/
theorem EW.loopA {c : Code} {σ : Type} (slots : σ → Option Addr → Nat → List (Nat × Value)) (R : σ → Option Addr → Nat → Heap → Prop) (μ : σ → Nat) (x0 : σ) (A0 : Option Addr) (c0 : Nat) (hs0 : Sl (slots x0 A0 c0) e) (h0 : R x0 A0 c0 h)
    (round : ∀ x A d e h, R x A d h → EW P n s c (qThen (fun e' h' => ∃ x' A' d', Sl (slots x' A' d') e' ∧ R x' A' d' h' ∧ μ x' < μ x) Q) (updL e (slots x A d)) h) : EW P n s (.loop c) Q e h :=
  EW.loopS (fun x : σ × Option Addr × Nat => slots x.1 x.2.1 x.2.2) (fun x => R x.1 x.2.1 x.2.2) (fun x => μ x.1) (x0, A0, c0) hs0 h0 fun x e h hR =>
    (round x.1 x.2.1 x.2.2 e h hR).mono fun ex e' h' hq => by
      cases ex <;> first
        | exact hq
        | (obtain ⟨x', A', d', a, b, c⟩ := hq; exact ⟨(x', A', d'), a, b, c⟩)
/-- with two -/
theorem EW.loopAB {c : Code} {σ : Type} (slots : σ → Option Addr → Nat → Option Addr → Nat → List (Nat × Value)) (R : σ → Option Addr → Nat → Option Addr → Nat → Heap → Prop) (μ : σ → Nat) (x0 : σ) (A0 : Option Addr) (c0 : Nat) (B0 : Option Addr) (d0 : Nat) (hs0 : Sl (slots x0 A0 c0 B0 d0) e) (h0 : R x0 A0 c0 B0 d0 h)
    (round : ∀ x A c' B d e h, R x A c' B d h → EW P n s c (qThen (fun e' h' => ∃ x' A' c' B' d', Sl (slots x' A' c' B' d') e' ∧ R x' A' c' B' d' h' ∧ μ x' < μ x) Q) (updL e (slots x A c' B d)) h) : EW P n s (.loop c) Q e h :=
  EW.loopS (fun x : σ × Option Addr × Nat × Option Addr × Nat => slots x.1 x.2.1 x.2.2.1 x.2.2.2.1 x.2.2.2.2) (fun x => R x.1 x.2.1 x.2.2.1 x.2.2.2.1 x.2.2.2.2) (fun x => μ x.1) (x0, A0, c0, B0, d0) hs0 h0 fun x e h hR =>
    (round x.1 x.2.1 x.2.2.1 x.2.2.2.1 x.2.2.2.2 e h hR).mono fun ex e' h' hq => by
      cases ex <;> first
        | exact hq
        | (obtain ⟨x', A', c', B', d', a, b, c⟩ := hq; exact ⟨(x', A', c', B', d'), a, b, c⟩)
end
def FG (P : Program) (f : FuncId) (args : List Value) (h : Heap) (v : Value) : Prop := FC P f args h [] (fun v' _ => v' = v)
section
variable {P : Program} {ρ : Operand → Value} {o : Oper} {s : World} {h : Heap}
theorem Gr.callG {g : FuncId} {as_ : Array Operand} {ts : Array TypeId} {v : Value} {K : Value → Heap → Prop} (ho : o.op = .call ⟨.value (.func g), as_, ts⟩) (hρ : ρ (.func g) = .func (.func g) #[] #[])
    (hc : ∀ h1, Ext h h1 → FG P g (as_.toList.map ρ) h1 v) (k : ∀ h', Ext h h' → K v h') : Gr P ρ o s h K :=
  Gr.call (R := fun _ v' _ => v' = v) ho hρ hc fun h1 v' h' x1 x2 hv => by subst hv; exact k h' (x1.trans x2)
end
section
variable {P : Program} {ρ : Operand → Value} {o : Oper} {s : World} {h : Heap}
/-- a call that makes memory and changes none: quiet -/
theorem Qy.callG {g : FuncId} {as_ : Array Operand} {ts : Array TypeId} {v : Value} (ho : o.op = .call ⟨.value (.func g), as_, ts⟩) (hρ : ρ (.func g) = .func (.func g) #[] #[])
    (hc : ∀ h1, Ext h h1 → FG P g (as_.toList.map ρ) h1 v) : Qy P ρ o s h v := by
  refine Qy.call ho hρ fun h1 hE => ⟨(hc h1 hE).ent, fun w hw => ((hc h1 hE).out w hw).mono fun en w' ⟨v', h', h1, h2, h3, h4, h5⟩ => ?_⟩
  subst h5
  exact ⟨h1, h2, h4.ext.trans h3⟩
end
section
variable {P : Program} {n : Nat} {s : World} {Q : Exit → Env → Heap → Prop} {e : Env} {h : Heap}
theorem EW.loop2 {c : Code} {α β : Type} (slots : α → β → List (Nat × Value)) (R : α → β → Heap → Prop) (μ : α → β → Nat) (x0 : α) (y0 : β) (hs0 : Sl (slots x0 y0) e) (h0 : R x0 y0 h)
    (round : ∀ x y e h, R x y h → EW P n s c (qThen (fun e' h' => ∃ x' y', Sl (slots x' y') e' ∧ R x' y' h' ∧ μ x' y' < μ x y) Q) (updL e (slots x y)) h) : EW P n s (.loop c) Q e h :=
  EW.loopS (fun x : α × β => slots x.1 x.2) (fun x => R x.1 x.2) (fun x => μ x.1 x.2) (x0, y0) hs0 h0 fun x e h hR =>
    (round x.1 x.2 e h hR).mono fun ex e' h' hq => by
      cases ex <;> first
        | exact hq
        | (obtain ⟨x', y', a, b, c⟩ := hq; exact ⟨(x', y'), a, b, c⟩)
theorem EW.loop3 {c : Code} {α β γ : Type} (slots : α → β → γ → List (Nat × Value)) (R : α → β → γ → Heap → Prop) (μ : α → β → γ → Nat) (x0 : α) (y0 : β) (z0 : γ) (hs0 : Sl (slots x0 y0 z0) e) (h0 : R x0 y0 z0 h)
    (round : ∀ x y z e h, R x y z h → EW P n s c (qThen (fun e' h' => ∃ x' y' z', Sl (slots x' y' z') e' ∧ R x' y' z' h' ∧ μ x' y' z' < μ x y z) Q) (updL e (slots x y z)) h) : EW P n s (.loop c) Q e h :=
  EW.loopS (fun x : α × β × γ => slots x.1 x.2.1 x.2.2) (fun x => R x.1 x.2.1 x.2.2) (fun x => μ x.1 x.2.1 x.2.2) (x0, y0, z0) hs0 h0 fun x e h hR =>
    (round x.1 x.2.1 x.2.2 e h hR).mono fun ex e' h' hq => by
      cases ex <;> first
        | exact hq
        | (obtain ⟨x', y', z', a, b, c⟩ := hq; exact ⟨(x', y', z'), a, b, c⟩)
end
end Go.Px
