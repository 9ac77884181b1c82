/- Rows written in place: append, copy, clear, and a row made with zeros behind. No program of its own. -/
import Derived.Test.YtiahamibfpamgaaPxIdx
import Derived.Lib.AppendZerosOnto
import Derived.Lib.Overlaps
set_option linter.unusedVariables false
set_option linter.unusedSimpArgs false
namespace Go.Px
open Enc (enc)
theorem putAt_list (cs : Array Value) (off : Nat) (vs : List Value) : (putAt cs off vs).toList = cs.toList.take off ++ vs ++ cs.toList.drop (off + vs.length) := rfl
theorem putAt_size (cs : Array Value) (off : Nat) (vs : List Value) (hl : off + vs.length ≤ cs.size) : (putAt cs off vs).size = cs.size := by
  rw [← Array.length_toList, putAt_list]
  simp
  omega
theorem putAt_nil (cs : Array Value) (off : Nat) : putAt cs off [] = cs := by
  apply Array.ext'
  rw [putAt_list]
  simp
section
variable {P : Program} {ρ : Operand → Value} {o : Oper} {s : World} {h : Heap}
theorem At.take_ {a : Addr} {cs : List Value} (k : At h a cs) (n : Nat) : At h a (cs.take n) := fun j u hu => k j u (by
  rw [List.getElem?_take] at hu
  split at hu
  · exact hu
  · cases hu)
theorem Blk.from_ {b : Nat} {t : TypeId} {cs : Array Value} (hb : Blk h b t cs) (o n : Nat) : At h ⟨b, o, none⟩ ((cs.toList.drop o).take n) := by
  have := hb.at0.drop o n
  rwa [add_lit, Nat.zero_add] at this
theorem Runs.of_Gr {K : Value → Heap → Prop} (k : Gr P ρ o s h K) : Runs P ρ o s h K := by
  intro w hs hw
  have := k.out w hs hw
  generalize (execOp ρ o).run P w = r at *
  cases r with
  | halt x w' => exact this.elim
  | ok nx w' =>
    cases nx <;> first
      | exact this.elim
      | skip
    case value u => obtain ⟨h1, h', h2, h3, h4⟩ := this; exact ⟨h1, h', h3, h4⟩
    case enter f args => exact this.mono fun en w'' ⟨v, h0, h1, h', h2, h3, h4⟩ => ⟨v, h0, h1, h', h3, h4⟩
/-- append in place -/
theorem Runs.appendRoom {sx x : Operand} {t t2 e : TypeId} {g n c m c' k bytes : Nat} {X : Option Addr} {cur : Array Value} {news : List Value} {K : Value → Heap → Prop}
    (ho : o.op = .call ⟨.builtin .append, #[sx, x], #[t, t2]⟩) (ht2 : t2 = t) (ht : isSlice P t = some e) (he : elemOk P e k bytes = true) (hs : ρ sx = .slice (some ⟨g, 0, none⟩) n c) (hx : ρ x = .slice X m c')
    (hb : Blk h g e cur) (hX : 0 < m → X.isSome = true) (hn : At h (adr X) news) (hl : news.length = m * k) (h1 : ∀ u ∈ news, u.oneCell' = true) (hroom : n + m ≤ c) (hfit : n * k + news.length ≤ cur.size)
    (kk : ∀ h', Chg [g] h h' → Blk h' g e (putAt cur (n * k) news) → K (.slice (some ⟨g, 0, none⟩) (n + m) c) h') : Runs P ρ o s h K := by
  intro w hst hw
  subst ht2
  obtain ⟨i, z, hi, hz, hzs, hsz, hby, hpos⟩ := elemOk_spec he
  subst hsz
  have hbw := hb.ext hw
  cases X with
  | some a =>
    have hr := run_append_room (P := P) w t2 o.type e i (isSlice_und ht) hi g n c cur hbw a m c' news hl (hn.ext hw) h1 hroom hfit
    simp only [execOp, ho, resolve, invoke, builtin, Sem.run_bind, Sem.run_pure, Result.andThen_ok, List.map_toArray, List.map_cons, List.map_nil, hs, hx, hr]
    exact ⟨⟨hst.1, hst.2.1, hst.2.2⟩, _, Ext.refl _, kk _ ((hw.chg [g]).trans (setRow_chg _)) (setRow_blk hbw _)⟩
  | none =>
    have hm : m = 0 := by
      rcases Nat.eq_zero_or_pos m with h0 | h0
      · exact h0
      · exact absurd (hX h0) (by simp)
    subst hm
    have hn0 : news = [] := List.eq_nil_of_length_eq_zero (by simpa using hl)
    subst hn0
    have hr : (Builtin.append_ #[t2, t2] o.type #[.slice (some ⟨g, 0, none⟩) n c, .slice none 0 c']).run P w = .ok (.slice (some ⟨g, 0, none⟩) n c) w := by
      have : n ≤ c := by omega
      simp [Builtin.append_, run_underlying (isSlice_und ht), sizeOf, typeInfo, hi, Builtin.lenOf, Builtin.firstCells, this, storeCells]
    simp only [execOp, ho, resolve, invoke, builtin, Sem.run_bind, Sem.run_pure, Result.andThen_ok, List.map_toArray, List.map_cons, List.map_nil, hs, hx, hr]
    exact ⟨hst, _, Ext.refl _, kk _ (hw.chg [g]) (by rw [putAt_nil]; exact hbw)⟩
theorem zeros_len (z : Array Value) (n : Nat) : (Builtin.zeroCells z n).size = n * z.size := by simp [Builtin.zeroCells]
/-- append into a new row -/
theorem Gr.appendGrow {sx x : Operand} {t t2 e : TypeId} {n c m c' k bytes : Nat} {A X : Option Addr} {olds news : List Value} {K : Value → Heap → Prop}
    (ho : o.op = .call ⟨.builtin .append, #[sx, x], #[t, t2]⟩) (ht2 : t2 = t) (ht : isSlice P t = some e) (he : elemOk P e k bytes = true) (hs : ρ sx = .slice A n c) (hx : ρ x = .slice X m c')
    (hA : 0 < n → A.isSome = true) (hX : X.isSome = true) (holds : At h (adr A) olds) (hol : olds.length = n * k) (hn : At h (adr X) news) (hl : news.length = m * k) (hgrow : c < n + m) (hlen : (n + m) * bytes ≤ 140737488355328)
    (kk : ∀ b c1 cs h', h.size ≤ b → Ext h h' → Blk h' b e cs → n + m ≤ c1 → c1 ≤ maxLen → cs.size = c1 * k → cs.toList.take ((n + m) * k) = olds ++ news → K (.slice (some ⟨b, 0, none⟩) (n + m) c1) h') : Gr P ρ o s h K := by
  refine ⟨fun w hst hw => ?_⟩
  subst ht2
  obtain ⟨i, z, hi, hz, hzs, hsz, hby, hpos⟩ := elemOk_spec he
  subst hsz
  subst hby
  have hsum : n + m ≤ 140737488355328 := Nat.le_trans (Nat.le_mul_of_pos_right _ hpos) hlen
  obtain ⟨a, rfl⟩ := Option.isSome_iff_exists.1 hX
  have hcap := grownCap_ge w (n + m) c e
  have hcm : grownCap w (n + m) c e ≤ maxLen := grownCap_le_maxLen w (n + m) c e (by simp [maxLen]; omega)
  have hr : (Builtin.append_ #[t2, t2] o.type #[.slice A n c, .slice (some a) m c']).run P w = .ok (.slice (some ⟨w.heap.size, 0, none⟩) (n + m) (grownCap w (n + m) c e))
      (w.drew.alloc (.cells (olds.toArray ++ news.toArray ++ Builtin.zeroCells z.cells (grownCap w (n + m) c e - (n + m))) e)) := by
    cases A with
    | some b => exact run_append_grow (P := P) w t2 o.type e i z (isSlice_und ht) hi hz b n c olds hol (holds.ext hw) a m c' news hl (hn.ext hw) hgrow (by omega) (growslice_fits hgrow hlen)
    | none =>
      have hn0 : n = 0 := by
        rcases Nat.eq_zero_or_pos n with h0 | h0
        · exact h0
        · exact absurd (hA h0) (by simp)
      subst hn0
      have ho0 : olds = [] := List.eq_nil_of_length_eq_zero (by simpa using hol)
      subst ho0
      have hnn : ¬ (0 + m ≤ c) := by omega
      have hnn2 : ¬ (m ≤ c) := by omega
      have h63' : ¬ (9223372036854775807 < (m : Int)) := by omega
      have h48 := growslice_fits (bytes := i.bytes) hgrow hlen
      have h48' : ¬ (281474976710656 < Builtin.nextslicecap m c * i.bytes) := by simp at h48; omega
      have hf := run_firstCells_some (P := P) w.drew i.size m a m c' news hl (fun j v hv => hn.ext hw j v hv)
      have hf0 : (Builtin.firstCells i.size 0 (.slice none 0 c)).run P w.drew = .ok #[] w.drew := by simp [Builtin.firstCells]
      simp [Builtin.append_, run_underlying (isSlice_und ht), sizeOf, typeInfo, zeroValue, hi, hz, Builtin.lenOf, hnn2, h63', h48', Question.forced, hf, hf0, newRow, grownCap]
  simp only [execOp, ho, resolve, invoke, builtin, Sem.run_bind, Sem.run_pure, Result.andThen_ok, List.map_toArray, List.map_cons, List.map_nil, hs, hx, hr]
  have hE : Ext h (w.drew.alloc (.cells (olds.toArray ++ news.toArray ++ Builtin.zeroCells z.cells (grownCap w (n + m) c e - (n + m))) e)).heap := hw.trans (alloc_ext (w := w.drew))
  refine ⟨⟨hst.1, hst.2.1, hst.2.2⟩, _, hE, Ext.refl _, kk _ _ _ _ hw.1 hE (alloc_blk (w := w.drew)) hcap hcm ?_ ?_⟩
  · simp only [Array.size_append, List.size_toArray, zeros_len, hzs, hol, hl, ← Nat.add_mul]
    congr 1
    omega
  · have hl2 : (n + m) * i.size = (olds ++ news).length := by simp [hol, hl, Nat.add_mul]
    simp only [Array.toList_append]
    rw [hl2]
    exact List.take_left
/-- append(s, make([]T, m)...) into a new row -/
theorem Gr.appendZeros {sx x : Operand} {t t2 e : TypeId} {n c k bytes : Nat} {m : Int} {kq kn : IntKind} {A : Option Addr} {olds : List Value} {K : Value → Heap → Prop}
    (ho : o.op = .call ⟨.builtin .append, #[sx, x], #[t, t2]⟩) (ht2 : isInt P t2 = some kn) (ht : isSlice P t = some e) (he : elemOk P e k bytes = true) (hk : 0 < k) (hs : ρ sx = .slice A n c) (hx : ρ x = .int kq m) (hm : 0 < m)
    (hA : 0 < n → A.isSome = true) (holds : At h (adr A) olds) (hol : olds.length = n * k) (hgrow : c < n + m) (hlen : (n + m) * bytes ≤ 140737488355328)
    (kk : ∀ b c1 cs h', h.size ≤ b → Ext h h' → Blk h' b e cs → n + m.toNat ≤ c1 → c1 ≤ maxLen → cs.size = c1 * k → cs.toList.take (n * k) = olds → K (.slice (some ⟨b, 0, none⟩) (n + m.toNat) c1) h') : Gr P ρ o s h K := by
  refine ⟨fun w hst hw => ?_⟩
  obtain ⟨i, z, hi, hz, hzs, hsz, hby, hpos⟩ := elemOk_spec he
  subst hsz
  subst hby
  obtain ⟨m, rfl⟩ := Int.eq_ofNat_of_zero_le (Int.le_of_lt hm)
  have hm0 : 0 < m := by omega
  have hlen' : (n + m) * i.bytes ≤ 140737488355328 := by
    have : (((n + m) * i.bytes : Nat) : Int) ≤ 140737488355328 := by push_cast; exact hlen
    omega
  have hsum : n + m ≤ 140737488355328 := Nat.le_trans (Nat.le_mul_of_pos_right _ hpos) hlen'
  have hcap := grownCap_ge w (n + m) c e
  have hcm : grownCap w (n + m) c e ≤ maxLen := grownCap_le_maxLen w (n + m) c e (by simp [maxLen]; omega)
  have ht2' : P.underlying t2 = some (.int kn) := by
    unfold isInt at ht2
    split at ht2
    · rename_i hd; simp at ht2; subst ht2; exact hd
    · cases ht2
  have hold : (Builtin.firstCells i.size n (.slice A n c)).run P w.drew = .ok olds.toArray w.drew := by
    cases A with
    | some b => exact run_firstCells_some (P := P) w.drew i.size n b n c olds hol (fun j v hv => holds.ext hw j v hv)
    | none =>
      have hn0 : n = 0 := by
        rcases Nat.eq_zero_or_pos n with h0 | h0
        · exact h0
        · exact absurd (hA h0) (by simp)
      subst hn0
      have ho0 : olds = [] := List.eq_nil_of_length_eq_zero (by simpa using hol)
      subst ho0
      simp [Builtin.firstCells]
  have hmb : m * i.bytes ≤ (n + m) * i.bytes := Nat.mul_le_mul_right _ (by omega)
  have hr := Lib.run_append_grow_zeros (P := P) w t t2 o.type e i z kq kn (isSlice_und ht) ht2' hi hz A n c olds hold m hm0 hk (by omega) (by omega) (by omega) (growslice_fits (by omega) hlen')
  simp only [execOp, ho, resolve, invoke, builtin, Sem.run_bind, Sem.run_pure, Result.andThen_ok, List.map_toArray, List.map_cons, List.map_nil, hs, hx, hr]
  have hE : Ext h (w.drew.alloc (.cells (olds.toArray ++ Builtin.zeroCells z.cells m ++ Builtin.zeroCells z.cells (grownCap w (n + m) c e - (n + m))) e)).heap := hw.trans (alloc_ext (w := w.drew))
  refine ⟨⟨hst.1, hst.2.1, hst.2.2⟩, _, hE, Ext.refl _, kk _ _ _ _ hw.1 hE (alloc_blk (w := w.drew)) hcap hcm ?_ ?_⟩
  · simp only [Array.size_append, List.size_toArray, zeros_len, hzs, hol, ← Nat.add_mul]
    congr 1
    omega
  · simp only [Array.toList_append, List.toList_toArray, List.append_assoc]
    rw [List.take_append_of_le_length (by simp [hol]), List.take_of_length_le (by simp [hol])]
/-- copy -/
theorem Runs.copy {x y : Operand} {t t2 e : TypeId} {g of dl dc sl sc n k bytes : Nat} {D S : Option Addr} {cur : Array Value} {cs : List Value} {t' : TypeId} {K : Value → Heap → Prop}
    (ho : o.op = .call ⟨.builtin .copy, #[x, y], #[t, t2]⟩) (ht : isSlice P t = some e) (he : elemOk P e k bytes = true) (hx : ρ x = .slice D dl dc) (hy : ρ y = .slice S sl sc) (hn : n = min sl dl)
    (hD : 0 < n → D = some ⟨g, of, none⟩) (hS : 0 < n → S.isSome = true) (hs : At h (adr S) cs) (hl : cs.length = n * k) (hb : Blk h g t' cur) (hfit : 0 < n → of + n * k ≤ cur.size) (h1 : ∀ u ∈ cs, u.oneCell' = true)
    (kk : ∀ h', Chg [g] h h' → Blk h' g t' (if n = 0 then cur else putAt cur of cs) → K (.int .i64 n) h') : Runs P ρ o s h K := by
  intro w hst hw
  obtain ⟨i, z, hi, hz, hzs, hsz, hby, hpos⟩ := elemOk_spec he
  subst hsz
  have hbw := hb.ext hw
  have hn' : Nat.min sl dl = n := hn.symm
  rcases Nat.eq_zero_or_pos n with h0 | h0
  · subst h0
    have hc0 : cs = [] := List.eq_nil_of_length_eq_zero (by simpa using hl)
    have hf : ∀ w, (Builtin.firstCells i.size 0 (.slice S sl sc)).run P w = .ok #[] w := fun w => by
      cases S <;> simp [Builtin.firstCells, loadCells, loadCellsFrom]
    have hr : (Builtin.copy_ #[t, t2] o.type #[.slice D dl dc, .slice S sl sc]).run P w = .ok (.int .i64 0) w := by
      cases D <;> simp [Builtin.copy_, run_underlying (isSlice_und ht), sizeOf, typeInfo, hi, Builtin.lenOf, hn', hf, storeCells, goInt]
    simp only [execOp, ho, resolve, invoke, builtin, Sem.run_bind, Sem.run_pure, Result.andThen_ok, List.map_toArray, List.map_cons, List.map_nil, hx, hy, hr]
    exact ⟨hst, _, Ext.refl _, kk _ (hw.chg [g]) (by simpa using hbw)⟩
  · have hD' := hD h0
    subst hD'
    obtain ⟨a, rfl⟩ := Option.isSome_iff_exists.1 (hS h0)
    have hf := run_firstCells_some (P := P) w i.size n a sl sc cs hl (hs.ext hw)
    have hst2 := run_storeCells_at P g of t' cs 0 cur w hbw (by rw [hl]; simpa using hfit h0) h1
    simp only [Nat.add_zero] at hst2
    have hr : (Builtin.copy_ #[t, t2] o.type #[.slice (some ⟨g, of, none⟩) dl dc, .slice (some a) sl sc]).run P w = .ok (.int .i64 n) (w.setRow g (putAt cur of cs)) := by
      simp [Builtin.copy_, run_underlying (isSlice_und ht), sizeOf, typeInfo, hi, Builtin.lenOf, hn', hf, hst2, goInt, putAt]
    simp only [execOp, ho, resolve, invoke, builtin, Sem.run_bind, Sem.run_pure, Result.andThen_ok, List.map_toArray, List.map_cons, List.map_nil, hx, hy, hr]
    refine ⟨⟨hst.1, hst.2.1, hst.2.2⟩, _, Ext.refl _, kk _ ((hw.chg [g]).trans (setRow_chg _)) ?_⟩
    rw [if_neg (by omega)]
    exact setRow_blk hbw _
/-- clear of a slice -/
theorem Runs.clear {x : Operand} {t e : TypeId} {g of n c k bytes : Nat} {D : Option Addr} {cur : Array Value} {t' : TypeId} {K : Value → Heap → Prop}
    (ho : o.op = .call ⟨.builtin .clear, #[x], #[t]⟩) (ht : isSlice P t = some e) (he : elemOk P e k bytes = true) (hone : (((P.info? e).bind (·.zero)).map fun z => z.cells.toList.all Value.oneCell') = some true) (hx : ρ x = .slice D n c)
    (hD : 0 < n → D = some ⟨g, of, none⟩) (hb : Blk h g t' cur) (hfit : 0 < n → of + n * k ≤ cur.size)
    (kk : ∀ h' zs, Chg [g] h h' → zs.length = n * k → Blk h' g t' (if n = 0 then cur else putAt cur of zs) → K (.tuple #[]) h') : Runs P ρ o s h K := by
  intro w hst hw
  obtain ⟨i, z, hi, hz, hzs, hsz, hby, hpos⟩ := elemOk_spec he
  have hbw := hb.ext hw
  have hone' : ∀ v ∈ z.cells.toList, v.oneCell' = true := by
    simp only [hi, hz, Option.bind_some, Option.map_some, Option.some.injEq, List.all_eq_true] at hone
    exact hone
  rcases Nat.eq_zero_or_pos n with h0 | h0
  · subst h0
    have hr : (Builtin.clear_ #[t] o.type #[.slice D 0 c]).run P w = .ok (.tuple #[]) w := by
      cases D <;> simp [Builtin.clear_, run_underlying (isSlice_und ht)]
    simp only [execOp, ho, resolve, invoke, builtin, Sem.run_bind, Sem.run_pure, Result.andThen_ok, List.map_toArray, List.map_cons, List.map_nil, hx, hr]
    exact ⟨hst, _, Ext.refl _, kk _ (List.replicate (0 * k) undef) (hw.chg [g]) (by simp) (by simpa using hbw)⟩
  · have hD' := hD h0
    subst hD'
    obtain ⟨m, rfl⟩ : ∃ m, n = m + 1 := ⟨n - 1, by omega⟩
    have hzl : (Builtin.zeroCells z.cells (m + 1)).toList.length = (m + 1) * k := by rw [Array.length_toList, zeros_len, hzs]
    have hz1 : ∀ u ∈ (Builtin.zeroCells z.cells (m + 1)).toList, u.oneCell' = true := by
      intro u hu
      simp only [Builtin.zeroCells, Array.toList_map, Array.toList_range, List.mem_map, List.mem_range] at hu
      obtain ⟨j, hj, rfl⟩ := hu
      have hkp : 0 < z.cells.size := by
        rcases Nat.eq_zero_or_pos z.cells.size with h | h
        · rw [h] at hj; omega
        · exact h
      have hlt : j % z.cells.size < z.cells.size := Nat.mod_lt _ hkp
      rw [getElem!_pos z.cells (j % z.cells.size) hlt]
      exact hone' _ (by simp)
    have hst2 := run_storeCells_at P g of t' (Builtin.zeroCells z.cells (m + 1)).toList 0 cur w hbw (by rw [hzl]; simpa using hfit h0) hz1
    simp only [Nat.add_zero] at hst2
    have hr : (Builtin.clear_ #[t] o.type #[.slice (some ⟨g, of, none⟩) (m + 1) c]).run P w = .ok (.tuple #[]) (w.setRow g (putAt cur of (Builtin.zeroCells z.cells (m + 1)).toList)) := by
      simp [Builtin.clear_, run_underlying (isSlice_und ht), zeroValue, typeInfo, hi, hz]
      rw [hst2]
      simp [putAt]
    simp only [execOp, ho, resolve, invoke, builtin, Sem.run_bind, Sem.run_pure, Result.andThen_ok, List.map_toArray, List.map_cons, List.map_nil, hx, hr]
    refine ⟨⟨hst.1, hst.2.1, hst.2.2⟩, _, Ext.refl _, kk _ _ ((hw.chg [g]).trans (setRow_chg _)) hzl ?_⟩
    rw [if_neg (by omega)]
    exact setRow_blk hbw _
/-- slices.overlaps of two rows in two blocks -/
theorem Qy.overlaps {g : FuncId} {as : Array Operand} {ts : Array TypeId} {tS tR e : TypeId} {D S : Option Addr} {la ca lb cb k : Nat} (ho : o.op = .call ⟨.value (.func g), as, ts⟩) (hρ : ρ (.func g) = .func (.func g) #[] #[]) (has : as.toList.map ρ = [.slice D la ca, .slice S lb cb])
    (hrun : ∀ (args : Array Value) (w : World), (callFunc g args).run P w = ((Extern.SlicesOverlaps.overlaps #[tS, tS] #[tR] args).run P w).andThen (fun v w' => .ok (.value v) w'))
    (ht : isSlice P tS = some e) (hz : tSize P e = some k)
    (hne : la = 0 ∨ lb = 0 ∨ D = none ∨ S = none ∨ ∃ a b : Addr, D = some a ∧ S = some b ∧ a.block ≠ b.block ∧ (∃ tA cA, Blk h a.block tA cA) ∧ (∃ tB cB, Blk h b.block tB cB ∧ cB.size ≠ 0)) : Qy P ρ o s h (.bool false) := by
  refine Qy.known fun w hw => ?_
  have h1 : (Extern.SlicesOverlaps.overlaps #[tS, tS] #[tR] #[.slice D la ca, .slice S lb cb]).run P w = .ok (.bool false) w := by
    have hu := isSlice_und ht
    have hchg : (Extern.SlicesOverlaps.overlaps #[tS, tS] #[tR] #[.slice D la ca, .slice S lb cb]) = (do
      let some t := (#[tS, tS] : Array TypeId)[0]? | stuck "slices.overlaps: no parameter types"
      let .slice elem ← underlying t | stuck "slices.overlaps: slice type expected"
      let size ← sizeOf elem
      match D, S with
      | some a, some b =>
        if la = 0 ∨ lb = 0 ∨ size = 0 then Pure.pure (Value.bool false)
        else if a.block != b.block && (← frozen a) && (← frozen b) then unsupported .addressObserved
        else do
          if a.block != b.block then do
            noView a; noView b
            if ← mayBeOne a b then return Value.bool ((← choose (.extern "sameAddr.stringBytes" 2)) == 1)
          Pure.pure (Value.bool (a.block == b.block && a.off < b.off + lb * size && b.off < a.off + la * size))
      | _, _ => Pure.pure (Value.bool false) : Sem Value) := rfl
    cases D with
    | none => rw [hchg]; cases S <;> simp [run_underlying hu, run_tSize hz]
    | some a =>
      cases S with
      | none => rw [hchg]; simp [run_underlying hu, run_tSize hz]
      | some b =>
        rcases hne with rfl | rfl | h3 | h3 | ⟨a', b', h3, h4, h5, ⟨tA, cA, hA⟩, ⟨tB, cB, hB, hB0⟩⟩
        · rw [hchg]; simp [run_underlying hu, run_tSize hz]
        · rw [hchg]; simp [run_underlying hu, run_tSize hz]
        · cases h3
        · cases h3
        · injection h3 with h3; injection h4 with h4
          subst h3; subst h4
          have hA' : w.heap[a.block]? = some (.cells cA tA (0, 0)) := hA.ext hw
          have hB' : w.heap[b.block]? = some (.cells cB tB (0, 0)) := hB.ext hw
          exact Lib.run_overlaps_apart w tS tR e hu k (fun w => run_tSize hz w) a b la ca lb cb h5 tA tB cA.size cB.size (by simp [World.shape?, hA']) (by simp [World.shape?, hB']) hB0 (by simp [World.frozen?, hA']) (by simp [World.frozen?, hA'])
  have h2 : as.map ρ = #[.slice D la ca, .slice S lb cb] := by rw [map_toArray, has]
  simp only [execOp, ho, resolve, hρ, Deferred.ofValue]
  simp [invoke, hrun, h2, h1]
end
end Go.Px
