/- 'ExtentCopies' holds: for any extents and any number the law's function returns true; the arguments read as they did. -/
import Derived.Test.YtiahamibfpamgaaPxExV
import Derived.Test.YtiahamibfpamgaaPxRowK
import Derived.Test.YtiahamibfpamgaaRows
set_option linter.unusedSimpArgs false
namespace Go.Proofs.Ytiahamibfpamgaa.extentCopies
open Go.ChangeShapes Go.WideShapes Go.ChangeAt Go.RowKit
open Go.ChangeMaps (open_string shut_string)
set_option linter.unusedVariables false
theorem own : ownKnob Try.prog.godebug = none := by kernel_rfl
theorem laidOut : laidOutB Try.prog = true := by kernel_rfl
theorem bel_of {P : Program} {f : FuncId} {args : List Value} {v : Value} {w : World} (k : Px.FG P f args w.heap v) : Calls P f args.toArray w fun e W' => e = .returned v ∧ Below w.heap.size w W' :=
  (k.out w rfl).mono fun en w' ⟨v', h', he, hs, hx, hc, hv⟩ => by
    have hx' := hc.ext.trans hx
    exact ⟨by rw [he, hv], ⟨hs.1, hs.2.1, hs.2.2, hx'.1, hx'.2⟩⟩
theorem parse0 (cs : List Value) (hc : Px.CellsOk [.int .i64, .int .i64] cs) : ∃ x : Px.Ext_.Ex, cs = Px.Enc.enc x ∧ (fun x => True) x := by
  obtain ⟨_, _, rfl, ⟨a, rfl, _⟩, ⟨b, rfl, _⟩⟩ := Px.cells2 hc; exact ⟨⟨a, b⟩, rfl, trivial⟩
set_option maxRecDepth 100000 in
theorem lifted (os : Os) (started : os.Started) (H : Type) (enc : TypeId × Value → H) :
    ReturnsInHanded {} Try.checked os 5 .any (Rows.extentCopiesSpec.pre6 enc Try.prog Try.f5 Rows.extentCopiesRow.domain false) (Rows.extentCopiesSpec.post enc Try.prog Try.f5 false true false false) := by
  refine returnsInHanded_of_change_sized (C := Try.checked) own started (by kernel_rfl) Try.func5
    (ChangeSpec.witness6 (enc := enc) (C := Try.checked) false ⟨#[], #[.slice none 0 0, .int .i64 0], []⟩ 8 (by kernel_rfl) (by kernel_rfl) (by kernel_rfl) (by kernel_rfl)) ?_
  intro W base args ds gs before hval0 hW hcnd hsz0 _
  have hsz : (DataW.weightsEach Try.prog (Try.f5.params.toList ++ Rows.extentCopiesSpec.plain.varTypes Try.prog) (ds ++ gs)).all (· ≤ reachBytes) = true := hsz0
  have hval : ∀ (j : Nat) t v, Try.f5.params[j]? = some t → args[j]? = some v → Value.okWide Try.prog W .any base t v := hval0
  have hW' := hW
  obtain ⟨p, q, hA0, hV, rfl, hfz, hnd⟩ := hW
  have hA : DataW.TrodAll enc Try.prog W 0 (fun _ => true) true Try.f5.params.toList args.toList ds p := hA0
  rw [Try.params5] at hA hval hsz
  obtain ⟨v0, vs0, d0, ds0, p0, q0, hargs, rfl, rfl, h0, r0⟩ := trodAll_cons hA
  obtain ⟨v1, vs1, d1, ds1, p1, q1, rfl, rfl, rfl, h1, r1⟩ := trodAll_cons r0
  obtain ⟨rfl, rfl, rfl⟩ := trodAll_nil r1
  obtain rfl : args = #[v0, v1] := by cases args; simp_all
  obtain ⟨rfl, rfl⟩ := trodVars_none hV
  have k0 := h0
  have lt0 : ∀ x ∈ p0, x.block < W.heap.size := by obtain ⟨m, hm⟩ := k0; exact DataW.trod_lt m _ _ _ hm
  obtain ⟨sa0, sl0, sc0, hsv0⟩ := okWide_slice Try.underlying46 (hval 0 46 v0 rfl rfl)
  obtain ⟨A0, c0, xs0, rfl, R0, G0, L0, M0, Y0⟩ := Px.rd_of_trod (α := Px.Ext_.Ex) (fun x => True) 4 hsz (j := 0) rfl rfl Try.underlying46 (ks := [.int .i64, .int .i64]) (by kernel_rfl) (by kernel_rfl) parse0 h0 (by subst hsv0; rfl)
  have B0 : Try.prog.bytesOf 35 = 16 := by kernel_rfl
  rw [B0] at Y0
  obtain ⟨a1, rfl, rfl, rfl, w1⟩ := open_int Try.underlying3 (hval 1 3 v1 rfl rfl) h1
  have b1 := Px.i64_bd w1
  clear hA0 hval0 hsz0 hsz
  refine (bel_of (Px.Ext_.copies_c W.heap a1 A0 c0 xs0 R0 (by omega))).mono fun e W' ⟨he, bel⟩ => ?_
  subst he
  exact ⟨_, rfl, _, _, _, [], _, [], hW', trodAll_mk1 (shut_bool Try.underlying4 _), (trodAll_cons_mk (Below.trod laidOut (by kernel_rfl) (of_decide_eq_true (by kernel_rfl)) k0 bel lt0) (trodAll_cons_mk (shut_int Try.underlying3 w1) trodAll_mk0)), rfl, bel.frame _, fun h => by cases h⟩
theorem over : Rows.extentCopiesRow.holds Try.pinned (OpenSpec.ofChange Rows.extentCopiesSpec) :=
  OpenClaim.holds_of_wide 5 Try.f5 rfl rfl rfl rfl rfl rfl rfl ⟨rfl, rfl, rfl, rfl, rfl⟩ rfl rfl rfl rfl rfl (by kernel_rfl) Try.func5 (by kernel_rfl)
    (of_decide_eq_true (by kernel_rfl)) (by unfold Func.isWrapper; first | (rw [if_pos (by decide +kernel)]; kernel_rfl) | (rw [if_neg (by decide +kernel)]; exact ⟨rfl, rfl⟩))
    (fun os started H enc _ => lifted os started H enc)
theorem proved : Rows.ExtentCopiesSaid := over
#print axioms proved
end Go.Proofs.Ytiahamibfpamgaa.extentCopies
namespace Go.Proofs.Ytiahamibfpamgaa
/-- The row, under a short name, for the claim. -/
theorem extentCopies_holds : Rows.ExtentCopiesSaid := extentCopies.proved
end Go.Proofs.Ytiahamibfpamgaa
