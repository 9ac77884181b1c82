/- 'ExtentNobody' holds: for any extent the law's function returns true; the argument reads as it did. -/
import Derived.Test.YtiahamibfpamgaaPxExW
import Derived.Test.YtiahamibfpamgaaPxRowK
import Derived.Test.YtiahamibfpamgaaRows
set_option linter.unusedSimpArgs false
namespace Go.Proofs.Ytiahamibfpamgaa.extentNobody
open Go.ChangeShapes Go.WideShapes Go.ChangeAt Go.RowKit
open Go.ChangeMaps (open_string shut_string)
set_option linter.unusedVariables false
theorem own : ownKnob Try.prog.godebug = none := by kernel_rfl
theorem laidOut : laidOutB Try.prog = true := by kernel_rfl
theorem bel_of {P : Program} {f : FuncId} {args : List Value} {v : Value} {w : World} (k : Px.FG P f args w.heap v) : Calls P f args.toArray w fun e W' => e = .returned v ∧ Below w.heap.size w W' :=
  (k.out w rfl).mono fun en w' ⟨v', h', he, hs, hx, hc, hv⟩ => by
    have hx' := hc.ext.trans hx
    exact ⟨by rw [he, hv], ⟨hs.1, hs.2.1, hs.2.2, hx'.1, hx'.2⟩⟩
theorem parse0 (cs : List Value) (hc : Px.CellsOk [.int .i64, .int .i64] cs) : ∃ x : Px.Ext_.Ex, cs = Px.Enc.enc x ∧ (fun x => True) x := by
  obtain ⟨_, _, rfl, ⟨a, rfl, _⟩, ⟨b, rfl, _⟩⟩ := Px.cells2 hc; exact ⟨⟨a, b⟩, rfl, trivial⟩
set_option maxRecDepth 100000 in
theorem lifted (os : Os) (started : os.Started) (H : Type) (enc : TypeId × Value → H) :
    ReturnsInHanded {} Try.checked os 6 .any (Rows.extentNobodySpec.pre6 enc Try.prog Try.f6 Rows.extentNobodyRow.domain false) (Rows.extentNobodySpec.post enc Try.prog Try.f6 false true false false) := by
  refine returnsInHanded_of_change_sized (C := Try.checked) own started (by kernel_rfl) Try.func6
    (ChangeSpec.witness6 (enc := enc) (C := Try.checked) false ⟨#[], #[.agg #[.int .i64 0, .int .i64 0]], []⟩ 8 (by kernel_rfl) (by kernel_rfl) (by kernel_rfl) (by kernel_rfl)) ?_
  intro W base args ds gs before hval0 hW hcnd hsz0 _
  have hsz : (DataW.weightsEach Try.prog (Try.f6.params.toList ++ Rows.extentNobodySpec.plain.varTypes Try.prog) (ds ++ gs)).all (· ≤ reachBytes) = true := hsz0
  have hval : ∀ (j : Nat) t v, Try.f6.params[j]? = some t → args[j]? = some v → Value.okWide Try.prog W .any base t v := hval0
  have hW' := hW
  obtain ⟨p, q, hA0, hV, rfl, hfz, hnd⟩ := hW
  have hA : DataW.TrodAll enc Try.prog W 0 (fun _ => true) true Try.f6.params.toList args.toList ds p := hA0
  rw [Try.params6] at hA hval hsz
  obtain ⟨v0, vs0, d0, ds0, p0, q0, hargs, rfl, rfl, h0, r0⟩ := trodAll_cons hA
  obtain ⟨rfl, rfl, rfl⟩ := trodAll_nil r0
  obtain rfl : args = #[v0] := by cases args; simp_all
  obtain ⟨rfl, rfl⟩ := trodVars_none hV
  have k0 := h0
  have lt0 : ∀ x ∈ p0, x.block < W.heap.size := by obtain ⟨m, hm⟩ := k0; exact DataW.trod_lt m _ _ _ hm
  obtain ⟨cs0, rfl, _⟩ := okWide_struct Try.underlying35 (hval 0 35 v0 rfl rfl)
  obtain ⟨x0, rfl, g0⟩ := Px.agg_of_trod (α := Px.Ext_.Ex) (fun x => True) 4 (ks := [.int .i64, .int .i64]) (by kernel_rfl) parse0 h0
  clear hA0 hval0 hsz0 hsz
  refine (bel_of (Px.Ext_.nobody_c W.heap x0)).mono fun e W' ⟨he, bel⟩ => ?_
  subst he
  exact ⟨_, rfl, _, _, _, [], _, [], hW', trodAll_mk1 (shut_bool Try.underlying4 _), (trodAll_cons_mk (Below.trod laidOut (by kernel_rfl) (of_decide_eq_true (by kernel_rfl)) k0 bel lt0) trodAll_mk0), rfl, bel.frame _, fun h => by cases h⟩
theorem over : Rows.extentNobodyRow.holds Try.pinned (OpenSpec.ofChange Rows.extentNobodySpec) :=
  OpenClaim.holds_of_wide 6 Try.f6 rfl rfl rfl rfl rfl rfl rfl ⟨rfl, rfl, rfl, rfl, rfl⟩ rfl rfl rfl rfl rfl (by kernel_rfl) Try.func6 (by kernel_rfl)
    (of_decide_eq_true (by kernel_rfl)) (by unfold Func.isWrapper; first | (rw [if_pos (by decide +kernel)]; kernel_rfl) | (rw [if_neg (by decide +kernel)]; exact ⟨rfl, rfl⟩))
    (fun os started H enc _ => lifted os started H enc)
theorem proved : Rows.ExtentNobodySaid := over
#print axioms proved
end Go.Proofs.Ytiahamibfpamgaa.extentNobody
namespace Go.Proofs.Ytiahamibfpamgaa
/-- The row, under a short name, for the claim. -/
theorem extentNobody_holds : Rows.ExtentNobodySaid := extentNobody.proved
end Go.Proofs.Ytiahamibfpamgaa
