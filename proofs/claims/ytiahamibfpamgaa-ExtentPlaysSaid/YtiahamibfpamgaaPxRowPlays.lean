/- 'ExtentPlays' holds: for any number of blocks and any calls the law's function returns true; the arguments read as they did. -/
import Derived.Test.YtiahamibfpamgaaPxExU
import Derived.Test.YtiahamibfpamgaaPxRowK
import Derived.Test.YtiahamibfpamgaaRows
set_option linter.unusedSimpArgs false
namespace Go.Proofs.Ytiahamibfpamgaa.extentPlays
open Go.ChangeShapes Go.WideShapes Go.ChangeAt Go.RowKit
open Go.ChangeMaps (open_string shut_string)
set_option linter.unusedVariables false
theorem own : ownKnob Try.prog.godebug = none := by kernel_rfl
theorem laidOut : laidOutB Try.prog = true := by kernel_rfl
theorem bel_of {P : Program} {f : FuncId} {args : List Value} {v : Value} {w : World} (k : Px.FG P f args w.heap v) : Calls P f args.toArray w fun e W' => e = .returned v ∧ Below w.heap.size w W' :=
  (k.out w rfl).mono fun en w' ⟨v', h', he, hs, hx, hc, hv⟩ => by
    have hx' := hc.ext.trans hx
    exact ⟨by rw [he, hv], ⟨hs.1, hs.2.1, hs.2.2, hx'.1, hx'.2⟩⟩
theorem parse1 (cs : List Value) (hc : Px.CellsOk [.int .i64, .int .i64, .int .i64] cs) : ∃ x : Px.Ext_.Act, cs = Px.Enc.enc x ∧ (fun x => True) x := by
  obtain ⟨_, _, _, rfl, ⟨a, rfl, _⟩, ⟨b, rfl, _⟩, ⟨c, rfl, _⟩⟩ := Px.cells3 hc; exact ⟨⟨a, ⟨b, c⟩⟩, rfl, trivial⟩
set_option maxRecDepth 100000 in
theorem lifted (os : Os) (started : os.Started) (H : Type) (enc : TypeId × Value → H) :
    ReturnsInHanded {} Try.checked os 4 .any (Rows.extentPlaysSpec.pre6 enc Try.prog Try.f4 Rows.extentPlaysRow.domain false) (Rows.extentPlaysSpec.post enc Try.prog Try.f4 false true false false) := by
  refine returnsInHanded_of_change_sized (C := Try.checked) own started (by kernel_rfl) Try.func4
    (ChangeSpec.witness6 (enc := enc) (C := Try.checked) false ⟨#[], #[.int .i64 0, .slice none 0 0], []⟩ 8 (by kernel_rfl) (by kernel_rfl) (by kernel_rfl) (by kernel_rfl)) ?_
  intro W base args ds gs before hval0 hW hcnd hsz0 _
  have hsz : (DataW.weightsEach Try.prog (Try.f4.params.toList ++ Rows.extentPlaysSpec.plain.varTypes Try.prog) (ds ++ gs)).all (· ≤ reachBytes) = true := hsz0
  have hval : ∀ (j : Nat) t v, Try.f4.params[j]? = some t → args[j]? = some v → Value.okWide Try.prog W .any base t v := hval0
  have hW' := hW
  obtain ⟨p, q, hA0, hV, rfl, hfz, hnd⟩ := hW
  have hA : DataW.TrodAll enc Try.prog W 0 (fun _ => true) true Try.f4.params.toList args.toList ds p := hA0
  rw [Try.params4] at hA hval hsz
  obtain ⟨v0, vs0, d0, ds0, p0, q0, hargs, rfl, rfl, h0, r0⟩ := trodAll_cons hA
  obtain ⟨v1, vs1, d1, ds1, p1, q1, rfl, rfl, rfl, h1, r1⟩ := trodAll_cons r0
  obtain ⟨rfl, rfl, rfl⟩ := trodAll_nil r1
  obtain rfl : args = #[v0, v1] := by cases args; simp_all
  obtain ⟨rfl, rfl⟩ := trodVars_none hV
  obtain ⟨a0, rfl, rfl, rfl, w0⟩ := open_int Try.underlying3 (hval 0 3 v0 rfl rfl) h0
  have b0 := Px.i64_bd w0
  have k1 := h1
  have lt1 : ∀ x ∈ p1, x.block < W.heap.size := by obtain ⟨m, hm⟩ := k1; exact DataW.trod_lt m _ _ _ hm
  obtain ⟨sa1, sl1, sc1, hsv1⟩ := okWide_slice Try.underlying25 (hval 1 25 v1 rfl rfl)
  obtain ⟨A1, c1, xs1, rfl, R1, G1, L1, M1, Y1⟩ := Px.rd_of_trod (α := Px.Ext_.Act) (fun x => True) 4 hsz (j := 1) rfl rfl Try.underlying25 (ks := [.int .i64, .int .i64, .int .i64]) (by kernel_rfl) (by kernel_rfl) parse1 h1 (by subst hsv1; rfl)
  have B1 : Try.prog.bytesOf 37 = 24 := by kernel_rfl
  rw [B1] at Y1
  clear hA0 hval0 hsz0 hsz
  refine (bel_of (Px.Ext_.plays_c W.heap a0 A1 c1 xs1 R1 (by omega) b0)).mono fun e W' ⟨he, bel⟩ => ?_
  subst he
  exact ⟨_, rfl, _, _, _, [], _, [], hW', trodAll_mk1 (shut_bool Try.underlying4 _), (trodAll_cons_mk (shut_int Try.underlying3 w0) (trodAll_cons_mk (Below.trod laidOut (by kernel_rfl) (of_decide_eq_true (by kernel_rfl)) k1 bel lt1) trodAll_mk0)), rfl, bel.frame _, fun h => by cases h⟩
theorem over : Rows.extentPlaysRow.holds Try.pinned (OpenSpec.ofChange Rows.extentPlaysSpec) :=
  OpenClaim.holds_of_wide 4 Try.f4 rfl rfl rfl rfl rfl rfl rfl ⟨rfl, rfl, rfl, rfl, rfl⟩ rfl rfl rfl rfl rfl (by kernel_rfl) Try.func4 (by kernel_rfl)
    (of_decide_eq_true (by kernel_rfl)) (by unfold Func.isWrapper; first | (rw [if_pos (by decide +kernel)]; kernel_rfl) | (rw [if_neg (by decide +kernel)]; exact ⟨rfl, rfl⟩))
    (fun os started H enc _ => lifted os started H enc)
theorem proved : Rows.ExtentPlaysSaid := over
#print axioms proved
end Go.Proofs.Ytiahamibfpamgaa.extentPlays
namespace Go.Proofs.Ytiahamibfpamgaa
/-- The row, under a short name, for the claim. -/
theorem extentPlays_holds : Rows.ExtentPlaysSaid := extentPlays.proved
end Go.Proofs.Ytiahamibfpamgaa
