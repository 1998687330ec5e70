/-
  law04.CellSays answers true at every input and leaves its arguments as they were. (No condition but the row's own: the data are trees.)
-/
import Derived.Test.YtmpjnjhiklaofaaRows
import Derived.Test.YtmpjnjhiklaofaaCellSays
import Derived.Test.YtmpjnjhiklaofaaArg
import Derived.ProofKit
import Derived.OpenShut
import Derived.Below
namespace Go.Proofs.Ytmpjnjhiklaofaa
set_option linter.unusedSimpArgs false
set_option linter.unusedVariables false
open Go.ChangeShapes Go.WideShapes Go.ChangeAt Go.RowKit

namespace LawCellSays
theorem own : ownKnob Try.prog.godebug = none := by kernel_rfl
theorem laidOut : laidOutB Try.prog = true := by kernel_rfl

set_option maxRecDepth 100000 in
theorem lifted (os : Os) (started : os.Started) (H : Type) (enc : TypeId × Value → H) :
    ReturnsInHanded {} Try.checked os 11 .any (Rows.cellSaysSpec.pre6 enc Try.prog Try.f11 Rows.cellSaysRow.domain false) (Rows.cellSaysSpec.post enc Try.prog Try.f11 false true false false) := by
  refine returnsInHanded_of_change_sized (C := Try.checked) own started (by kernel_rfl) Try.func11
    (ChangeSpec.witness6 (enc := enc) (C := Try.checked) false ⟨#[], #[.agg #[.int .i64 0, .slice none 0 0, .slice none 0 0, .slice none 0 0], .int .i64 0, .int .i64 0], []⟩ 8 (by kernel_rfl) (by kernel_rfl) (by kernel_rfl) (by kernel_rfl)) ?_
  intro W base args ds gs before hval0 hW hcnd hsized _
  have hW' := hW
  obtain ⟨p, q, hA0, hV, rfl, hfz, hnd⟩ := hW
  have hA : DataW.TrodAll enc Try.prog W 0 (fun _ => true) true Try.f11.params.toList args.toList ds p := hA0
  rw [Try.params11] at hA hsized
  obtain ⟨v0, vs0, d0, ds0, p0, q0, hargs, rfl, rfl, h0, r0⟩ := trodAll_cons hA
  obtain ⟨v1, vs1, d1, ds1, p1, q1, rfl, rfl, rfl, h1, r1⟩ := trodAll_cons r0
  obtain ⟨v2, vs2, d2, ds2, p2, q2, rfl, rfl, rfl, h2, r2⟩ := trodAll_cons r1
  obtain ⟨rfl, rfl, rfl⟩ := trodAll_nil r2
  obtain rfl : args = #[v0, v1, v2] := by cases args; simp_all
  obtain ⟨rfl, rfl⟩ := trodVars_none hV
  have k0 := h0
  have lt0 : ∀ x ∈ p0, x.block < W.heap.size := by obtain ⟨m, hm⟩ := k0; exact DataW.trod_lt m _ _ _ hm
  obtain ⟨m0, hm0⟩ := h0
  obtain ⟨t0, c00, c01, c02, c03, e0, hx0⟩ := arr_of_trod m0 m0 _ _ (Nat.le_refl _) hm0 (fun n hn => by
    have := List.all_eq_true.1 hsized n (DataW.weights_mem_each (j := 0) rfl rfl n hn)
    simpa using this)
  obtain rfl := agg_of Try.underlying26 (hval0 0 26 v0 (by rw [Try.params11]; rfl) rfl) e0
  obtain ⟨z1, rfl, rfl, rfl, wf1⟩ := open_int Try.underlying3 (hval0 1 3 v1 (by rw [Try.params11]; rfl) rfl) h1
  have wb1 : -9223372036854775808 ≤ z1 ∧ z1 ≤ 9223372036854775807 := by
    have hw : (decide ((-9223372036854775808 : Int) ≤ z1) && decide (z1 ≤ (9223372036854775807 : Int))) = true := wf1
    simpa using hw
  obtain ⟨z2, rfl, rfl, rfl, wf2⟩ := open_int Try.underlying3 (hval0 2 3 v2 (by rw [Try.params11]; rfl) rfl) h2
  have wb2 : -9223372036854775808 ≤ z2 ∧ z2 ≤ 9223372036854775807 := by
    have hw : (decide ((-9223372036854775808 : Int) ≤ z2) && decide (z2 ≤ (9223372036854775807 : Int))) = true := wf2
    simpa using hw
  clear hA0 hval0
  refine (cellsays_any _ t0 c00 c01 c02 c03 z1 z2 W hx0 wb1 wb2).mono fun e W' ⟨he, bel⟩ => ?_
  subst he
  exact ⟨_, rfl, _, _, _, [], _, [], hW', trodAll_mk1 (shut_bool Try.underlying4 _), (trodAll_cons_mk (Below.trod laidOut (by kernel_rfl) (of_decide_eq_true (by kernel_rfl)) k0 bel lt0) (trodAll_cons_mk (shut_int Try.underlying3 wf1) (trodAll_cons_mk (shut_int Try.underlying3 wf2) trodAll_mk0))), rfl, bel.frame _, fun h => by cases h⟩

theorem proved : Rows.CellSaysSaid :=
  OpenClaim.holds_of_wide 11 Try.f11 rfl rfl rfl rfl rfl rfl rfl ⟨rfl, rfl, rfl, rfl, rfl⟩ rfl rfl rfl rfl rfl (by kernel_rfl) Try.func11 (by kernel_rfl)
    (of_decide_eq_true (by kernel_rfl)) (by unfold Func.isWrapper; rw [if_neg (by decide +kernel)]; exact ⟨rfl, rfl⟩)
    (fun os started H enc _ => lifted os started H enc)
end LawCellSays
end Go.Proofs.Ytmpjnjhiklaofaa
