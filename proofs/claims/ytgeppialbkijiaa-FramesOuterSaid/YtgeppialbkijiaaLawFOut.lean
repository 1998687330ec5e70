/-
  law39.FramesOuter answers true at every input and leaves its arguments as they were. (No condition but the row's own: the data are trees.)
-/
import Derived.Test.YtgeppialbkijiaaRows
import Derived.Test.YtgeppialbkijiaaFOut
import Derived.Test.YtgeppialbkijiaaArg
import Derived.ProofKit
import Derived.OpenShut
import Derived.Below
namespace Go.Proofs.Ytgeppialbkijiaa
set_option linter.unusedSimpArgs false
set_option linter.unusedVariables false
open Go.ChangeShapes Go.WideShapes Go.ChangeAt Go.RowKit

namespace LawFOut
theorem own : ownKnob Try.prog.godebug = none := by kernel_rfl
theorem laidOut : laidOutB Try.prog = true := by kernel_rfl

set_option maxRecDepth 100000 in
theorem lifted (os : Os) (started : os.Started) (H : Type) (enc : TypeId × Value → H) :
    ReturnsInHanded {} Try.checked os 5 .any (Rows.framesOuterSpec.pre6 enc Try.prog Try.f5 Rows.framesOuterRow.domain false) (Rows.framesOuterSpec.post enc Try.prog Try.f5 false true false false) := by
  refine returnsInHanded_of_change_sized (C := Try.checked) own started (by kernel_rfl) Try.func5
    (ChangeSpec.witness6 (enc := enc) (C := Try.checked) false ⟨#[], #[.int .u8 0, .int .i64 0, .agg #[.int .i64 0, .slice none 0 0, .slice none 0 0, .slice none 0 0]], []⟩ 8 (by kernel_rfl) (by kernel_rfl) (by kernel_rfl) (by kernel_rfl)) ?_
  intro W base args ds gs before hval0 hW hcnd hsized _
  have hW' := hW
  obtain ⟨p, q, hA0, hV, rfl, hfz, hnd⟩ := hW
  have hA : DataW.TrodAll enc Try.prog W 0 (fun _ => true) true Try.f5.params.toList args.toList ds p := hA0
  rw [Try.params5] at hA hsized
  obtain ⟨v0, vs0, d0, ds0, p0, q0, hargs, rfl, rfl, h0, r0⟩ := trodAll_cons hA
  obtain ⟨v1, vs1, d1, ds1, p1, q1, rfl, rfl, rfl, h1, r1⟩ := trodAll_cons r0
  obtain ⟨v2, vs2, d2, ds2, p2, q2, rfl, rfl, rfl, h2, r2⟩ := trodAll_cons r1
  obtain ⟨rfl, rfl, rfl⟩ := trodAll_nil r2
  obtain rfl : args = #[v0, v1, v2] := by cases args; simp_all
  obtain ⟨rfl, rfl⟩ := trodVars_none hV
  obtain ⟨z0, rfl, rfl, rfl, wf0⟩ := open_int Try.underlying5 (hval0 0 5 v0 (by rw [Try.params5]; rfl) rfl) h0
  have wb0 : 0 ≤ z0 ∧ z0 ≤ 255 := by
    have hw : (decide ((0 : Int) ≤ z0) && decide (z0 ≤ (255 : Int))) = true := wf0
    simpa using hw
  obtain ⟨z1, rfl, rfl, rfl, wf1⟩ := open_int Try.underlying3 (hval0 1 3 v1 (by rw [Try.params5]; rfl) rfl) h1
  have wb1 : -9223372036854775808 ≤ z1 ∧ z1 ≤ 9223372036854775807 := by
    have hw : (decide ((-9223372036854775808 : Int) ≤ z1) && decide (z1 ≤ (9223372036854775807 : Int))) = true := wf1
    simpa using hw
  have k2 := h2
  have lt2 : ∀ x ∈ p2, x.block < W.heap.size := by obtain ⟨m, hm⟩ := k2; exact DataW.trod_lt m _ _ _ hm
  obtain ⟨m2, hm2⟩ := h2
  obtain ⟨t2, c20, c21, c22, c23, e2, hx2⟩ := arr_of_trod m2 m2 _ _ (Nat.le_refl _) hm2 (fun n hn => by
    have := List.all_eq_true.1 hsized n (DataW.weights_mem_each (j := 2) rfl rfl n hn)
    simpa using this)
  obtain rfl := agg_of Try.underlying26 (hval0 2 26 v2 (by rw [Try.params5]; rfl) rfl) e2
  clear hA0 hval0
  refine (fouter_any _ t2 c20 c21 c22 c23 z0 z1 W hx2 wb0 wb1).mono fun e W' ⟨he, bel⟩ => ?_
  subst he
  exact ⟨_, rfl, _, _, _, [], _, [], hW', trodAll_mk1 (shut_bool Try.underlying4 _), (trodAll_cons_mk (shut_int Try.underlying5 wf0) (trodAll_cons_mk (shut_int Try.underlying3 wf1) (trodAll_cons_mk (Below.trod laidOut (by kernel_rfl) (of_decide_eq_true (by kernel_rfl)) k2 bel lt2) trodAll_mk0))), rfl, bel.frame _, fun h => by cases h⟩

theorem proved : Rows.FramesOuterSaid :=
  OpenClaim.holds_of_wide 5 Try.f5 rfl rfl rfl rfl rfl rfl rfl ⟨rfl, rfl, rfl, rfl, rfl⟩ rfl rfl rfl rfl rfl (by kernel_rfl) Try.func5 (by kernel_rfl)
    (of_decide_eq_true (by kernel_rfl)) (by unfold Func.isWrapper; rw [if_neg (by decide +kernel)]; exact ⟨rfl, rfl⟩)
    (fun os started H enc _ => lifted os started H enc)
end LawFOut
end Go.Proofs.Ytgeppialbkijiaa
