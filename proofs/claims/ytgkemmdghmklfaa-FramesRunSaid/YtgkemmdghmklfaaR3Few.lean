/-
  THE WALKS of ref03.Few and ref03.Small: some number, some answer.
-/
import Derived.Test.YtgkemmdghmklfaaSame
import Derived.Test.YtgkemmdghmklfaaFrNew
namespace Go.Proofs.Ytgkemmdghmklfaa
set_option linter.unusedSimpArgs false
set_option linter.unusedVariables false
open Go.RowKit

theorem wrap_in (z : Int) : -9223372036854775808 ≤ IntKind.i64.wrap z ∧ IntKind.i64.wrap z ≤ 9223372036854775807 := by
  rw [IntWalk.i64_left]
  have := wrap64_wf z
  simp only [Lit.wf] at this
  have h : (decide ((-9223372036854775808 : Int) ≤ wrap64 z) && decide (wrap64 z ≤ (9223372036854775807 : Int))) = true := this
  simpa using h
theorem wrap_in64 (z : Int) : -9223372036854775808 ≤ wrap64 z ∧ wrap64 z ≤ 9223372036854775807 := by
  have h := wrap_in z
  rw [IntWalk.i64_left] at h
  exact h

set_option maxRecDepth 100000 in
set_option maxHeartbeats 2000000 in
theorem few3_any (F : Nat → Prop) : ∀ (m : Nat) (t : Arr) (c0 c1 c2 c3 : Value) (w : World) (n : Int), SizeOf.sizeOf t < m → -9223372036854775808 ≤ n ∧ n ≤ 9223372036854775807 → ArrAt F w t c0 c1 c2 c3 →
    Calls Try.prog 68 #[.agg #[c0, c1, c2, c3], .int .i64 n] w fun e w' => ∃ z : Int, e = .returned (.int .i64 z) ∧ (-9223372036854775808 ≤ z ∧ z ≤ 9223372036854775807) ∧ Ext w w' := by
  intro m
  induction m with
  | zero => intro t c0 c1 c2 c3 w n hm; omega
  | succ m ih =>
    intro t c0 c1 c2 c3 w n hm hn h
    obtain ⟨k, s, nn, it⟩ := t
    unfold ArrAt at h
    obtain ⟨rfl, hk, ⟨p1, k1, rfl, ⟨o1, o1', o1''⟩, i1⟩, ⟨p2, k2, rfl, ⟨o2, o2', o2''⟩, i2⟩, ⟨p3, k3, rfl, ⟨o3, o3', o3''⟩, i3⟩⟩ := h
    have IH := Lib.hid ih
    have I3 := Lib.hid i3
    have HM := Lib.hid hm
    clear ih i1 i2 i3 hm
    go_enter Try.func68, Try.ntmps68
    go_upto_region 1 with (fail)
    have hE0 : Ext w (w.alloc (.cells #[.int .i64 k, .slice p1 s.length k1, .slice p2 nn.length k2, .slice p3 it.length k3] 26)) := (Ext.refl _).alloc _
    have hB := box_new w (.int .i64 k) (.slice p1 s.length k1) (.slice p2 nn.length k2) (.slice p3 it.length k3)
    generalize w.alloc (.cells #[.int .i64 k, .slice p1 s.length k1, .slice p2 nn.length k2, .slice p3 it.length k3] 26) = w1 at hE0 hB ⊢
    have HB := Lib.hid hB
    clear hB
    go_cut [1] (fun v wx => (∃ z : Int, v = .int .i64 z ∧ -9223372036854775808 ≤ z ∧ z ≤ 9223372036854775807) ∧ wx = w1)
    case first =>
      obtain ⟨s0, s1, s2, s3⟩ := HB.out.cell
      go_wp2_with fail
      go_meet
      case rel => exact ⟨⟨_, rfl, by first | exact (wrap_in64 _).1 | exact (wrap_in _).1, by first | exact (wrap_in64 _).2 | exact (wrap_in _).2⟩, rfl⟩
    case rest =>
    obtain ⟨⟨z, rfl, hz0, hz1⟩, hwc⟩ := hcut
    subst hwc
    obtain ⟨w1, rfl⟩ : ∃ wx : World, wx = wc := ⟨_, rfl⟩
    clear hn
    go_wp2_with fail
    go_loopw [1, 5] (fun nv i wr => ∃ (j : Nat) (q : Int), j ≤ it.length ∧ i = .int .i64 j ∧ nv = .int .i64 q ∧ -9223372036854775808 ≤ q ∧ q ≤ 9223372036854775807 ∧ Ext w1 wr) (fun _ i _ => it.length - (intOf i).toNat)
    case atStart => exact ⟨0, _, Nat.zero_le _, rfl, rfl, hz0, hz1, Ext.refl _⟩
    case round =>
      obtain ⟨j, q, hj, rfl, rfl, hq0, hq1, hE2⟩ := hrel
      obtain ⟨s0, s1, s2, s3⟩ := (HB.out.ext hE2).cell
      by_cases hlt : j < it.length
      · by_cases hq : 0 ≤ q
        · obtain ⟨b, off, x0, x1, x2, x3, rfl, _, g0, g1, g2, g3, hx⟩ := ItemsAt.get it _ 0 j I3.out hlt
          rw [Nat.zero_add] at g0 g1 g2 g3
          have G0 := (hE0.trans hE2).cell g0
          have G1 := (hE0.trans hE2).cell g1
          have G2 := (hE0.trans hE2).cell g2
          have G3 := (hE0.trans hE2).cell g3
          have hsz : SizeOf.sizeOf it[j] < m := by
            have h1 := List.sizeOf_lt_of_mem (List.getElem_mem hlt)
            have h2 := HM.out
            simp at h2
            omega
          have HCALL := Lib.hid (fun w' e => IH.out it[j] x0 x1 x2 x3 w' q hsz ⟨hq0, hq1⟩ (hx.ext (w' := w') e))
          clear g0 g1 g2 g3 hsz
          obtain ⟨y0, q1, l1, m1, q2, l2, m2, q3, l3, m3, rfl, rfl, rfl, rfl⟩ := hx.form
          clear hx
          generalize it[j] = x at *
          go_wp2_with fail
          refine (HCALL.out _ (hE0.trans hE2)).mono ?_
          rintro e w4 ⟨z', rfl, hz', hE4⟩
          go_wp2_with fail
          go_roundw
          case rel => exact ⟨j + 1, z', by omega, by go_num, rfl, hz'.1, hz'.2, hE2.trans hE4⟩
          case measure => simp [intOf]; omega
        · have hE9 := hE0.trans hE2
          go_wp2_with fail
          go_ret
          exact ⟨q, rfl, ⟨hq0, hq1⟩, hE9⟩
      · have hE9 := hE0.trans hE2
        go_wp2_with fail
        go_ret
        exact ⟨q, rfl, ⟨hq0, hq1⟩, hE9⟩
set_option maxHeartbeats 1000000 in
theorem small3_any (F : Nat → Prop) (t : Arr) (c0 c1 c2 c3 : Value) (w : World) (h : ArrAt F w t c0 c1 c2 c3) :
    Calls Try.prog 17 #[.agg #[c0, c1, c2, c3]] w fun e w' => (∃ b : Bool, e = .returned (.bool b)) ∧ Ext w w' := by
  have HC := Lib.hid (fun w' e => few3_any F _ t c0 c1 c2 c3 w' 3000 (Nat.lt_succ_self _) (by decide) (h.ext (w' := w') e))
  obtain ⟨kk, p1, l1, n1, p2, l2, n2, p3, l3, n3, rfl, rfl, rfl, rfl⟩ := h.form
  clear h
  go_enter Try.func17, Try.ntmps17
  go_wp2_with fail
  refine (HC.out _ ((Ext.refl _).alloc _)).mono ?_
  rintro e w4 ⟨z, rfl, hz, hE4⟩
  have hE : Ext w w4 := ((Ext.refl _).alloc _).trans hE4
  go_wp2_with fail
  go_ret
  exact ⟨⟨_, rfl⟩, hE⟩
end Go.Proofs.Ytgkemmdghmklfaa
