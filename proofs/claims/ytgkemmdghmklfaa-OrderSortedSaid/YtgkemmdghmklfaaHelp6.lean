/-
  THE WALKS of law06's weigh, small, ints: weigh and small give some value, ints an array over its list.
-/
import Derived.Test.YtgkemmdghmklfaaCommon
namespace Go.Proofs.Ytgkemmdghmklfaa
set_option linter.unusedSimpArgs false
set_option linter.unusedVariables false
open Go.RowKit

def SomeInt (lo hi : Int) (w : World) (e : Ending) (w' : World) : Prop := ∃ v : Int, lo ≤ v ∧ v ≤ hi ∧ e = .returned (.int .i64 v) ∧ Ext w w'
def SomeBool (w : World) (e : Ending) (w' : World) : Prop := ∃ b : Bool, e = .returned (.bool b) ∧ Ext w w'

theorem i64_wrap_bd' (z : Int) : -9223372036854775808 ≤ IntKind.i64.wrap z ∧ IntKind.i64.wrap z ≤ 9223372036854775807 := by
  rw [IntWalk.i64_left]
  have := wrap64_wf z
  simp only [Lit.wf] at this
  have h : (decide ((-9223372036854775808 : Int) ≤ wrap64 z) && decide (wrap64 z ≤ (9223372036854775807 : Int))) = true := this
  simpa using h
theorem wrap64_bd (z : Int) : -9223372036854775808 ≤ wrap64 z ∧ wrap64 z ≤ 9223372036854775807 := by
  have := i64_wrap_bd' z
  rw [IntWalk.i64_left] at this
  exact this
theorem iteb {p : Prop} [Decidable p] {a b : Int} (_ : True) (ha : -9223372036854775808 ≤ a) (hb : -9223372036854775808 ≤ b ∧ b ≤ 9223372036854775807) : -9223372036854775808 ≤ (if p then a else b) := by split <;> omega
theorem iteb2 {p : Prop} [Decidable p] {a b : Int} (_ : True) (ha : a ≤ 9223372036854775807) (hb : -9223372036854775808 ≤ b ∧ b ≤ 9223372036854775807) : (if p then a else b) ≤ 9223372036854775807 := by split <;> omega

set_option maxRecDepth 100000 in
set_option maxHeartbeats 2000000 in
theorem weigh_any (F : Nat → Prop) : ∀ (m : Nat) (t : Arr) (c0 c1 c2 c3 : Value) (most : Int) (w : World), SizeOf.sizeOf t < m → ArrAt F w t c0 c1 c2 c3 → 0 < most → most ≤ 3000 →
    Calls Try.prog 55 #[.agg #[c0, c1, c2, c3], .int .i64 most] w (SomeInt 0 most w) := by
  intro m
  induction m with
  | zero => intro t c0 c1 c2 c3 most w hm; omega
  | succ m ih =>
    intro t c0 c1 c2 c3 most w hm h hm0 hm1
    obtain ⟨k, s, n, it⟩ := t
    unfold ArrAt at h
    obtain ⟨rfl, hk, ⟨p1, k1, rfl, ⟨o1, o1', o1''⟩, i1⟩, ⟨p2, k2, rfl, ⟨o2, o2', o2''⟩, i2⟩, ⟨p3, k3, rfl, ⟨o3, o3', o3''⟩, i3⟩⟩ := h
    have IH := Lib.hid ih
    have I3 := Lib.hid i3
    have HM := Lib.hid hm
    clear ih i1 i2 i3 hm
    go_enter Try.func55, Try.ntmps55
    go_wp2_with fail
    have hE0 : Ext w (w.alloc (.cells #[.int .i64 k, .slice p1 s.length k1, .slice p2 n.length k2, .slice p3 it.length k3] 26)) := (Ext.refl _).alloc _
    have hB := box_new w (.int .i64 k) (.slice p1 s.length k1) (.slice p2 n.length k2) (.slice p3 it.length k3)
    generalize w.alloc (.cells #[.int .i64 k, .slice p1 s.length k1, .slice p2 n.length k2, .slice p3 it.length k3] 26) = w1 at hE0 hB ⊢
    have HB := Lib.hid hB
    clear hB
    go_loopw [5, 6] (fun nv i wr => ∃ (j : Nat) (q : Int), j ≤ it.length ∧ i = .int .i64 j ∧ nv = .int .i64 q ∧ 0 ≤ q ∧ q ≤ 70368744177664 ∧ Ext w1 wr) (fun _ i _ => it.length - (intOf i).toNat)
    case atStart => exact ⟨0, 1 + (s.length : Int) + (n.length : Int), Nat.zero_le _, rfl, rfl, by omega, by omega, Ext.refl _⟩
    case round =>
      obtain ⟨j, q, hj, rfl, rfl, hq0, hq1, hE2⟩ := hrel
      obtain ⟨s0, s1, s2, s3⟩ := (HB.out.ext hE2).cell
      by_cases hlt : j < it.length
      · by_cases hqm : q < most
        · obtain ⟨b, off, x0, x1, x2, x3, rfl, _, g0, g1, g2, g3, hx⟩ := ItemsAt.get it _ 0 j I3.out hlt
          rw [Nat.zero_add] at g0 g1 g2 g3
          have G0 := (hE0.trans hE2).cell g0
          have G1 := (hE0.trans hE2).cell g1
          have G2 := (hE0.trans hE2).cell g2
          have G3 := (hE0.trans hE2).cell g3
          have hsz : SizeOf.sizeOf it[j] < m := by
            have h1 := List.sizeOf_lt_of_mem (List.getElem_mem hlt)
            have h2 := HM.out
            simp at h2
            omega
          have HCALL := Lib.hid (fun (z : Int) h0 h1 w' e => IH.out it[j] x0 x1 x2 x3 z w' hsz (hx.ext (w' := w') e) h0 h1)
          clear g0 g1 g2 g3 hsz
          obtain ⟨y0, q1, l1, m1, q2, l2, m2, q3, l3, m3, rfl, rfl, rfl, rfl⟩ := hx.form
          clear hx
          generalize it[j] = x at *
          go_wp2_with fail
          refine (HCALL.out _ (by omega) (by omega) _ (hE0.trans hE2)).mono ?_
          rintro e w4 ⟨v, hv0, hv1, rfl, hE4⟩
          go_wp2_with fail
          go_roundw
          case rel => exact ⟨j + 1, q + v, by omega, by go_num, rfl, by omega, by omega, hE2.trans hE4⟩
          case measure => simp [intOf]; omega
        · have hE9 := hE0.trans hE2
          by_cases hmq : most < q
          · go_wp2_with fail
            go_ret
            exact ⟨most, by omega, by omega, rfl, hE9⟩
          · go_wp2_with fail
            go_ret
            exact ⟨q, by omega, by omega, rfl, hE9⟩
      · have hE9 := hE0.trans hE2
        by_cases hmq : most < q
        · go_wp2_with fail
          go_ret
          exact ⟨most, by omega, by omega, rfl, hE9⟩
        · go_wp2_with fail
          go_ret
          exact ⟨q, by omega, by omega, rfl, hE9⟩

set_option maxHeartbeats 1000000 in
theorem small_any (F : Nat → Prop) (t : Arr) (c0 c1 c2 c3 : Value) (w : World) (h : ArrAt F w t c0 c1 c2 c3) :
    Calls Try.prog 50 #[.agg #[c0, c1, c2, c3]] w (SomeBool w) := by
  have HC := Lib.hid (fun w' e => weigh_any F _ t c0 c1 c2 c3 3000 w' (Nat.lt_succ_self _) (h.ext (w' := w') e) (by omega) (by omega))
  obtain ⟨k, p1, n1, k1, p2, n2, k2, p3, n3, k3, rfl, rfl, rfl, rfl⟩ := h.form
  clear h
  go_enter Try.func50, Try.ntmps50
  go_wp2_with fail
  refine (HC.out _ ((Ext.refl _).alloc _)).mono ?_
  rintro e w4 ⟨v, hv0, hv1, rfl, hE4⟩
  have hE9 := ((Ext.refl w).alloc (.cells #[.int .i64 k, .slice p1 n1 k1, .slice p2 n2 k2, .slice p3 n3 k3] 26)).trans hE4
  go_wp2_with fail
  go_ret
  exact ⟨decide (v < 3000), rfl, hE9⟩

set_option maxRecDepth 100000 in
set_option maxHeartbeats 1000000 in
theorem o6ints_any (F : Nat → Prop) (p : Option Addr) (c : Nat) (l : List Int) (w : World) (h : IntsAt F w p l) (hk : SlOk l.length c) :
    Calls Try.prog 99 #[.slice p l.length c] w fun e w' =>
      ∃ e0 e1 e2 e3, e = .returned (.agg #[e0, e1, e2, e3]) ∧ ArrAt (fun b => w.heap.size ≤ b ∨ F b) w' (.mk 1 [(l.length : Int)] l []) e0 e1 e2 e3 ∧ Ext w w' := by
  have HL := Lib.hid h
  have hk' := hk
  obtain ⟨o1, o2, o3⟩ := hk'
  have HK := Lib.hid hk
  clear h hk
  go_enter Try.func99, Try.ntmps99
  go_wp2_with fail
  have hE : Ext w ((w.alloc (.cells #[.int .i64 1, .slice (some ⟨w.heap.size + 1, 0, none⟩) 1 1, .slice p l.length c, .slice none 0 0] 26)).alloc (.cells #[.int .i64 l.length] 3)) := ((Ext.refl _).alloc _).alloc _
  have hB := (box_new w (.int .i64 1) (.slice (some ⟨w.heap.size + 1, 0, none⟩) 1 1) (.slice p l.length c) (.slice none 0 0)).ext ((Ext.refl _).alloc (.cells #[.int .i64 l.length] 3))
  have hI := rowI_new (w.alloc (.cells #[.int .i64 1, .slice (some ⟨w.heap.size + 1, 0, none⟩) 1 1, .slice p l.length c, .slice none 0 0] 26)) [(l.length : Int)]
  rw [World.size_alloc] at hI
  change RowI ((w.alloc (.cells #[.int .i64 1, .slice (some ⟨w.heap.size + 1, 0, none⟩) 1 1, .slice p l.length c, .slice none 0 0] 26)).alloc (.cells #[.int .i64 l.length] 3)) _ _ at hI
  generalize (w.alloc (.cells #[.int .i64 1, .slice (some ⟨w.heap.size + 1, 0, none⟩) 1 1, .slice p l.length c, .slice none 0 0] 26)).alloc (.cells #[.int .i64 l.length] 3) = w1 at *
  obtain ⟨t0, t1, t2, t3⟩ := hB.cell
  have hA : ArrAt (fun b => w.heap.size ≤ b ∨ F b) w1 (.mk 1 [(l.length : Int)] l []) (.int .i64 1) (.slice (some ⟨w.heap.size + 1, 0, none⟩) 1 1) (.slice p l.length c) (.slice none 0 0) := by
    unfold ArrAt
    refine ⟨rfl, by omega, ⟨_, _, rfl, ⟨by simp, by simp, by simp⟩, (hI.ints ?_).mono fun b hb _ => ⟨.inl (by omega), rfl⟩⟩, ⟨_, _, rfl, HK.out, (HL.out.ext hE).mono fun b hb _ => ⟨.inr hb, rfl⟩⟩, ⟨none, 0, rfl, ⟨by simp, by simp, by simp⟩, by unfold ItemsAt; trivial⟩⟩
    intro x hx
    rw [List.mem_singleton] at hx
    subst hx
    omega
  refine bodyPost_ret (v := .agg #[.int .i64 1, .slice (some ⟨w.heap.size + 1, 0, none⟩) 1 1, .slice p l.length c, .slice none 0 0]) ?_ rfl ⟨_, _, _, _, rfl, hA, hE⟩
  simp [results, Try.results99, go_sem, t0, t1, t2, t3]

end Go.Proofs.Ytgkemmdghmklfaa
