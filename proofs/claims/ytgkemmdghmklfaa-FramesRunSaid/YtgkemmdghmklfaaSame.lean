/-
  THE WALKS of the reference's Shapes and Same.
-/
import Derived.Test.YtgkemmdghmklfaaBase
import Derived.Test.YtgkemmdghmklfaaChecked
import Derived.StillTailTactics
namespace Go.Proofs.Ytgkemmdghmklfaa
set_option linter.unusedSimpArgs false
set_option linter.unusedVariables false
open Go.RowKit

mutual
/-- Two trees are the same. -/
def sameV : Arr → Arr → Bool
  | .mk k s n it, .mk k' s' n' it' => (k == k') && (s == s') && (n == n') && sameL it it'
def sameL : List Arr → List Arr → Bool
  | [], [] => true
  | x :: r, y :: q => sameV x y && sameL r q
  | _, _ => false
end

mutual
theorem sameV_eq : ∀ (a b : Arr), sameV a b = true ↔ a = b
  | .mk k s n it, .mk k' s' n' it' => by
    rw [sameV]
    simp only [Bool.and_eq_true, beq_iff_eq, Arr.mk.injEq, sameL_eq it it', and_assoc]
theorem sameL_eq : ∀ (a b : List Arr), sameL a b = true ↔ a = b
  | [], [] => by simp [sameL]
  | x :: r, y :: q => by rw [sameL, Bool.and_eq_true, sameV_eq x y, sameL_eq r q]; simp
  | [], _ :: _ => by simp [sameL]
  | _ :: _, [] => by simp [sameL]
end

/-- From position k on two lists of one length agree. -/
theorem beq_drop {xs ys : List Int} (h : xs.length = ys.length) {k : Nat} (hk : k < xs.length) : (xs.drop k == ys.drop k) = ((xs.getD k 0 == ys.getD k 0) && (xs.drop (k + 1) == ys.drop (k + 1))) := by
  rw [drop_getD hk, drop_getD (by omega : k < ys.length)]
  simp

set_option maxHeartbeats 400000 in
theorem shapes_any (F G : Nat → Prop) (p1 p2 : Option Addr) (c1 c2 : Nat) (xs ys : List Int) (w : World) (h1 : IntsAt F w p1 xs) (h2 : IntsAt G w p2 ys) (b1 : xs.length ≤ lenMax) (_b2 : ys.length ≤ lenMax) :
    Calls Try.prog 73 #[.slice p1 xs.length c1, .slice p2 ys.length c2] w fun e w' => e = .returned (.bool (xs == ys)) ∧ Ext w w' := by
  unfold lenMax at b1 _b2
  by_cases hl : xs.length = ys.length
  · have hb : ((xs.length : Int) != ys.length) = false := by simp [hl]
    have HL := Lib.hid hl
    generalize hans : (xs == ys) = ans
    have HANS := Lib.hid hans
    clear hl hans
    go_enter Try.func73, Try.ntmps73
    go_wp2
    go_loopw [5] (fun i wr => ∃ k : Nat, k ≤ xs.length ∧ i = .int .i64 k ∧ Ext w wr ∧ Hid ((xs.drop k == ys.drop k) = ans)) (fun i _ => xs.length - (intOf i).toNat)
    case atStart => exact ⟨0, Nat.zero_le _, rfl, Ext.refl _, HANS.out⟩
    case round =>
      obtain ⟨k, hk, rfl, hE, HR⟩ := hrel
      clear HANS
      by_cases hlt : k < xs.length
      · obtain ⟨bb1, o1, rfl, hc1, _, _⟩ := (h1.ext hE).get hlt
        have hlt2 : k < ys.length := by rw [← HL.out]; exact hlt
        obtain ⟨bb2, o2, rfl, hc2, _, _⟩ := (h2.ext hE).get hlt2
        have HD := hid_intro (beq_drop HL.out hlt)
        clear h1 h2
        by_cases hx : xs.getD k 0 = ys.getD k 0
        · have hxb : (xs.getD k 0 != ys.getD k 0) = false := by simpa using hx
          have HF : Hid ((xs.drop (k + 1) == ys.drop (k + 1)) = ans) := by
            have := HR.out
            rw [HD.out, hx] at this
            show _ = ans
            simpa using this
          clear hx HD HR
          generalize xs.getD k 0 = x at *
          generalize ys.getD k 0 = y at *
          go_wp2
          go_quiet (fail)
          go_wp2
          go_roundw
          case rel => exact ⟨k + 1, by omega, by go_num, hE.drewN _, HF⟩
          case measure => simp [intOf]; omega
        · have hxb : (xs.getD k 0 != ys.getD k 0) = true := by simpa using hx
          have HF : Hid (false = ans) := by
            have := HR.out
            rw [HD.out] at this
            have h0 : (xs.getD k 0 == ys.getD k 0) = false := by simpa using hx
            rw [h0] at this
            show _ = ans
            simpa using this
          clear hx HD HR
          generalize xs.getD k 0 = x at *
          generalize ys.getD k 0 = y at *
          go_wp2
          go_quiet (fail)
          go_wp2
          go_ret
          exact ⟨ret_bool HF.out, hE.drewN _⟩
      · have HF : Hid (true = ans) := by
          have := HR.out
          rw [List.drop_of_length_le (by omega), List.drop_of_length_le (by rw [← HL.out]; omega)] at this
          exact this
        clear HR h1 h2
        go_wp2
        go_ret
        exact ⟨ret_bool HF.out, hE⟩
  · have hb : ((xs.length : Int) != ys.length) = true := by simp; omega
    have HF : Hid (false = (xs == ys)) := by
      show false = _
      rw [Bool.eq_iff_iff]
      simp only [Bool.false_eq_true, beq_iff_eq, false_iff]
      intro h; exact hl (by rw [h])
    clear hl h1 h2
    go_enter Try.func73, Try.ntmps73
    go_wp2
    go_ret
    exact ⟨ret_bool HF.out, Ext.refl _⟩


theorem sameL_drop {xs ys : List Arr} (h : xs.length = ys.length) {k : Nat} (hk : k < xs.length) : sameL (xs.drop k) (ys.drop k) = (sameV (xs[k]'hk) (ys[k]'(by omega)) && sameL (xs.drop (k + 1)) (ys.drop (k + 1))) := by
  rw [List.drop_eq_getElem_cons hk, List.drop_eq_getElem_cons (by omega : k < ys.length), sameL]

theorem sameL_len : ∀ (a b : List Arr), a.length ≠ b.length → sameL a b = false
  | [], [], h => by simp at h
  | x :: r, y :: q, h => by rw [sameL, sameL_len r q (by simpa using h), Bool.and_false]
  | [], _ :: _, _ => by simp [sameL]
  | _ :: _, [], _ => by simp [sameL]

set_option maxRecDepth 100000 in
set_option maxHeartbeats 2000000 in
theorem same_any (F G : Nat → Prop) : ∀ (m : Nat) (t u : Arr) (c0 c1 c2 c3 d0 d1 d2 d3 : Value) (w : World), SizeOf.sizeOf t < m → ArrAt F w t c0 c1 c2 c3 → ArrAt G w u d0 d1 d2 d3 →
    Calls Try.prog 25 #[.agg #[c0, c1, c2, c3], .agg #[d0, d1, d2, d3]] w fun e w' => e = .returned (.bool (sameV t u)) ∧ Ext w w' := by
  intro m
  induction m with
  | zero => intro t u c0 c1 c2 c3 d0 d1 d2 d3 w hm; omega
  | succ m ih =>
    intro t u c0 c1 c2 c3 d0 d1 d2 d3 w hm h hu
    have IH := Lib.hid ih
    clear ih
    obtain ⟨k, s, n, it⟩ := t
    obtain ⟨k', s', n', it'⟩ := u
    unfold ArrAt at h hu
    obtain ⟨rfl, hk, ⟨p1, k1, rfl, ⟨o1, o1', o1''⟩, i1⟩, ⟨p2, k2, rfl, ⟨o2, o2', o2''⟩, i2⟩, ⟨p3, k3, rfl, ⟨o3, o3', o3''⟩, i3⟩⟩ := h
    obtain ⟨rfl, hk', ⟨q1, m1, rfl, ⟨r1, r1', r1''⟩, j1⟩, ⟨q2, m2, rfl, ⟨r2, r2', r2''⟩, j2⟩, ⟨q3, m3, rfl, ⟨r3, r3', r3''⟩, j3⟩⟩ := hu
    have hb1 : s.length ≤ lenMax := by unfold lenMax; omega
    have hb2 : n.length ≤ lenMax := by unfold lenMax; omega
    have hb1' : s'.length ≤ lenMax := by unfold lenMax; omega
    have hb2' : n'.length ≤ lenMax := by unfold lenMax; omega
    generalize hans : sameV (.mk k s n it) (.mk k' s' n' it') = ans
    rw [sameV] at hans
    by_cases e0 : k = k'
    case neg =>
      have HF : Hid (false = ans) := by
        show false = ans
        rw [← hans]; simp [e0]
      have e0' : (k != k') = true := by simpa using e0
      clear hans i1 i2 i3 j1 j2 j3 IH e0
      go_enter Try.func25, Try.ntmps25
      go_wp2_with fail
      go_ret
      exact ⟨ret_bool HF.out, (by repeat (first | exact Ext.refl _ | apply Ext.drewN | apply Ext.alloc | apply Ext.drew))⟩
    subst e0
    cases e1 : (s == s') with
    | false =>
      have HF : Hid (false = ans) := by
        show false = ans
        rw [← hans, e1]; simp
      have E1 := Lib.hid e1
      clear hans i2 i3 j2 j3 IH e1
      go_enter Try.func25, Try.ntmps25
      go_wp2_with fail
      refine (shapes_any F G p1 q1 k1 m1 s s' _ (i1.ext ?_) (j1.ext ?_) hb1 hb1').mono ?_
      · exact (by repeat (first | exact Ext.refl _ | apply Ext.drewN | apply Ext.alloc | apply Ext.drew))
      · exact (by repeat (first | exact Ext.refl _ | apply Ext.drewN | apply Ext.alloc | apply Ext.drew))
      rintro e w1 ⟨rfl, hE⟩
      have hE2 : Ext w w1 := Ext.trans (by repeat (first | exact Ext.refl _ | apply Ext.drewN | apply Ext.alloc | apply Ext.drew)) hE
      rw [E1.out]
      clear hE
      go_wp2_with fail
      go_ret
      exact ⟨ret_bool HF.out, hE2⟩
    | true =>
      have E1 := Lib.hid e1
      cases e2 : (n == n') with
      | false =>
        have HF : Hid (false = ans) := by
          show false = ans
          rw [← hans, e2]; simp
        have E2 := Lib.hid e2
        clear hans i3 j3 IH e1 e2
        go_enter Try.func25, Try.ntmps25
        go_wp2_with fail
        refine (shapes_any F G p1 q1 k1 m1 s s' _ (i1.ext ?_) (j1.ext ?_) hb1 hb1').mono ?_
        · exact (by repeat (first | exact Ext.refl _ | apply Ext.drewN | apply Ext.alloc | apply Ext.drew))
        · exact (by repeat (first | exact Ext.refl _ | apply Ext.drewN | apply Ext.alloc | apply Ext.drew))
        rintro e w1 ⟨rfl, hE⟩
        have hE2 : Ext w w1 := Ext.trans (by repeat (first | exact Ext.refl _ | apply Ext.drewN | apply Ext.alloc | apply Ext.drew)) hE
        rw [E1.out]
        have ha2 : w1.cell? ⟨w.heap.size, 2, none⟩ = some (.slice p2 n.length k2) := hE.cell (by simp)
        have hc2 : w1.cell? ⟨w.heap.size + 1, 2, none⟩ = some (.slice q2 n'.length m2) := hE.cell (by simp)
        clear hE
        go_wp2_with fail
        refine (shapes_any F G p2 q2 k2 m2 n n' _ (i2.ext hE2) (j2.ext hE2) hb2 hb2').mono ?_
        rintro e w2 ⟨rfl, hE⟩
        have hE3 : Ext w w2 := Ext.trans hE2 hE
        rw [E2.out]
        clear hE
        go_wp2_with fail
        go_ret
        exact ⟨ret_bool HF.out, hE3⟩
      | true =>
        have E2 := Lib.hid e2
        have HANS : Hid (sameL it it' = ans) := by
          show _ = ans
          rw [← hans, e1, e2]; simp
        clear hans e1 e2
        go_enter Try.func25, Try.ntmps25
        go_wp2_with fail
        refine (shapes_any F G p1 q1 k1 m1 s s' _ (i1.ext ?_) (j1.ext ?_) hb1 hb1').mono ?_
        · exact (by repeat (first | exact Ext.refl _ | apply Ext.drewN | apply Ext.alloc | apply Ext.drew))
        · exact (by repeat (first | exact Ext.refl _ | apply Ext.drewN | apply Ext.alloc | apply Ext.drew))
        rintro e w1 ⟨rfl, hE⟩
        have hE2 : Ext w w1 := Ext.trans (by repeat (first | exact Ext.refl _ | apply Ext.drewN | apply Ext.alloc | apply Ext.drew)) hE
        rw [E1.out]
        have ha2 : w1.cell? ⟨w.heap.size, 2, none⟩ = some (.slice p2 n.length k2) := hE.cell (by simp)
        have hc2 : w1.cell? ⟨w.heap.size + 1, 2, none⟩ = some (.slice q2 n'.length m2) := hE.cell (by simp)
        have ha3 : w1.cell? ⟨w.heap.size, 3, none⟩ = some (.slice p3 it.length k3) := hE.cell (by simp)
        have hc3 : w1.cell? ⟨w.heap.size + 1, 3, none⟩ = some (.slice q3 it'.length m3) := hE.cell (by simp)
        clear hE i1 j1 E1
        go_wp2_with fail
        refine (shapes_any F G p2 q2 k2 m2 n n' _ (i2.ext hE2) (j2.ext hE2) hb2 hb2').mono ?_
        rintro e w2 ⟨rfl, hE⟩
        have hE3 : Ext w w2 := Ext.trans hE2 hE
        rw [E2.out]
        have ga := hE.cell ha3
        have gc := hE.cell hc3
        have I3 := i3.ext hE3
        have J3 := j3.ext hE3
        clear hE hE2 ha2 hc2 ha3 hc3 E2 i2 j2 i3 j3
        by_cases hl : it.length = it'.length
        case neg =>
          have hb : ((it.length : Int) != it'.length) = true := by simp; omega
          have HF : Hid (false = ans) := by
            show false = ans
            rw [← HANS.out, sameL_len _ _ hl]
          clear hl I3 J3
          go_wp2_with fail
          go_ret
          exact ⟨ret_bool HF.out, hE3⟩
        have hb : ((it.length : Int) != it'.length) = false := by simp; omega
        have HL := Lib.hid hl
        clear hl
        go_wp2_with fail
        go_loopw [5] (fun i wr => ∃ j : Nat, j ≤ it.length ∧ i = .int .i64 j ∧ Ext w2 wr ∧ Hid (sameL (it.drop j) (it'.drop j) = ans)) (fun i _ => it.length - (intOf i).toNat)
        case atStart => exact ⟨0, Nat.zero_le _, rfl, Ext.refl _, HANS.out⟩
        case round =>
          obtain ⟨j, hj, rfl, hE4, HR⟩ := hrel
          clear HANS
          have fa := hE4.cell ga
          have fc := hE4.cell gc
          clear ga gc
          by_cases hlt : j < it.length
          · have hlt2 : j < it'.length := by rw [← HL.out]; exact hlt
            have HD := hid_intro (sameL_drop HL.out hlt)
            obtain ⟨b, off, x0, x1, x2, x3, rfl, _, g0, g1, g2, g3, hx⟩ := ItemsAt.get it _ 0 j I3 hlt
            obtain ⟨b', off', y0, y1, y2, y3, rfl, _, f0, f1, f2, f3, hy⟩ := ItemsAt.get it' _ 0 j J3 hlt2
            rw [Nat.zero_add] at g0 g1 g2 g3 f0 f1 f2 f3
            have G0 := hE4.cell g0
            have G1 := hE4.cell g1
            have G2 := hE4.cell g2
            have G3 := hE4.cell g3
            have F0 := hE4.cell f0
            have F1 := hE4.cell f1
            have F2 := hE4.cell f2
            have F3 := hE4.cell f3
            have hx' := hx.ext hE4
            have hy' := hy.ext hE4
            have HSZ : Hid (SizeOf.sizeOf it[j] < m) := by
              show _ < m
              have := List.sizeOf_lt_of_mem (List.getElem_mem hlt)
              simp at hm
              omega
            clear I3 J3 g0 g1 g2 g3 f0 f1 f2 f3 hx hy
            generalize it[j] = x at *
            generalize it'[j] = y at *
            obtain ⟨z0, pp1, l1, v1, pp2, l2, v2, pp3, l3, v3, rfl, rfl, rfl, rfl⟩ := hx'.form
            obtain ⟨z0', pp1', l1', v1', pp2', l2', v2', pp3', l3', v3', rfl, rfl, rfl, rfl⟩ := hy'.form
            go_wp2_with fail
            go_still_tail 10, (by kernel_rfl)
            change wpList _ _ _ _ _ wr.drew
            go_wp2_with fail
            refine (IH.out x y _ _ _ _ _ _ _ _ _ HSZ.out (hx'.ext ?_) (hy'.ext ?_)).mono ?_
            · exact (by repeat (first | exact Ext.refl _ | apply Ext.drewN | apply Ext.alloc | apply Ext.drew))
            · exact (by repeat (first | exact Ext.refl _ | apply Ext.drewN | apply Ext.alloc | apply Ext.drew))
            rintro e w4 ⟨rfl, hE5⟩
            have hE6 : Ext w2 w4 := hE4.trans (Ext.trans (by repeat (first | exact Ext.refl _ | apply Ext.drewN | apply Ext.alloc | apply Ext.drew)) hE5)
            have hE7 : Ext w w4 := hE3.trans hE6
            clear hE5 hx' hy' G0 G1 G2 G3 F0 F1 F2 F3 IH HSZ
            cases hxy : sameV x y with
            | true =>
              have HF : Hid (sameL (it.drop (j + 1)) (it'.drop (j + 1)) = ans) := by
                have := HR.out
                rw [HD.out, hxy] at this
                show _ = ans
                simpa using this
              clear HR HD hxy
              go_wp2_with fail
              go_roundw
              case rel => exact ⟨j + 1, by omega, by go_num, hE6, HF⟩
              case measure => simp [intOf]; omega
            | false =>
              have HF : Hid (false = ans) := by
                have := HR.out
                rw [HD.out, hxy] at this
                show _ = ans
                simpa using this
              clear HR HD hxy
              go_wp2_with fail
              go_ret
              exact ⟨ret_bool HF.out, hE7⟩
          · have HF : Hid (true = ans) := by
              have := HR.out
              rw [List.drop_of_length_le (by omega), List.drop_of_length_le (by rw [← HL.out]; omega), sameL] at this
              exact this
            have hE7 : Ext w wr := hE3.trans hE4
            clear HR I3 J3 IH
            go_wp2_with fail
            go_ret
            exact ⟨ret_bool HF.out, hE7⟩
end Go.Proofs.Ytgkemmdghmklfaa
