/-
  THE WALKS of count and Few (arraylanglaw04).
-/
import Derived.Test.YtgeppialbkijiaaL04
namespace Go.Proofs.Ytgeppialbkijiaa
set_option linter.unusedSimpArgs false
set_option linter.unusedVariables false
open Go.RowKit

mutual
/-- count, as the machine counts. -/
def cntV : Arr → Int
  | .mk _ _ n it => cntGo (IntKind.i64.wrap ((n.length : Int) + it.length)) it
def cntGo : Int → List Arr → Int
  | c, [] => c
  | c, x :: r => cntGo (IntKind.i64.wrap (c + cntV x)) r
end
theorem i64_wrap_bd (z : Int) : -9223372036854775808 ≤ IntKind.i64.wrap z ∧ IntKind.i64.wrap z ≤ 9223372036854775807 := by
  rw [IntWalk.i64_left]
  have := wrap64_wf z
  simp only [Lit.wf] at this
  have h : (decide ((-9223372036854775808 : Int) ≤ wrap64 z) && decide (wrap64 z ≤ (9223372036854775807 : Int))) = true := this
  simpa using h
mutual
theorem cntV_bd : ∀ (t : Arr), -9223372036854775808 ≤ cntV t ∧ cntV t ≤ 9223372036854775807
  | .mk _ _ n it => by
    rw [cntV]
    exact cntGo_bd _ it (i64_wrap_bd _)
theorem cntGo_bd : ∀ (c : Int) (l : List Arr), (-9223372036854775808 ≤ c ∧ c ≤ 9223372036854775807) → -9223372036854775808 ≤ cntGo c l ∧ cntGo c l ≤ 9223372036854775807
  | c, [], h => by rw [cntGo]; exact h
  | c, x :: r, h => by
    rw [cntGo]
    exact cntGo_bd _ r (i64_wrap_bd _)
end

set_option maxRecDepth 100000 in
set_option maxHeartbeats 2000000 in
theorem count_any (F : Nat → Prop) : ∀ (m : Nat) (t : Arr) (c0 c1 c2 c3 : Value) (w : World), SizeOf.sizeOf t < m → ArrAt F w t c0 c1 c2 c3 →
    Calls Try.prog 106 #[.agg #[c0, c1, c2, c3]] w fun e w' => e = .returned (.int .i64 (cntV t)) ∧ Ext w w' := by
  intro m
  induction m with
  | zero => intro t c0 c1 c2 c3 w hm; omega
  | succ m ih =>
    intro t c0 c1 c2 c3 w hm h
    obtain ⟨k, s, n, it⟩ := t
    unfold ArrAt at h
    obtain ⟨rfl, hk, ⟨p1, k1, rfl, ⟨o1, o1', o1''⟩, i1⟩, ⟨p2, k2, rfl, ⟨o2, o2', o2''⟩, i2⟩, ⟨p3, k3, rfl, ⟨o3, o3', o3''⟩, i3⟩⟩ := h
    have IH := Lib.hid ih
    have I3 := Lib.hid i3
    have HM := Lib.hid hm
    clear ih i1 i2 i3 hm
    generalize hans : cntV (.mk k s n it) = ans
    rw [cntV, IntWalk.i64_in _ (by omega)] at hans
    have HANS := Lib.hid hans
    clear hans
    go_enter Try.func106, Try.ntmps106
    go_wp2_with fail
    have hE0 : Ext w (w.alloc (.cells #[.int .i64 k, .slice p1 s.length k1, .slice p2 n.length k2, .slice p3 it.length k3] 26)) := (Ext.refl _).alloc _
    have hB := box_new w (.int .i64 k) (.slice p1 s.length k1) (.slice p2 n.length k2) (.slice p3 it.length k3)
    generalize w.alloc (.cells #[.int .i64 k, .slice p1 s.length k1, .slice p2 n.length k2, .slice p3 it.length k3] 26) = w1 at hE0 hB ⊢
    have HB := Lib.hid hB
    clear hB
    go_loopw [3, 4] (fun nv i wr => ∃ (j : Nat) (q : Int), j ≤ it.length ∧ i = .int .i64 j ∧ nv = .int .i64 q ∧ -9223372036854775808 ≤ q ∧ q ≤ 9223372036854775807 ∧ Ext w1 wr ∧ Hid (cntGo q (it.drop j) = ans)) (fun _ i _ => it.length - (intOf i).toNat)
    case atStart => exact ⟨0, _, Nat.zero_le _, rfl, rfl, by omega, by omega, Ext.refl _, HANS.out⟩
    case round =>
      obtain ⟨j, q, hj, rfl, rfl, hq0, hq1, hE2, HR⟩ := hrel
      clear HANS
      obtain ⟨s0, s1, s2, s3⟩ := (HB.out.ext hE2).cell
      by_cases hlt : j < it.length
      · obtain ⟨b, off, x0, x1, x2, x3, rfl, _, g0, g1, g2, g3, hx⟩ := ItemsAt.get it _ 0 j I3.out hlt
        rw [Nat.zero_add] at g0 g1 g2 g3
        have G0 := (hE0.trans hE2).cell g0
        have G1 := (hE0.trans hE2).cell g1
        have G2 := (hE0.trans hE2).cell g2
        have G3 := (hE0.trans hE2).cell g3
        have hsz : SizeOf.sizeOf it[j] < m := by
          have h1 := List.sizeOf_lt_of_mem (List.getElem_mem hlt)
          have h2 := HM.out
          simp at h2
          omega
        have HCALL := Lib.hid (fun w' e => IH.out it[j] x0 x1 x2 x3 w' hsz (hx.ext (w' := w') e))
        have HD := hid_intro (List.drop_eq_getElem_cons hlt)
        have hwb := cntV_bd it[j]
        clear g0 g1 g2 g3 hsz
        obtain ⟨y0, q1, l1, m1, q2, l2, m2, q3, l3, m3, rfl, rfl, rfl, rfl⟩ := hx.form
        clear hx
        generalize it[j] = x at *
        have HN : Hid (cntGo (IntKind.i64.wrap (q + cntV x)) (it.drop (j + 1)) = ans) := by
          have := HR.out
          rw [HD.out, cntGo] at this
          exact this
        clear HR HD
        generalize cntV x = cx at *
        have hwq := i64_wrap_bd (q + cx)
        have hspell : IntKind.i64.wrap (q + cx) = wrap64 (q + cx) := IntWalk.i64_left _
        have HSP := Lib.hid hspell
        clear hspell
        rw [HSP.out] at hwq
        go_wp2_with fail
        refine (HCALL.out _ (hE0.trans hE2)).mono ?_
        rintro e w4 ⟨rfl, hE4⟩
        go_wp2_with fail
        go_roundw
        case rel => exact ⟨j + 1, IntKind.i64.wrap (q + cx), by omega, by go_num, by first | rfl | (rw [HSP.out]), by rw [HSP.out]; omega, by rw [HSP.out]; omega, hE2.trans hE4, HN.out⟩
        case measure => simp [intOf]; omega
      · have HF : Hid (q = ans) := by
          have := HR.out
          rw [List.drop_of_length_le (by omega), cntGo] at this
          exact this
        have hE9 := hE0.trans hE2
        clear HR
        go_wp2_with fail
        go_ret
        exact ⟨ret_int HF.out, hE9⟩

def fewV (t : Arr) (n : Int) : Bool := match t with
  | .mk k s nn it => decide (s.length ≤ 20) && decide (cntV (.mk k s nn it) ≤ n)
set_option maxHeartbeats 1000000 in
theorem few_any (F : Nat → Prop) (t : Arr) (c0 c1 c2 c3 : Value) (n : Int) (w : World) (h : ArrAt F w t c0 c1 c2 c3) :
    Calls Try.prog 63 #[.agg #[c0, c1, c2, c3], .int .i64 n] w fun e w' => e = .returned (.bool (fewV t n)) ∧ Ext w w' := by
  have HC := Lib.hid (fun w' e => count_any F _ t c0 c1 c2 c3 w' (Nat.lt_succ_self _) (h.ext (w' := w') e))
  obtain ⟨k, s, nn, it⟩ := t
  unfold ArrAt at h
  obtain ⟨rfl, hk, ⟨p1, k1, rfl, ⟨o1, o1', o1''⟩, i1⟩, ⟨p2, k2, rfl, ⟨o2, o2', o2''⟩, i2⟩, ⟨p3, k3, rfl, ⟨o3, o3', o3''⟩, i3⟩⟩ := h
  clear i1 i2 i3
  unfold fewV
  dsimp only
  generalize cntV (.mk k s nn it) = cv at *
  by_cases h20 : s.length ≤ 20
  · have h1 : Hid ((decide (s.length ≤ 20) && decide (cv ≤ n)) = decide (cv ≤ n)) := by
      show _ = _
      simp [h20]
    have h20' : (s.length : Int) ≤ 20 := by omega
    rw [h1.out]
    go_enter Try.func63, Try.ntmps63
    go_wp2_with fail
    refine (HC.out _ ((Ext.refl _).alloc _)).mono ?_
    rintro e w4 ⟨rfl, hE4⟩
    go_wp2_with fail
    go_ret
    exact ⟨rfl, Ext.trans ((Ext.refl _).alloc _) hE4⟩
  · have h1 : Hid ((decide (s.length ≤ 20) && decide (cv ≤ n)) = false) := by
      show _ = _
      simp [h20]
    have h20' : ¬ (s.length : Int) ≤ 20 := by omega
    rw [h1.out]
    go_enter Try.func63, Try.ntmps63
    go_wp2_with fail
    go_ret
    exact ⟨rfl, (Ext.refl _).alloc _⟩
end Go.Proofs.Ytgeppialbkijiaa
