/-
  THE WALKS of the reference's package 03: product, Dims, Count, Number, Rune, Size, Weight, check, Right.
-/
import Derived.Test.YtgkemmdghmklfaaR02a
import Derived.Test.YtgkemmdghmklfaaVisit
import Derived.Test.YtgkemmdghmklfaaRegX
import Derived.Test.YtgkemmdghmklfaaInv
namespace Go.Proofs.Ytgkemmdghmklfaa
set_option linter.unusedSimpArgs false
set_option linter.unusedVariables false
open Go.RowKit

/-- The product of the dimensions other than 0, cut. -/
def rprod : Int → List Int → Int
  | n, [] => n
  | n, d :: r => if 65536 < d then 65537 else if 0 < d then (if 65536 < n * d then 65537 else rprod (n * d) r) else rprod n r

theorem rprod_bd : ∀ (s : List Int) (n : Int), 0 ≤ n → n ≤ 65536 → 0 ≤ rprod n s ∧ rprod n s ≤ 65537
  | [], n, h0, h1 => by rw [rprod]; omega
  | d :: r, n, h0, h1 => by
    rw [rprod]
    split
    · omega
    · split
      · split
        · omega
        · exact rprod_bd r _ (Int.mul_nonneg h0 (by omega)) (by omega)
      · exact rprod_bd r n h0 h1

set_option maxHeartbeats 400000 in
theorem r3product_any (F : Nat → Prop) (p : Option Addr) (c : Nat) (s : List Int) (w : World) (h : IntsAt F w p s) (hn : s.length ≤ lenMax) :
    Calls Try.prog 152 #[.slice p s.length c] w fun e w' => e = .returned (.int .i64 (rprod 1 s)) ∧ w = w' := by
  unfold lenMax at hn
  generalize hans : rprod 1 s = ans
  have HANS := Lib.hid hans
  clear hans
  go_enter Try.func152, Try.ntmps152
  go_wp2
  go_loop [3, 4] (fun m i => ∃ (k : Nat) (q : Int), k ≤ s.length ∧ i = .int .i64 k ∧ m = .int .i64 q ∧ 0 ≤ q ∧ q ≤ 65536 ∧ Hid (rprod q (s.drop k) = ans)) (fun _ i => s.length - (intOf i).toNat)
  case atStart => exact ⟨0, 1, Nat.zero_le _, rfl, rfl, by omega, by omega, HANS.out⟩
  case round =>
    obtain ⟨k, q, hk, rfl, rfl, hq0, hq1, HR⟩ := hrel
    clear HANS
    by_cases hlt : k < s.length
    · obtain ⟨b, off, rfl, hc, _, _⟩ := h.get hlt
      have HD := hid_intro (drop_getD hlt)
      clear h
      generalize s.getD k 0 = d at *
      have hm : 0 ≤ d → d ≤ 65536 → 0 ≤ q * d ∧ q * d ≤ 4294967296 := fun a b => ⟨Int.mul_nonneg hq0 a, by
        have := Int.mul_le_mul hq1 b a (by omega)
        omega⟩
      by_cases h1 : 65536 < d
      · have HF : Hid (65537 = ans) := by
          have := HR.out
          rw [HD.out, rprod, if_pos h1] at this
          exact this
        clear hm HR HD
        go_wp2
        go_ret
        exact ⟨ret_int HF.out, rfl⟩
      · by_cases h2 : 0 < d
        · obtain ⟨hm0, hm1⟩ := hm (by omega) (by omega)
          by_cases h3 : 65536 < q * d
          · have HF : Hid (65537 = ans) := by
              have := HR.out
              rw [HD.out, rprod, if_neg h1, if_pos h2, if_pos h3] at this
              exact this
            clear hm HR HD
            go_wp2
            go_ret
            exact ⟨ret_int HF.out, rfl⟩
          · have HF : Hid (rprod (q * d) (s.drop (k + 1)) = ans) := by
              have := HR.out
              rw [HD.out, rprod, if_neg h1, if_pos h2, if_neg h3] at this
              exact this
            clear hm HR HD
            go_wp2
            go_round
            case rel => exact ⟨k + 1, q * d, by omega, by go_num, rfl, hm0, by omega, HF⟩
            case measure => simp [intOf]; omega
        · have HF : Hid (rprod q (s.drop (k + 1)) = ans) := by
            have := HR.out
            rw [HD.out, rprod, if_neg h1, if_neg h2] at this
            exact this
          clear hm HR HD
          go_wp2
          go_round
          case rel => exact ⟨k + 1, q, by omega, by go_num, rfl, hq0, hq1, HF⟩
          case measure => simp [intOf]; omega
    · have HF : Hid (q = ans) := by
        have := HR.out
        rw [List.drop_of_length_le (by omega), rprod] at this
        exact this
      clear HR
      go_wp2
      go_ret
      exact ⟨ret_int HF.out, rfl⟩

/-- Dims, Count. -/
def dimsV (s : List Int) : Int := if 8 < s.length then 15 else if s.any isNeg = true then 16 else if 65536 < rprod 1 s then 21 else 0
def countV (s : List Int) : Int := if s.any (fun d => d == 0) = true then 0 else rprod 1 s

set_option maxHeartbeats 400000 in
theorem r3dims_any (F : Nat → Prop) (p : Option Addr) (c : Nat) (s : List Int) (w : World) (h : IntsAt F w p s) (hn : s.length ≤ lenMax) :
    Calls Try.prog 118 #[.slice p s.length c] w fun e w' => e = .returned (.int .i64 (dimsV s)) ∧ w = w' := by
  by_cases h8 : 8 < s.length
  · have hR : dimsV s = 15 := by rw [dimsV, if_pos h8]
    rw [hR]
    unfold lenMax at hn
    go_enter Try.func118, Try.ntmps118
    go_wp2
    go_ret
    exact ⟨rfl, rfl⟩
  · generalize hans : dimsV s = ans
    rw [dimsV, if_neg h8] at hans
    have HANS := Lib.hid hans
    have HPR := Lib.hid (r3product_any F p c s w h hn)
    have hbd := rprod_bd s 1 (by omega) (by omega)
    generalize rprod 1 s = pr at *
    clear hans
    unfold lenMax at hn
    go_enter Try.func118, Try.ntmps118
    go_wp2
    go_loop [3] (fun i => ∃ (k : Nat), k ≤ s.length ∧ i = .int .i64 k ∧ Hid ((if (s.drop k).any isNeg = true then 16 else if 65536 < pr then 21 else 0) = ans)) (fun i => s.length - (intOf i).toNat)
    case atStart => exact ⟨0, Nat.zero_le _, rfl, HANS.out⟩
    case round =>
      obtain ⟨k, hk, rfl, HR⟩ := hrel
      clear HANS
      by_cases hlt : k < s.length
      · obtain ⟨b, off, rfl, hc, _, _⟩ := h.get hlt
        have HD := hid_intro (drop_getD hlt)
        clear h
        generalize s.getD k 0 = d at *
        by_cases h1 : d < 0
        · have HF : Hid (16 = ans) := by
            have := HR.out
            rw [HD.out, List.any_cons, if_pos (by simp [isNeg, h1])] at this
            exact this
          clear HR HD
          go_wp2_with fail
          go_ret
          exact ⟨ret_int HF.out, rfl⟩
        · have HF : Hid ((if (s.drop (k + 1)).any isNeg = true then 16 else if 65536 < pr then 21 else 0) = ans) := by
            have := HR.out
            rw [HD.out, List.any_cons, show isNeg d = false by simp [isNeg]; omega, Bool.false_or] at this
            exact this
          clear HR HD
          go_wp2_with fail
          go_round
          case rel => exact ⟨k + 1, by omega, by go_num, HF⟩
          case measure => simp [intOf]; omega
      · have HF : Hid ((if 65536 < pr then 21 else 0) = ans) := by
          have := HR.out
          rw [List.drop_of_length_le (by omega), List.any_nil, if_neg (by simp)] at this
          exact this
        clear HR
        go_wp2_with fail
        refine HPR.out.mono ?_
        rintro e w' ⟨rfl, rfl⟩
        by_cases h2 : 65536 < pr
        · have HF2 : Hid (21 = ans) := by
            have := HF.out
            rw [if_pos h2] at this
            exact this
          go_wp2_with fail
          go_ret
          exact ⟨ret_int HF2.out, rfl⟩
        · have HF2 : Hid (0 = ans) := by
            have := HF.out
            rw [if_neg h2] at this
            exact this
          go_wp2_with fail
          go_ret
          exact ⟨ret_int HF2.out, rfl⟩

set_option maxHeartbeats 400000 in
theorem r3count_any (F : Nat → Prop) (p : Option Addr) (c : Nat) (s : List Int) (w : World) (h : IntsAt F w p s) (hn : s.length ≤ lenMax) :
    Calls Try.prog 120 #[.slice p s.length c] w fun e w' => e = .returned (.int .i64 (countV s)) ∧ w = w' := by
  generalize hans : countV s = ans
  rw [countV] at hans
  have HANS := Lib.hid hans
  have HPR := Lib.hid (r3product_any F p c s w h hn)
  generalize rprod 1 s = pr at *
  clear hans
  unfold lenMax at hn
  go_enter Try.func120, Try.ntmps120
  go_wp2
  go_loop [3] (fun i => ∃ (k : Nat), k ≤ s.length ∧ i = .int .i64 k ∧ Hid ((if (s.drop k).any (fun d => d == 0) = true then 0 else pr) = ans)) (fun i => s.length - (intOf i).toNat)
  case atStart => exact ⟨0, Nat.zero_le _, rfl, HANS.out⟩
  case round =>
    obtain ⟨k, hk, rfl, HR⟩ := hrel
    clear HANS
    by_cases hlt : k < s.length
    · obtain ⟨b, off, rfl, hc, _, _⟩ := h.get hlt
      have HD := hid_intro (drop_getD hlt)
      clear h
      generalize s.getD k 0 = d at *
      by_cases h1 : d = 0
      · have HF : Hid (0 = ans) := by
          have := HR.out
          rw [HD.out, List.any_cons, if_pos (by simp [h1])] at this
          exact this
        subst h1
        clear HR HD
        go_wp2_with fail
        go_ret
        exact ⟨ret_int HF.out, rfl⟩
      · have h1' : (d == 0) = false := by simpa using h1
        have HF : Hid ((if (s.drop (k + 1)).any (fun d => d == 0) = true then 0 else pr) = ans) := by
          have := HR.out
          rw [HD.out, List.any_cons, h1', Bool.false_or] at this
          exact this
        clear HR HD h1
        go_wp2_with fail
        go_round
        case rel => exact ⟨k + 1, by omega, by go_num, HF⟩
        case measure => simp [intOf]; omega
    · have HF : Hid (pr = ans) := by
        have := HR.out
        rw [List.drop_of_length_le (by omega), List.any_nil, if_neg (by simp)] at this
        exact this
      clear HR
      go_wp2_with fail
      refine HPR.out.mono ?_
      rintro e w' ⟨rfl, rfl⟩
      go_wp2_with fail
      go_ret
      exact ⟨ret_int HF.out, rfl⟩

theorem r3number_any (n : Int) (w : World) : Calls Try.prog 121 #[.int .i64 n] w fun e w' => e = .returned (.bool (isNum n)) ∧ w = w' := by
  rcases (show n < -4611686018427387903 ∨ 4611686018427387903 < n ∨ (-4611686018427387903 ≤ n ∧ n ≤ 4611686018427387903) from by omega) with h | h | ⟨h, h'⟩
  all_goals
    go_enter Try.func121, Try.ntmps121
    go_wp2
    go_ret
    exact ⟨ret_bool (by unfold isNum; simp; omega), rfl⟩

theorem r3rune_any (n : Int) (w : World) : Calls Try.prog 122 #[.int .i64 n] w fun e w' => e = .returned (.bool (isChr n)) ∧ w = w' := by
  rcases (show n < 0 ∨ 1114111 < n ∨ (0 ≤ n ∧ n < 55296) ∨ (55296 ≤ n ∧ n ≤ 57343) ∨ (57343 < n ∧ n ≤ 1114111) from by omega) with h | h | ⟨h, h'⟩ | ⟨h, h'⟩ | ⟨h, h'⟩
  all_goals
    go_enter Try.func122, Try.ntmps122
    go_wp2
    go_ret
    exact ⟨ret_bool (by unfold isChr; simp; omega), rfl⟩

/-- Size. -/
def sizeV : Arr → Int
  | .mk k _ n it => if k = 1 ∨ k = 2 then n.length else if k = 3 then it.length else 0
theorem r3size_any (F : Nat → Prop) (t : Arr) (c0 c1 c2 c3 : Value) (w : World) (h : ArrAt F w t c0 c1 c2 c3) :
    Calls Try.prog 119 #[.agg #[c0, c1, c2, c3]] w fun e w' => e = .returned (.int .i64 (sizeV t)) ∧ Ext w w' := by
  obtain ⟨k, s, n, it⟩ := t
  unfold ArrAt at h
  obtain ⟨rfl, hk, ⟨p1, k1, rfl, ⟨o1, o1', o1''⟩, i1⟩, ⟨p2, k2, rfl, ⟨o2, o2', o2''⟩, i2⟩, ⟨p3, k3, rfl, ⟨o3, o3', o3''⟩, i3⟩⟩ := h
  clear i1 i2 i3
  rcases (show k = 1 ∨ k = 2 ∨ k = 3 ∨ (k ≠ 1 ∧ k ≠ 2 ∧ k ≠ 3) from by omega) with rfl | rfl | rfl | ⟨h1, h2, h3⟩
  · go_enter Try.func119, Try.ntmps119
    go_wp2
    go_ret
    exact ⟨rfl, (Ext.refl _).alloc _⟩
  · go_enter Try.func119, Try.ntmps119
    go_wp2
    go_ret
    exact ⟨rfl, (Ext.refl _).alloc _⟩
  · go_enter Try.func119, Try.ntmps119
    go_wp2
    go_ret
    exact ⟨rfl, (Ext.refl _).alloc _⟩
  · have e1 : (k == 1) = false := by simpa using h1
    have e2 : (k == 2) = false := by simpa using h2
    have e3 : (k == 3) = false := by simpa using h3
    have hs : Hid (0 = sizeV (.mk k s n it)) := by
      show _ = _
      simp [sizeV, h1, h2, h3]
    clear h1 h2 h3
    go_enter Try.func119, Try.ntmps119
    go_wp2
    go_ret
    exact ⟨ret_int hs.out, (Ext.refl _).alloc _⟩
theorem sizeV_bd (F : Nat → Prop) (t : Arr) (c0 c1 c2 c3 : Value) (w : World) (h : ArrAt F w t c0 c1 c2 c3) : 0 ≤ sizeV t ∧ sizeV t ≤ 17592186044416 := by
  obtain ⟨k, s, n, it⟩ := t
  unfold ArrAt at h
  obtain ⟨rfl, hk, _, ⟨p2, k2, rfl, ⟨o2, o2', o2''⟩, i2⟩, ⟨p3, k3, rfl, ⟨o3, o3', o3''⟩, i3⟩⟩ := h
  rw [sizeV]
  split
  · omega
  · split <;> omega

mutual
/-- Weight. -/
def rwV : Arr → Int
  | .mk k s n it => min (if k = 3 then rwGo (sizeV (.mk k s n it)) it else sizeV (.mk k s n it)) 262145
def rwGo : Int → List Arr → Int
  | n, [] => n
  | n, x :: r => if n ≤ 262144 then rwGo (n + rwV x) r else n
end

mutual
theorem rwV_bd : ∀ (t : Arr), 0 ≤ rwV t ∧ rwV t ≤ 262145
  | .mk k s n it => by
    rw [rwV]
    have h0 : 0 ≤ sizeV (.mk k s n it) := by
      rw [sizeV]; split <;> (try split) <;> omega
    split
    · have := rwGo_bd (sizeV (.mk k s n it)) it h0
      omega
    · omega
theorem rwGo_bd : ∀ (n : Int) (l : List Arr), 0 ≤ n → 0 ≤ rwGo n l
  | n, [], h => by rw [rwGo]; exact h
  | n, x :: r, h => by
    rw [rwGo]
    have := rwV_bd x
    split
    · exact rwGo_bd _ r (by omega)
    · exact h
end

set_option maxRecDepth 100000 in
set_option maxHeartbeats 2000000 in
theorem r3weight_any (F : Nat → Prop) : ∀ (m : Nat) (t : Arr) (c0 c1 c2 c3 : Value) (w : World), SizeOf.sizeOf t < m → ArrAt F w t c0 c1 c2 c3 →
    Calls Try.prog 123 #[.agg #[c0, c1, c2, c3]] w fun e w' => e = .returned (.int .i64 (rwV t)) ∧ Ext w w' := by
  intro m
  induction m with
  | zero => intro t c0 c1 c2 c3 w hm; omega
  | succ m ih =>
    intro t c0 c1 c2 c3 w hm h
    obtain ⟨k, s, n, it⟩ := t
    have HSIZE := Lib.hid (fun w' e => r3size_any F (.mk k s n it) c0 c1 c2 c3 w' (h.ext (w' := w') e))
    have hszb := sizeV_bd F _ c0 c1 c2 c3 w h
    unfold ArrAt at h
    obtain ⟨rfl, hk, ⟨p1, k1, rfl, ⟨o1, o1', o1''⟩, i1⟩, ⟨p2, k2, rfl, ⟨o2, o2', o2''⟩, i2⟩, ⟨p3, k3, rfl, ⟨o3, o3', o3''⟩, i3⟩⟩ := h
    have IH := Lib.hid ih
    have I3 := Lib.hid i3
    have HM := Lib.hid hm
    clear ih i1 i2 i3 hm
    generalize hans : rwV (.mk k s n it) = ans
    rw [rwV] at hans
    generalize sizeV (.mk k s n it) = sz at *
    have HANS := Lib.hid hans
    clear hans
    go_enter Try.func123, Try.ntmps123
    go_wp2_with fail
    have hE0 : Ext w (w.alloc (.cells #[.int .i64 k, .slice p1 s.length k1, .slice p2 n.length k2, .slice p3 it.length k3] 26)) := (Ext.refl _).alloc _
    have hB := box_new w (.int .i64 k) (.slice p1 s.length k1) (.slice p2 n.length k2) (.slice p3 it.length k3)
    refine (HSIZE.out _ hE0).mono ?_
    rintro e w1 ⟨rfl, hE⟩
    have hB1 := hB.ext hE
    have hE1 := hE0.trans hE
    clear hB hE0 hE HSIZE
    by_cases hk3 : (k == 3) = true
    · have HANS2 : Hid (min (rwGo sz it) 262145 = ans) := by
        have := HANS.out
        rw [if_pos (by simpa using hk3)] at this
        exact this
      clear HANS
      obtain ⟨s0, s1, s2, s3⟩ := hB1.cell
      go_wp2_with fail
      go_loopw [3, 4] (fun nv i wr => ∃ (j : Nat) (q : Int), j ≤ it.length ∧ i = .int .i64 j ∧ nv = .int .i64 q ∧ 0 ≤ q ∧ q ≤ 17592187000000 ∧ Ext w1 wr ∧ Hid (min (rwGo q (it.drop j)) 262145 = ans)) (fun _ i _ => it.length - (intOf i).toNat)
      case atStart => exact ⟨0, sz, Nat.zero_le _, rfl, rfl, by omega, by omega, Ext.refl _, HANS2.out⟩
      case round =>
        obtain ⟨j, q, hj, rfl, rfl, hq0, hq1, hE2, HR⟩ := hrel
        clear HANS2 s0 s1 s2 s3
        obtain ⟨s0, s1, s2, s3⟩ := (hB1.ext hE2).cell
        by_cases hlt : j < it.length
        · by_cases hq : q ≤ 262144
          · obtain ⟨b, off, x0, x1, x2, x3, rfl, _, g0, g1, g2, g3, hx⟩ := ItemsAt.get it _ 0 j I3.out hlt
            rw [Nat.zero_add] at g0 g1 g2 g3
            have G0 := (hE1.trans hE2).cell g0
            have G1 := (hE1.trans hE2).cell g1
            have G2 := (hE1.trans hE2).cell g2
            have G3 := (hE1.trans hE2).cell g3
            have hsz : SizeOf.sizeOf it[j] < m := by
              have h1 := List.sizeOf_lt_of_mem (List.getElem_mem hlt)
              have h2 := HM.out
              simp at h2
              omega
            have HCALL := Lib.hid (fun w' e => IH.out it[j] x0 x1 x2 x3 w' hsz (hx.ext (w' := w') e))
            have HD := hid_intro (drop_getA hlt)
            have hwb := rwV_bd it[j]
            clear g0 g1 g2 g3 hsz
            obtain ⟨y0, q1, l1, m1, q2, l2, m2, q3, l3, m3, rfl, rfl, rfl, rfl⟩ := hx.form
            clear hx
            generalize it[j] = x at *
            have HN : Hid (min (rwGo (q + rwV x) (it.drop (j + 1))) 262145 = ans) := by
              have := HR.out
              rw [HD.out, rwGo, if_pos hq] at this
              exact this
            clear HR HD
            generalize rwV x = wx at *
            go_wp2_with fail
            refine (HCALL.out _ (hE1.trans hE2)).mono ?_
            rintro e w4 ⟨rfl, hE4⟩
            go_wp2_with fail
            go_roundw
            case rel => exact ⟨j + 1, q + wx, by omega, by go_num, rfl, by omega, by omega, hE2.trans hE4, HN.out⟩
            case measure => simp [intOf]; omega
          · have HF : Hid (min q 262145 = ans) := by
              have := HR.out
              rw [drop_getA hlt, rwGo, if_neg hq] at this
              exact this
            have hE9 := hE1.trans hE2
            clear HR
            go_wp2_with fail
            all_goals (go_ret; exact ⟨ret_int (by rw [← HF.out]; omega), hE9⟩)
        · have HF : Hid (min q 262145 = ans) := by
            have := HR.out
            rw [List.drop_of_length_le (by omega), rwGo] at this
            exact this
          have hE9 := hE1.trans hE2
          clear HR
          by_cases hq : q ≤ 262144
          · go_wp2_with fail
            all_goals (go_ret; exact ⟨ret_int (by rw [← HF.out]; omega), hE9⟩)
          · go_wp2_with fail
            all_goals (go_ret; exact ⟨ret_int (by rw [← HF.out]; omega), hE9⟩)
    · have hk3' := Bool.eq_false_iff.2 hk3
      have HANS2 : Hid (min sz 262145 = ans) := by
        have := HANS.out
        rw [if_neg (by simpa using hk3)] at this
        exact this
      clear HANS hk3
      obtain ⟨s0, s1, s2, s3⟩ := hB1.cell
      go_wp2_with fail
      go_loop [3, 4] (fun nv i => i = .int .i64 0 ∧ nv = .int .i64 sz) (fun _ _ => 0)
      case atStart => exact ⟨rfl, rfl⟩
      case round =>
        obtain ⟨rfl, rfl⟩ := hrel
        by_cases hlt : 0 < it.length
        · have hlt' : (0 : Int) < it.length := by omega
          by_cases hq : sz ≤ 262144
          · go_wp2_with fail
            all_goals (go_ret; exact ⟨ret_int (by rw [← HANS2.out]; omega), hE1⟩)
          · go_wp2_with fail
            all_goals (go_ret; exact ⟨ret_int (by rw [← HANS2.out]; omega), hE1⟩)
        · have hlt' : ¬ (0 : Int) < it.length := by omega
          by_cases hq : sz ≤ 262144
          · go_wp2_with fail
            all_goals (go_ret; exact ⟨ret_int (by rw [← HANS2.out]; omega), hE1⟩)
          · go_wp2_with fail
            all_goals (go_ret; exact ⟨ret_int (by rw [← HANS2.out]; omega), hE1⟩)
end Go.Proofs.Ytgkemmdghmklfaa
