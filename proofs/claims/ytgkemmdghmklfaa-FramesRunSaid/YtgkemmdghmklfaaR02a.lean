/-
  THE WALKS of the reference's package 02: Right, Product, Size.
-/
import Derived.Test.YtgkemmdghmklfaaOdo
import Derived.Test.YtgkemmdghmklfaaOwn
import Derived.StillTailTactics
namespace Go.Proofs.Ytgkemmdghmklfaa
set_option linter.unusedSimpArgs false
set_option linter.unusedVariables false
open Go.RowKit

set_option maxHeartbeats 400000 in
theorem r2right_any (F : Nat → Prop) (p : Option Addr) (c : Nat) (s : List Int) (w : World) (h : IntsAt F w p s) (hn : s.length ≤ lenMax) :
    Calls Try.prog 137 #[.slice p s.length c] w fun e w' => e = .returned (.bool (shapeRight s)) ∧ w = w' := by
  unfold lenMax at hn
  by_cases h8 : s.length ≤ 8
  · have h8' : ¬ (8 : Int) < s.length := by omega
    have hR : shapeRight s = rightGo 1 s := by simp [shapeRight, h8]
    rw [hR]
    generalize hans : rightGo 1 s = ans
    have HANS := Lib.hid hans
    clear hans hR
    go_enter Try.func137, Try.ntmps137
    go_wp2
    go_loop [3, 4] (fun m i => ∃ (k : Nat) (q : Int), k ≤ s.length ∧ i = .int .i64 k ∧ m = .int .i64 q ∧ 0 ≤ q ∧ q ≤ 65536 ∧ Hid (rightGo q (s.drop k) = ans)) (fun _ i => s.length - (intOf i).toNat)
    case atStart => exact ⟨0, 1, Nat.zero_le _, rfl, rfl, by omega, by omega, HANS.out⟩
    case round =>
      obtain ⟨k, q, hk, rfl, rfl, hq0, hq1, HR⟩ := hrel
      clear HANS
      by_cases hlt : k < s.length
      · obtain ⟨b, off, rfl, hc, _, _⟩ := h.get hlt
        have HD := hid_intro (drop_getD hlt)
        clear h
        generalize s.getD k 0 = d at *
        have hm : 0 ≤ d → d ≤ 65536 → 0 ≤ q * d ∧ q * d ≤ 4294967296 := fun a b => ⟨Int.mul_nonneg hq0 a, by
          have := Int.mul_le_mul hq1 b a (by omega)
          omega⟩
        rcases (show d < 0 ∨ 65536 < d ∨ d = 0 ∨ (0 < d ∧ d ≤ 65536) from by omega) with h1 | h1 | h1 | ⟨h1, h2⟩
        · have HF : Hid (false = ans) := by
            have := HR.out
            rw [HD.out, rightGo, if_pos (by omega)] at this
            exact this
          clear hm HR HD
          go_wp2
          go_ret
          exact ⟨ret_bool HF.out, rfl⟩
        · have HF : Hid (false = ans) := by
            have := HR.out
            rw [HD.out, rightGo, if_pos (by omega)] at this
            exact this
          clear hm HR HD
          go_wp2
          go_ret
          exact ⟨ret_bool HF.out, rfl⟩
        · subst h1
          have HF : Hid (rightGo q (s.drop (k + 1)) = ans) := by
            have := HR.out
            rw [HD.out, rightGo, if_neg (by omega), if_pos rfl] at this
            exact this
          clear hm HR HD
          go_wp2
          go_round
          case rel => exact ⟨k + 1, q, by omega, by go_num, rfl, hq0, hq1, HF⟩
          case measure => simp [intOf]; omega
        · obtain ⟨hm0, hm1⟩ := hm (by omega) h2
          by_cases h3 : 65536 < q * d
          · have HF : Hid (false = ans) := by
              have := HR.out
              rw [HD.out, rightGo, if_neg (by omega), if_neg (by omega), if_pos h3] at this
              exact this
            clear hm HR HD
            go_wp2
            go_ret
            exact ⟨ret_bool HF.out, rfl⟩
          · have HF : Hid (rightGo (q * d) (s.drop (k + 1)) = ans) := by
              have := HR.out
              rw [HD.out, rightGo, if_neg (by omega), if_neg (by omega), if_neg h3] at this
              exact this
            clear hm HR HD
            go_wp2
            go_round
            case rel => exact ⟨k + 1, q * d, by omega, by go_num, rfl, hm0, by omega, HF⟩
            case measure => simp [intOf]; omega
      · have HF : Hid (true = ans) := by
          have := HR.out
          rw [List.drop_of_length_le (by omega), rightGo] at this
          exact this
        clear HR
        go_wp2
        go_ret
        exact ⟨ret_bool HF.out, rfl⟩
  · have h8' : (8 : Int) < s.length := by omega
    have hR : shapeRight s = false := by simp [shapeRight, h8]
    rw [hR]
    go_enter Try.func137, Try.ntmps137
    go_wp2
    go_ret
    exact ⟨rfl, rfl⟩

/-- The product up to a zero. -/
def prodA : Int → List Int → Int
  | p, [] => p
  | p, d :: r => if d = 0 then 0 else prodA (p * d) r

theorem rightGo_le : ∀ (s : List Int) (p q : Int), 0 ≤ q → q ≤ p → rightGo p s = true → rightGo q s = true
  | [], _, _, _, _, _ => rfl
  | d :: r, p, q, h0, hq, h => by
    rw [rightGo] at h ⊢
    by_cases h1 : d < 0 ∨ 65536 < d
    · rw [if_pos h1] at h; cases h
    · rw [if_neg h1] at h ⊢
      by_cases h2 : d = 0
      · rw [if_pos h2] at h ⊢; exact rightGo_le r p q h0 hq h
      · rw [if_neg h2] at h ⊢
        have hm : q * d ≤ p * d := Int.mul_le_mul_of_nonneg_right hq (by omega)
        by_cases h3 : 65536 < p * d
        · rw [if_pos h3] at h; cases h
        · rw [if_neg h3] at h
          rw [if_neg (by omega)]
          exact rightGo_le r _ _ (Int.mul_nonneg h0 (by omega)) hm h
theorem rightGo_tail {d : Int} {r : List Int} (h : rightGo 1 (d :: r) = true) : rightGo 1 r = true := by
  by_cases h0 : d = 0
  · subst h0
    rw [rightGo, if_neg (by omega), if_pos rfl] at h
    exact h
  · obtain ⟨h1, _, _, h4⟩ := rightGo_cons h h0
    exact rightGo_le r _ _ (by omega) (by omega) h4
theorem rightGo_drop : ∀ (s : List Int) (k : Nat), rightGo 1 s = true → rightGo 1 (s.drop k) = true
  | _, 0, h => h
  | [], _ + 1, h => h
  | d :: r, k + 1, h => by rw [List.drop_succ_cons]; exact rightGo_drop r k (rightGo_tail h)

theorem prodA_vol : ∀ (s : List Int) (p : Int), prodA p s = if s.any (fun d => 0 == d) = true then 0 else prodGo p s
  | [], p => rfl
  | d :: r, p => by
    rw [prodA]
    by_cases h : d = 0
    · subst h; simp
    · have h' : (0 == d) = false := by simpa using (fun e => h e.symm)
      rw [if_neg h, prodA_vol r (p * d), List.any_cons, h', Bool.false_or, prodGo]
theorem prodA_volOf (s : List Int) : prodA 1 s = volOf s := prodA_vol s 1

set_option maxHeartbeats 400000 in
theorem r2product_any (F : Nat → Prop) (p : Option Addr) (c a : Nat) (s : List Int) (w : World) (h : IntsAt F w p s) (hn : s.length ≤ lenMax) (ha : a ≤ s.length) (hr : rightGo 1 (s.drop a) = true) :
    Calls Try.prog 113 #[.slice p s.length c, .int .i64 a, .int .i64 s.length] w fun e w' => e = .returned (.int .i64 (prodA 1 (s.drop a))) ∧ w = w' := by
  unfold lenMax at hn
  generalize hans : prodA 1 (s.drop a) = ans
  have HANS := Lib.hid hans
  have HRR := Lib.hid hr
  clear hans hr
  go_enter Try.func113, Try.ntmps113
  go_wp2
  go_loop [7, 8] (fun m i => ∃ (k : Nat) (q : Int), k ≤ s.length ∧ i = .int .i64 k ∧ m = .int .i64 q ∧ 0 ≤ q ∧ q ≤ 65536 ∧ Hid (rightGo q (s.drop k) = true) ∧ Hid (prodA q (s.drop k) = ans)) (fun _ i => s.length - (intOf i).toNat)
  case atStart => exact ⟨a, 1, ha, rfl, rfl, by omega, by omega, HRR.out, HANS.out⟩
  case round =>
    obtain ⟨k, q, hk, rfl, rfl, hq0, hq1, HG, HR⟩ := hrel
    clear HANS HRR
    by_cases hlt : k < s.length
    · obtain ⟨b, off, rfl, hc, _, _⟩ := h.get hlt
      have HD := hid_intro (drop_getD hlt)
      clear h
      generalize s.getD k 0 = d at *
      by_cases h0 : d = 0
      · subst h0
        have HF : Hid (0 = ans) := by
          have := HR.out
          rw [HD.out, prodA, if_pos rfl] at this
          exact this
        clear HG HR HD
        go_wp2
        go_ret
        exact ⟨ret_int HF.out, rfl⟩
      · have hg := HG.out
        rw [HD.out] at hg
        obtain ⟨d0, d1, d2, HG'⟩ := rightGo_cons hg h0
        have hm0 : 0 ≤ q * d := Int.mul_nonneg hq0 (by omega)
        have HG' := Lib.hid HG'
        have HF : Hid (prodA (q * d) (s.drop (k + 1)) = ans) := by
          have := HR.out
          rw [HD.out, prodA, if_neg h0] at this
          exact this
        have h0' : (d == 0) = false := by simpa using h0
        clear hg h0 HG HR HD
        go_wp2
        go_round
        case rel => exact ⟨k + 1, q * d, by omega, by go_num, rfl, hm0, by omega, HG'.out, HF⟩
        case measure => simp [intOf]; omega
    · have HF : Hid (q = ans) := by
        have := HR.out
        rw [List.drop_of_length_le (by omega), prodA] at this
        exact this
      clear HR HG
      go_wp2
      go_ret
      exact ⟨ret_int HF.out, rfl⟩

theorem r2size_any (F : Nat → Prop) (p : Option Addr) (c : Nat) (s : List Int) (w : World) (h : IntsAt F w p s) (hn : s.length ≤ lenMax) :
    Calls Try.prog 97 #[.slice p s.length c] w fun e w' => e = .returned (.int .i64 (shapeSize s)) ∧ w = w' := by
  by_cases hr : shapeRight s = true
  · have HR := Lib.hid hr
    have HS : Hid (prodA 1 (s.drop 0) = shapeSize s) := by
      show _ = _
      rw [List.drop_zero, shapeSize, if_pos hr, prodA_volOf]
    have HG := Lib.hid (shapeRight_go hr).1
    clear hr
    go_enter Try.func97, Try.ntmps97
    go_wp2_with fail
    refine (r2right_any F p c s _ h hn).mono ?_
    rintro e w' ⟨rfl, rfl⟩
    rw [HR.out]
    go_wp2_with fail
    refine (r2product_any F p c 0 s _ h hn (Nat.zero_le _) HG.out).mono ?_
    rintro e w' ⟨rfl, rfl⟩
    go_wp2_with fail
    go_ret
    exact ⟨ret_int HS.out, rfl⟩
  · have HR : Hid (shapeRight s = false) := by
      show _ = false
      exact Bool.eq_false_iff.2 hr
    have HS : Hid (-1 = shapeSize s) := by
      show _ = _
      rw [shapeSize, if_neg hr]
    clear hr
    go_enter Try.func97, Try.ntmps97
    go_wp2_with fail
    refine (r2right_any F p c s _ h hn).mono ?_
    rintro e w' ⟨rfl, rfl⟩
    rw [HR.out]
    go_wp2_with fail
    go_ret
    exact ⟨ret_int HS.out, rfl⟩

/-- The index with an offset. -/
def idxOf : List Int → Int → List Int
  | [], _ => []
  | _ :: r, o => (o / prodA 1 r) :: idxOf r (o % prodA 1 r)
theorem idxOf_length : ∀ (s : List Int) (o : Int), (idxOf s o).length = s.length
  | [], _ => rfl
  | _ :: r, o => by rw [idxOf, List.length_cons, idxOf_length r, List.length_cons]

theorem prodA_scale : ∀ (s : List Int) (p : Int), prodA p s = p * prodA 1 s
  | [], p => by simp [prodA]
  | d :: r, p => by
    rw [prodA, prodA]
    by_cases h : d = 0
    · simp [h]
    · rw [if_neg h, if_neg h, prodA_scale r (p * d), prodA_scale r (1 * d), Int.one_mul, Int.mul_assoc]
theorem prodA_nonneg : ∀ (s : List Int) (p : Int), 0 ≤ p → rightGo 1 s = true → 0 ≤ prodA p s
  | [], p, h, _ => h
  | d :: r, p, h, hr => by
    rw [prodA]
    split
    · omega
    · rename_i h0
      obtain ⟨h1, _, _, _⟩ := rightGo_cons hr h0
      exact prodA_nonneg r _ (Int.mul_nonneg h (by omega)) (rightGo_tail hr)
theorem prodA_le : ∀ (s : List Int) (p : Int), 0 ≤ p → p ≤ 65536 → rightGo p s = true → prodA p s ≤ 65536
  | [], p, _, h, _ => h
  | d :: r, p, h0, h, hr => by
    rw [prodA]
    split
    · omega
    · rename_i hd
      obtain ⟨h1, _, h3, h4⟩ := rightGo_cons hr hd
      exact prodA_le r _ (Int.mul_nonneg h0 (by omega)) h3 h4

/-- One more digit: both bounds. -/
theorem idx_step {d o : Int} {r : List Int} (hr : rightGo 1 (d :: r) = true) (h0 : 0 ≤ o) (h1 : o < prodA 1 (d :: r)) :
    1 ≤ prodA 1 r ∧ prodA 1 r ≤ 65536 ∧ 0 ≤ o / prodA 1 r ∧ o / prodA 1 r < d ∧ 0 ≤ o % prodA 1 r ∧ o % prodA 1 r < prodA 1 r := by
  have hd : d ≠ 0 := by
    intro h
    rw [prodA, if_pos h] at h1
    omega
  obtain ⟨h2, _, _, _⟩ := rightGo_cons hr hd
  rw [prodA, if_neg hd, prodA_scale, Int.one_mul] at h1
  have h3 := prodA_nonneg r 1 (by omega) (rightGo_tail hr)
  have h4 := prodA_le r 1 (by omega) (by omega) (rightGo_tail hr)
  have h5 : 1 ≤ prodA 1 r := by
    rcases (show prodA 1 r = 0 ∨ 1 ≤ prodA 1 r from by omega) with h | h
    · rw [h] at h1; simp at h1; omega
    · exact h
  refine ⟨h5, h4, Int.ediv_nonneg h0 (by omega), Int.ediv_lt_of_lt_mul (by omega) h1, Int.emod_nonneg _ (by omega), Int.emod_lt_of_pos _ (by omega)⟩

theorem idxOf_within : ∀ (s : List Int) (o : Int), rightGo 1 s = true → 0 ≤ o → o < prodA 1 s → Within s (idxOf s o)
  | [], _, _, _, _ => ⟨rfl, fun j hj => by simp at hj⟩
  | d :: r, o, hr, h0, h1 => by
    obtain ⟨a1, a2, a3, a4, a5, a6⟩ := idx_step hr h0 h1
    have ih := idxOf_within r (o % prodA 1 r) (rightGo_tail hr) a5 a6
    refine ⟨idxOf_length _ _, fun j hj => ?_⟩
    rw [idxOf]
    cases j with
    | zero => simpa using ⟨a3, a4⟩
    | succ j => simpa using ih.2 j (by simpa using hj)

end Go.Proofs.Ytgkemmdghmklfaa
