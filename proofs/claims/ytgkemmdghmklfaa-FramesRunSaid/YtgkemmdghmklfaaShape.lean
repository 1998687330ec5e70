/-
  THE WALKS of package shape and of the small tests of package array.
-/
import Derived.Test.YtgkemmdghmklfaaChecked
import Derived.Test.YtgkemmdghmklfaaBase
namespace Go.Proofs.Ytgkemmdghmklfaa
set_option linter.unusedSimpArgs false
set_option linter.unusedVariables false
open Go.RowKit

/-- What shape.Right computes from position k on with the product p. -/
def rightGo : Int → List Int → Bool
  | _, [] => true
  | p, d :: r => if d < 0 ∨ 65536 < d then false else if d = 0 then rightGo p r else if 65536 < p * d then false else rightGo (p * d) r

def shapeRight (s : List Int) : Bool := decide (s.length ≤ 8) && rightGo 1 s

set_option maxHeartbeats 400000 in
theorem shapeRight_any (F : Nat → Prop) (p : Option Addr) (c : Nat) (s : List Int) (w : World) (h : IntsAt F w p s) (hn : s.length ≤ lenMax) :
    Calls Try.prog 83 #[.slice p s.length c] w fun e w' => e = .returned (.bool (shapeRight s)) ∧ w = w' := by
  unfold lenMax at hn
  by_cases h8 : s.length ≤ 8
  · have h8' : ¬ (8 : Int) < s.length := by omega
    have hR : shapeRight s = rightGo 1 s := by simp [shapeRight, h8]
    rw [hR]
    generalize hans : rightGo 1 s = ans
    have HANS := Lib.hid hans
    clear hans hR
    go_enter Try.func83, Try.ntmps83
    go_wp2
    go_step3
    go_wp2
    go_step3
    go_wp2
    go_loop [3, 11] (fun m i => ∃ (k : Nat) (q : Int), k ≤ s.length ∧ i = .int .i64 k ∧ m = .int .i64 q ∧ 0 ≤ q ∧ q ≤ 65536 ∧ Hid (rightGo q (s.drop k) = ans)) (fun _ i => s.length - (intOf i).toNat)
    case atStart => exact ⟨0, 1, Nat.zero_le _, rfl, rfl, by omega, by omega, HANS.out⟩
    case round =>
      obtain ⟨k, q, hk, rfl, rfl, hq0, hq1, HR⟩ := hrel
      clear HANS
      by_cases hlt : k < s.length
      · obtain ⟨b, off, rfl, hc, _, _⟩ := h.get hlt
        have HD := hid_intro (drop_getD hlt)
        clear h
        generalize s.getD k 0 = d at *
        have hm : 0 ≤ d → d ≤ 65536 → 0 ≤ q * d ∧ q * d ≤ 4294967296 := fun a b => ⟨Int.mul_nonneg hq0 a, by
          have := Int.mul_le_mul hq1 b a (by omega)
          omega⟩
        rcases (show d < 0 ∨ 65536 < d ∨ d = 0 ∨ (0 < d ∧ d ≤ 65536) from by omega) with h1 | h1 | h1 | ⟨h1, h2⟩
        · have HF : Hid (false = ans) := by
            have := HR.out
            rw [HD.out, rightGo, if_pos (by omega)] at this
            exact this
          clear hm HR HD
          go_wp2
          try rw [Exit.noGoto_ret]
          go_ret
          exact ⟨ret_bool HF.out, rfl⟩
        · have HF : Hid (false = ans) := by
            have := HR.out
            rw [HD.out, rightGo, if_pos (by omega)] at this
            exact this
          clear hm HR HD
          go_wp2
          try rw [Exit.noGoto_ret]
          go_ret
          exact ⟨ret_bool HF.out, rfl⟩
        · subst h1
          have HF : Hid (rightGo q (s.drop (k + 1)) = ans) := by
            have := HR.out
            rw [HD.out, rightGo, if_neg (by omega), if_pos rfl] at this
            exact this
          clear hm HR HD
          go_wp2
          go_round
          case rel => exact ⟨k + 1, q, by omega, by go_num, rfl, hq0, hq1, HF⟩
          case measure => simp [intOf]; omega
        · obtain ⟨hm0, hm1⟩ := hm (by omega) h2
          have hd0 : (d == 0) = false := by simpa using (show d ≠ 0 by omega)
          by_cases h3 : 65536 < q * d
          · have HF : Hid (false = ans) := by
              have := HR.out
              rw [HD.out, rightGo, if_neg (by omega), if_neg (by omega), if_pos h3] at this
              exact this
            clear hm HR HD
            go_wp2
            try rw [Exit.noGoto_ret]
            go_ret
            exact ⟨ret_bool HF.out, rfl⟩
          · have HF : Hid (rightGo (q * d) (s.drop (k + 1)) = ans) := by
              have := HR.out
              rw [HD.out, rightGo, if_neg (by omega), if_neg (by omega), if_neg h3] at this
              exact this
            clear hm HR HD
            go_wp2
            go_round
            case rel => exact ⟨k + 1, q * d, by omega, by go_num, rfl, hm0, by omega, HF⟩
            case measure => simp [intOf]; omega
      · have HF : Hid (true = ans) := by
          have := HR.out
          rw [List.drop_of_length_le (by omega), rightGo] at this
          exact this
        clear HR
        go_wp2
        try rw [Exit.noGoto_ret]
        go_ret
        exact ⟨ret_bool HF.out, rfl⟩
  · have h8' : (8 : Int) < s.length := by omega
    have hR : shapeRight s = false := by simp [shapeRight, h8]
    rw [hR]
    go_enter Try.func83, Try.ntmps83
    go_wp2
    go_step3
    go_wp2
    try rw [Exit.noGoto_ret]
    go_ret
    exact ⟨rfl, rfl⟩

/-- array.number, array.character. -/
def isNum (n : Int) : Bool := decide (-4611686018427387903 ≤ n) && decide (n ≤ 4611686018427387903)
def isChr (n : Int) : Bool := decide (0 ≤ n) && decide (n ≤ 1114111) && (decide (n < 55296) || decide (57343 < n))

theorem number_any (n : Int) (w : World) : Calls Try.prog 126 #[.int .i64 n] w fun e w' => e = .returned (.bool (isNum n)) ∧ w = w' := by
  rcases (show n < -4611686018427387903 ∨ 4611686018427387903 < n ∨ (-4611686018427387903 ≤ n ∧ n ≤ 4611686018427387903) from by omega) with h | h | ⟨h, h'⟩
  all_goals
    go_enter Try.func126, Try.ntmps126
    go_wp2
    go_ret
    exact ⟨ret_bool (by unfold isNum; simp; omega), rfl⟩

theorem character_any (n : Int) (w : World) : Calls Try.prog 127 #[.int .i64 n] w fun e w' => e = .returned (.bool (isChr n)) ∧ w = w' := by
  rcases (show n < 0 ∨ 1114111 < n ∨ (0 ≤ n ∧ n < 55296) ∨ (55296 ≤ n ∧ n ≤ 57343) ∨ (57343 < n ∧ n ≤ 1114111) from by omega) with h | h | ⟨h, h'⟩ | ⟨h, h'⟩ | ⟨h, h'⟩
  all_goals
    go_enter Try.func127, Try.ntmps127
    go_wp2
    go_ret
    exact ⟨ret_bool (by unfold isChr; simp; omega), rfl⟩

def isNeg (d : Int) : Bool := decide (d < 0)
theorem formNeg_any (n : Int) (w : World) : Calls Try.prog 153 #[.int .i64 n] w fun e w' => e = .returned (.bool (isNeg n)) ∧ w = w' := by
  go_enter Try.func153, Try.ntmps153
  go_wp2
  go_ret
  exact ⟨rfl, rfl⟩

/-- The place of the first element that meets p, counted from i; or -1. -/
def idxGo (p : Int → Bool) : Int → List Int → Int
  | _, [] => -1
  | i, d :: r => if p d = true then i else idxGo p (i + 1) r

theorem idxGo_neg (p : Int → Bool) : ∀ (l : List Int) (i : Int), 0 ≤ i → (decide (0 ≤ idxGo p i l)) = l.any p
  | [], i, _ => by simp [idxGo]
  | d :: r, i, hi => by
    rw [idxGo]
    by_cases h : p d = true
    · simp [h, hi]
    · rw [if_neg h, idxGo_neg p r (i + 1) (by omega)]
      simp [h]

theorem idxGo_bd (p : Int → Bool) : ∀ (l : List Int) (i : Int), 0 ≤ i → -1 ≤ idxGo p i l ∧ idxGo p i l ≤ i + l.length
  | [], i, _ => by simp [idxGo]; omega
  | d :: r, i, hi => by
    rw [idxGo]
    have := idxGo_bd p r (i + 1) (by omega)
    split
    · simp; omega
    · simp at this ⊢; omega

set_option maxHeartbeats 400000 in
theorem index_any (F : Nat → Prop) (p : Option Addr) (c : Nat) (s : List Int) (v : Int) (w : World) (h : IntsAt F w p s) (hn : s.length ≤ lenMax) :
    Calls Try.prog 172 #[.slice p s.length c, .int .i64 v] w fun e w' => e = .returned (.int .i64 (idxGo (fun d => v == d) 0 s)) ∧ w = w' := by
  unfold lenMax at hn
  generalize hans : idxGo (fun d => v == d) 0 s = ans
  have HANS := Lib.hid hans
  clear hans
  go_enter Try.func172, Try.ntmps172
  go_wp2
  go_loop [8] (fun i => ∃ (k : Nat), k ≤ s.length ∧ i = .int .i64 k ∧ Hid (idxGo (fun d => v == d) k (s.drop k) = ans)) (fun i => s.length - (intOf i).toNat)
  case atStart => exact ⟨0, Nat.zero_le _, rfl, HANS.out⟩
  case round =>
    obtain ⟨k, hk, rfl, HR⟩ := hrel
    clear HANS
    by_cases hlt : k < s.length
    · obtain ⟨b, off, rfl, hc, _, _⟩ := h.get hlt
      have HD := hid_intro (drop_getD hlt)
      clear h
      generalize s.getD k 0 = d at *
      by_cases h3 : (v == d) = true
      · have HF : Hid ((k : Int) = ans) := by
          have := HR.out
          rw [HD.out, idxGo, if_pos h3] at this
          exact this
        clear HR HD
        go_wp2
        go_ret
        exact ⟨ret_int HF.out, rfl⟩
      · have HF : Hid (idxGo (fun d => v == d) ((k + 1 : Nat) : Int) (s.drop (k + 1)) = ans) := by
          have := HR.out
          rw [HD.out, idxGo, if_neg h3] at this
          rw [← this]; congr 1
        have h3' : (v == d) = false := by simpa using h3
        clear HR HD h3
        go_wp2
        go_round
        case rel => exact ⟨k + 1, by omega, by go_num, HF⟩
        case measure => simp [intOf]; omega
    · have HF : Hid ((-1 : Int) = ans) := by
        have := HR.out
        rw [List.drop_of_length_le (by omega), idxGo] at this
        exact this
      clear HR
      go_wp2
      go_ret
      exact ⟨ret_int HF.out, rfl⟩

theorem contains_any (F : Nat → Prop) (p : Option Addr) (c : Nat) (s : List Int) (v : Int) (w : World) (h : IntsAt F w p s) (hn : s.length ≤ lenMax) :
    Calls Try.prog 167 #[.slice p s.length c, .int .i64 v] w fun e w' => e = .returned (.bool (s.any fun d => v == d)) ∧ w = w' := by
  have HB := Lib.hid (idxGo_neg (fun d => v == d) s 0 (by omega))
  go_enter Try.func167, Try.ntmps167
  go_wp2_with (go_at_call 172; refine (index_any F p c s v _ h hn).mono ?_; rintro e w' ⟨rfl, rfl⟩)
  go_ret
  exact ⟨ret_bool HB.out, rfl⟩


set_option maxHeartbeats 400000 in
theorem indexFunc_neg (F : Nat → Prop) (p : Option Addr) (c : Nat) (s : List Int)  (w : World) (h : IntsAt F w p s) (hn : s.length ≤ lenMax)  :
    Calls Try.prog 131 #[.slice p s.length c, .func (.func 153) #[] #[]] w fun e w' => e = .returned (.int .i64 (idxGo isNeg 0 s)) ∧ w = w' := by
  unfold lenMax at hn
  generalize hans : idxGo isNeg 0 s = ans
  have HANS := Lib.hid hans
  clear hans
  go_enter Try.func131, Try.ntmps131
  go_wp2
  go_loop [8] (fun i => ∃ (k : Nat), k ≤ s.length ∧ i = .int .i64 k ∧ Hid (idxGo isNeg k (s.drop k) = ans)) (fun i => s.length - (intOf i).toNat)
  case atStart => exact ⟨0, Nat.zero_le _, rfl, HANS.out⟩
  case round =>
    obtain ⟨k, hk, rfl, HR⟩ := hrel
    clear HANS
    by_cases hlt : k < s.length
    · obtain ⟨b, off, rfl, hc, _, _⟩ := h.get hlt
      have HD := hid_intro (drop_getD hlt)
      clear h
      generalize s.getD k 0 = d at *
      by_cases h3 : isNeg d = true
      · have HF : Hid ((k : Int) = ans) := by
          have := HR.out
          rw [HD.out, idxGo, if_pos h3] at this
          exact this
        have H3 := Lib.hid h3
        clear HR HD h3
        go_wp2_with (go_at_call 153; refine (formNeg_any d _).mono ?_; rintro e w' ⟨rfl, rfl⟩; rw [H3.out])
        go_ret
        exact ⟨ret_int HF.out, rfl⟩
      · have HF : Hid (idxGo isNeg ((k + 1 : Nat) : Int) (s.drop (k + 1)) = ans) := by
          have := HR.out
          rw [HD.out, idxGo, if_neg h3] at this
          rw [← this]; congr 1
        have H3 : Hid (isNeg d = false) := by
          show isNeg d = false
          exact Bool.eq_false_iff.2 h3
        clear HR HD h3
        go_wp2_with (go_at_call 153; refine (formNeg_any d _).mono ?_; rintro e w' ⟨rfl, rfl⟩; rw [H3.out])
        go_round
        case rel => exact ⟨k + 1, by omega, by go_num, HF⟩
        case measure => simp [intOf]; omega
    · have HF : Hid ((-1 : Int) = ans) := by
        have := HR.out
        rw [List.drop_of_length_le (by omega), idxGo] at this
        exact this
      clear HR
      go_wp2
      go_ret
      exact ⟨ret_int HF.out, rfl⟩

theorem containsFunc_neg (F : Nat → Prop) (p : Option Addr) (c : Nat) (s : List Int)  (w : World) (h : IntsAt F w p s) (hn : s.length ≤ lenMax)  :
    Calls Try.prog 80 #[.slice p s.length c, .func (.func 153) #[] #[]] w fun e w' => e = .returned (.bool (s.any isNeg)) ∧ w = w' := by
  have HB := Lib.hid (idxGo_neg isNeg s 0 (by omega))
  go_enter Try.func80, Try.ntmps80
  go_wp2_with (go_at_call 131; refine (indexFunc_neg F p c s  _ h hn ).mono ?_; rintro e w' ⟨rfl, rfl⟩)
  go_ret
  exact ⟨ret_bool HB.out, rfl⟩

/-- The size of a shape that is right. -/
def prodGo : Int → List Int → Int
  | p, [] => p
  | p, d :: r => prodGo (p * d) r
def volOf (s : List Int) : Int := if s.any (fun d => 0 == d) = true then 0 else prodGo 1 s
def shapeSize (s : List Int) : Int := if shapeRight s = true then volOf s else -1

theorem rightGo_cons {p d : Int} {r : List Int} (h : rightGo p (d :: r) = true) (h0 : d ≠ 0) : 0 < d ∧ d ≤ 65536 ∧ p * d ≤ 65536 ∧ rightGo (p * d) r = true := by
  rw [rightGo] at h
  by_cases h1 : d < 0 ∨ 65536 < d
  · rw [if_pos h1] at h; cases h
  · rw [if_neg h1, if_neg h0] at h
    by_cases h2 : 65536 < p * d
    · rw [if_pos h2] at h; cases h
    · rw [if_neg h2] at h
      exact ⟨by omega, by omega, by omega, h⟩

set_option maxHeartbeats 400000 in
/-- shape.product of a list without zeros that shape.Right accepts. -/
theorem product_any (F : Nat → Prop) (p : Option Addr) (c : Nat) (s : List Int) (w : World) (h : IntsAt F w p s) (hn : s.length ≤ lenMax) (hr : rightGo 1 s = true) :
    Calls Try.prog 154 #[.slice p s.length c] w fun e w' => e = .returned (.int .i64 (volOf s)) ∧ w = w' := by
  by_cases hz : (s.any fun d => 0 == d) = true
  · have HZ := hid_intro hz
    have HS : Hid ((0 : Int) = volOf s) := by
      show (0 : Int) = volOf s
      rw [volOf, if_pos hz]
    clear hz
    go_enter Try.func154, Try.ntmps154
    go_wp2_with (go_at_call 167; refine (contains_any F p c s 0 _ h hn).mono ?_; rintro e w' ⟨rfl, rfl⟩; rw [HZ.out])
    go_ret
    exact ⟨ret_int HS.out, rfl⟩
  · have HZ : Hid ((s.any fun d => 0 == d) = false) := by
      show _ = false
      exact Bool.eq_false_iff.2 hz
    generalize hans : volOf s = ans
    have HANS : Hid (prodGo 1 s = ans) := by
      show _ = _
      rw [← hans, volOf, if_neg hz]
    have hnz : Hid (∀ k, k < s.length → s.getD k 0 ≠ 0) := by
      intro k hk h0
      apply hz
      rw [List.any_eq_true]
      exact ⟨s.getD k 0, by simp [List.getD, hk], by rw [h0]; rfl⟩
    clear hz hans
    have HRR := Lib.hid hr
    clear hr
    go_enter Try.func154, Try.ntmps154
    go_wp2_with (go_at_call 167; refine (contains_any F p c s 0 _ h hn).mono ?_; rintro e w' ⟨rfl, rfl⟩; rw [HZ.out])
    unfold lenMax at hn
    go_loop [3, 10] (fun m i => ∃ (k : Nat) (q : Int), k ≤ s.length ∧ i = .int .i64 k ∧ m = .int .i64 q ∧ 0 ≤ q ∧ q ≤ 65536 ∧ Hid (rightGo q (s.drop k) = true) ∧ Hid (prodGo q (s.drop k) = ans)) (fun _ i => s.length - (intOf i).toNat)
    case atStart => exact ⟨0, 1, Nat.zero_le _, rfl, rfl, by omega, by omega, HRR.out, HANS.out⟩
    case round =>
      obtain ⟨k, q, hk, rfl, rfl, hq0, hq1, HG, HR⟩ := hrel
      clear HANS HRR
      by_cases hlt : k < s.length
      · obtain ⟨b, off, rfl, hc, _, _⟩ := h.get hlt
        have HD := hid_intro (drop_getD hlt)
        have h0 := hnz.out k hlt
        clear h hnz
        generalize s.getD k 0 = d at *
        have hg := HG.out
        rw [HD.out] at hg
        obtain ⟨d0, d1, d2, HG'⟩ := rightGo_cons hg h0
        have hm0 : 0 ≤ q * d := Int.mul_nonneg hq0 (by omega)
        have HG' := Lib.hid HG'
        have HF : Hid (prodGo (q * d) (s.drop (k + 1)) = ans) := by
          have := HR.out
          rw [HD.out, prodGo] at this
          exact this
        clear hg h0 HG HR HD
        go_wp2
        go_round
        case rel => exact ⟨k + 1, q * d, by omega, by go_num, rfl, hm0, by omega, HG'.out, HF⟩
        case measure => simp [intOf]; omega
      · have HF : Hid (q = ans) := by
          have := HR.out
          rw [List.drop_of_length_le (by omega), prodGo] at this
          exact this
        clear HR HG
        go_wp2
        go_ret
        exact ⟨ret_int HF.out, rfl⟩

theorem size_any (F : Nat → Prop) (p : Option Addr) (c : Nat) (s : List Int) (w : World) (h : IntsAt F w p s) (hn : s.length ≤ lenMax) :
    Calls Try.prog 129 #[.slice p s.length c] w fun e w' => e = .returned (.int .i64 (shapeSize s)) ∧ w = w' := by
  by_cases hr : shapeRight s = true
  · have HR := Lib.hid hr
    have HS : Hid (volOf s = shapeSize s) := by
      show _ = _
      rw [shapeSize, if_pos hr]
    have hg : rightGo 1 s = true := by
      simp only [shapeRight, Bool.and_eq_true] at hr
      exact hr.2
    have HG := Lib.hid hg
    clear hr hg
    go_enter Try.func129, Try.ntmps129
    go_wp2_with (first | (go_at_call 83; refine (shapeRight_any F p c s _ h hn).mono ?_; rintro e w' ⟨rfl, rfl⟩; rw [HR.out]) | (go_at_call 154; refine (product_any F p c s _ h hn HG.out).mono ?_; rintro e w' ⟨rfl, rfl⟩))
    go_ret
    exact ⟨ret_int HS.out, rfl⟩
  · have HR : Hid (shapeRight s = false) := by
      show _ = false
      exact Bool.eq_false_iff.2 hr
    have HS : Hid (-1 = shapeSize s) := by
      show _ = _
      rw [shapeSize, if_neg hr]
    clear hr
    go_enter Try.func129, Try.ntmps129
    go_wp2_with (first | (go_at_call 83; refine (shapeRight_any F p c s _ h hn).mono ?_; rintro e w' ⟨rfl, rfl⟩; rw [HR.out]))
    go_ret
    exact ⟨ret_int HS.out, rfl⟩
end Go.Proofs.Ytgkemmdghmklfaa
