/-
  THE WALKS of num's and ref01's arithmetic, at numbers.
-/
import Derived.Test.YtmpjnjhiklaofaaRegX
import Derived.Test.YtmpjnjhiklaofaaShape
import Derived.IntWalk
namespace Go.Proofs.Ytmpjnjhiklaofaa
set_option linter.unusedSimpArgs false
set_option linter.unusedVariables false
open Go.RowKit

/-- A number of the language. -/
def NumB (n : Int) : Prop := -4611686018427387903 ≤ n ∧ n ≤ 4611686018427387903
theorem NumB.is {n : Int} (h : NumB n) : isNum n = true := by unfold NumB at h; simp [isNum]; omega
theorem NumB.of {n : Int} (h : isNum n = true) : NumB n := by simp [isNum] at h; unfold NumB; omega

theorem nfits_any (n : Int) (w : World) : Calls Try.prog 132 #[.int .i64 n] w fun e w' => e = .returned (.bool (isNum n)) ∧ w = w' := by
  rcases (show n < -4611686018427387903 ∨ 4611686018427387903 < n ∨ (-4611686018427387903 ≤ n ∧ n ≤ 4611686018427387903) from by omega) with h | h | ⟨h, h'⟩
  all_goals
    go_enter Try.func132, Try.ntmps132
    go_wp2
    go_ret
    exact ⟨ret_bool (by unfold isNum; simp; omega), rfl⟩
theorem rfits_any (n : Int) (w : World) : Calls Try.prog 22 #[.int .i64 n] w fun e w' => e = .returned (.bool (isNum n)) ∧ w = w' := by
  rcases (show n < -4611686018427387903 ∨ 4611686018427387903 < n ∨ (-4611686018427387903 ≤ n ∧ n ≤ 4611686018427387903) from by omega) with h | h | ⟨h, h'⟩
  all_goals
    go_enter Try.func22, Try.ntmps22
    go_wp2
    go_ret
    exact ⟨ret_bool (by unfold isNum; simp; omega), rfl⟩
theorem nchecked_any (a b : Int) (w : World) (ha : NumB a) (hb : NumB b) : Calls Try.prog 120 #[.int .i64 a, .int .i64 b] w fun e w' => e = .returned (.int .i64 0) ∧ w = w' := by
  have HA := Lib.hid ha.is
  have HB := Lib.hid hb.is
  clear ha hb
  go_enter Try.func120, Try.ntmps120
  go_wp2_with fail
  refine (nfits_any a w).mono ?_
  rintro e w' ⟨rfl, rfl⟩
  rw [HA.out]
  go_wp2_with fail
  refine (nfits_any b w).mono ?_
  rintro e w' ⟨rfl, rfl⟩
  rw [HB.out]
  go_wp2_with fail
  go_ret
  exact ⟨rfl, rfl⟩
theorem rboth_any (a b : Int) (w : World) (ha : NumB a) (hb : NumB b) : Calls Try.prog 67 #[.int .i64 a, .int .i64 b] w fun e w' => e = .returned (.bool true) ∧ w = w' := by
  have HA := Lib.hid ha.is
  have HB := Lib.hid hb.is
  clear ha hb
  go_enter Try.func67, Try.ntmps67
  go_wp2_with fail
  refine (rfits_any a w).mono ?_
  rintro e w' ⟨rfl, rfl⟩
  rw [HA.out]
  go_wp2_with fail
  refine (rfits_any b w).mono ?_
  rintro e w' ⟨rfl, rfl⟩
  rw [HB.out]
  go_wp2_with fail
  go_ret
  exact ⟨rfl, rfl⟩

/-- A number, or the error of an overflow. -/
def fitV (n : Int) : Int × Int := if isNum n = true then (n, 0) else (0, 19)
theorem fitV_num (n : Int) : NumB (fitV n).1 := by
  unfold fitV
  split
  · rename_i h; exact NumB.of h
  · exact ⟨by decide, by decide⟩
theorem nfit_any (n : Int) (w : World) : Calls Try.prog 122 #[.int .i64 n] w fun e w' => e = .returned (.tuple #[.int .i64 (fitV n).1, .int .i64 (fitV n).2]) ∧ w = w' := by
  unfold fitV
  generalize hb : isNum n = b
  have HB := Lib.hid hb
  clear hb
  cases b with
  | true =>
    simp only [if_true]
    go_enter Try.func122, Try.ntmps122
    go_wp2_with fail
    refine (nfits_any n w).mono ?_
    rintro e w' ⟨rfl, rfl⟩
    rw [HB.out]
    go_wp2_with fail
    go_ret2
    exact ⟨rfl, rfl⟩
  | false =>
    simp only [Bool.false_eq_true, if_false]
    go_enter Try.func122, Try.ntmps122
    go_wp2_with fail
    refine (nfits_any n w).mono ?_
    rintro e w' ⟨rfl, rfl⟩
    rw [HB.out]
    go_wp2_with fail
    go_ret2
    exact ⟨rfl, rfl⟩
theorem rchecked_any (n : Int) (w : World) : Calls Try.prog 94 #[.int .i64 n] w fun e w' => e = .returned (.tuple #[.int .i64 (fitV n).1, .int .i64 (fitV n).2]) ∧ w = w' := by
  unfold fitV
  generalize hb : isNum n = b
  have HB := Lib.hid hb
  clear hb
  cases b with
  | true =>
    simp only [if_true]
    go_enter Try.func94, Try.ntmps94
    go_wp2_with fail
    refine (rfits_any n w).mono ?_
    rintro e w' ⟨rfl, rfl⟩
    rw [HB.out]
    go_wp2_with fail
    go_ret2
    exact ⟨rfl, rfl⟩
  | false =>
    simp only [Bool.false_eq_true, if_false]
    go_enter Try.func94, Try.ntmps94
    go_wp2_with fail
    refine (rfits_any n w).mono ?_
    rintro e w' ⟨rfl, rfl⟩
    rw [HB.out]
    go_wp2_with fail
    go_ret2
    exact ⟨rfl, rfl⟩
theorem nadd_any (a b : Int) (w : World) (ha : NumB a) (hb : NumB b) : Calls Try.prog 92 #[.int .i64 a, .int .i64 b] w fun e w' => e = .returned (.tuple #[.int .i64 (fitV (a + b)).1, .int .i64 (fitV (a + b)).2]) ∧ w = w' := by
  have HA := Lib.hid ha
  have HB := Lib.hid hb
  obtain ⟨a1, a2⟩ := ha
  obtain ⟨b1, b2⟩ := hb
  have HF := Lib.hid (fun w => nfit_any (a + b) w)
  generalize fitV (a + b) = r at *
  go_enter Try.func92, Try.ntmps92
  go_wp2_with fail
  refine (nchecked_any a b w HA.out HB.out).mono ?_
  rintro e w' ⟨rfl, rfl⟩
  go_wp2_with fail
  refine (HF.out w).mono ?_
  rintro e w' ⟨rfl, rfl⟩
  go_wp2_with fail
  go_ret2
  exact ⟨rfl, rfl⟩
theorem radd_any (a b : Int) (w : World) (ha : NumB a) (hb : NumB b) : Calls Try.prog 65 #[.int .i64 a, .int .i64 b] w fun e w' => e = .returned (.tuple #[.int .i64 (fitV (a + b)).1, .int .i64 (fitV (a + b)).2]) ∧ w = w' := by
  have HA := Lib.hid ha
  have HB := Lib.hid hb
  obtain ⟨a1, a2⟩ := ha
  obtain ⟨b1, b2⟩ := hb
  have HF := Lib.hid (fun w => rchecked_any (a + b) w)
  generalize fitV (a + b) = r at *
  go_enter Try.func65, Try.ntmps65
  go_wp2_with fail
  refine (rboth_any a b w HA.out HB.out).mono ?_
  rintro e w' ⟨rfl, rfl⟩
  go_wp2_with fail
  refine (HF.out w).mono ?_
  rintro e w' ⟨rfl, rfl⟩
  go_wp2_with fail
  go_ret2
  exact ⟨rfl, rfl⟩
theorem nabs_any (n : Int) (w : World) (h : NumB n) : Calls Try.prog 133 #[.int .i64 n] w fun e w' => e = .returned (.int .i64 (max n (-n))) ∧ w = w' := by
  obtain ⟨h1, h2⟩ := h
  by_cases h3 : n < -n
  · have e : max n (-n) = -n := by omega
    rw [e]; go_enter Try.func133, Try.ntmps133; go_wp2; go_ret; exact ⟨rfl, rfl⟩
  · have e : max n (-n) = n := by omega
    rw [e]; go_enter Try.func133, Try.ntmps133; go_wp2; go_ret; exact ⟨rfl, rfl⟩
theorem r1abs_any (n : Int) (w : World) (h : NumB n) : Calls Try.prog 68 #[.int .i64 n] w fun e w' => e = .returned (.int .i64 (max n (-n))) ∧ w = w' := by
  obtain ⟨h1, h2⟩ := h
  by_cases h3 : n < 0
  · have e : max n (-n) = -n := by omega
    rw [e]; go_enter Try.func68, Try.ntmps68; go_wp2; go_ret; exact ⟨rfl, rfl⟩
  · have e : max n (-n) = n := by omega
    rw [e]; go_enter Try.func68, Try.ntmps68; go_wp2; go_ret; exact ⟨rfl, rfl⟩

/-! ### Products -/
theorem mul_big {x y : Int} (hx : 0 ≤ x) (hy : 0 < y) : 4611686018427387903 / y < x ↔ 4611686018427387903 < x * y := by
  constructor
  · intro h
    have h1 := Int.lt_ediv_add_one_mul_self 4611686018427387903 hy
    have h2 : (4611686018427387903 / y + 1) * y ≤ x * y := Int.mul_le_mul_of_nonneg_right (by omega) (by omega)
    omega
  · intro h
    exact Int.ediv_lt_of_lt_mul hy h
theorem abs_mul_le {a b M : Int} (hM : max a (-a) * max b (-b) ≤ M) : -M ≤ a * b ∧ a * b ≤ M := by
  rcases Int.le_total 0 a with h1 | h1 <;> rcases Int.le_total 0 b with h2 | h2
  · rw [show max a (-a) = a by omega, show max b (-b) = b by omega] at hM
    have := Int.mul_nonneg h1 h2
    omega
  · rw [show max a (-a) = a by omega, show max b (-b) = -b by omega, Int.mul_neg] at hM
    have := Int.mul_nonneg h1 (show 0 ≤ -b by omega)
    rw [Int.mul_neg] at this
    omega
  · rw [show max a (-a) = -a by omega, show max b (-b) = b by omega, Int.neg_mul] at hM
    have := Int.mul_nonneg (show 0 ≤ -a by omega) h2
    rw [Int.neg_mul] at this
    omega
  · rw [show max a (-a) = -a by omega, show max b (-b) = -b by omega, Int.neg_mul_neg] at hM
    have := Int.mul_nonneg (show 0 ≤ -a by omega) (show 0 ≤ -b by omega)
    rw [Int.neg_mul_neg] at this
    omega
theorem abs_mul_gt {a b M : Int} (h0 : 0 ≤ M) (hM : M < max a (-a) * max b (-b)) : a * b < -M ∨ M < a * b := by
  rcases Int.le_total 0 a with h1 | h1 <;> rcases Int.le_total 0 b with h2 | h2
  · rw [show max a (-a) = a by omega, show max b (-b) = b by omega] at hM
    omega
  · rw [show max a (-a) = a by omega, show max b (-b) = -b by omega, Int.mul_neg] at hM
    omega
  · rw [show max a (-a) = -a by omega, show max b (-b) = b by omega, Int.neg_mul] at hM
    omega
  · rw [show max a (-a) = -a by omega, show max b (-b) = -b by omega, Int.neg_mul_neg] at hM
    omega
theorem nmul1_any (a b : Int) (w : World) (ha : NumB a) (hb : NumB b) : Calls Try.prog 121 #[.int .i64 a, .int .i64 b] w fun e w' => e = .returned (.tuple #[.int .i64 (fitV (a * b)).1, .int .i64 (fitV (a * b)).2]) ∧ w = w' := by
  have HA := Lib.hid ha
  have HB := Lib.hid hb
  have ha' := ha
  have hb' := hb
  obtain ⟨a1, a2⟩ := ha'
  obtain ⟨b1, b2⟩ := hb'
  clear ha hb
  by_cases hb0 : b = 0
  · subst hb0
    rw [Int.mul_zero]
    have hf : fitV 0 = (0, 0) := rfl
    rw [hf]
    go_enter Try.func121, Try.ntmps121
    go_wp2_with fail
    go_ret2
    exact ⟨rfl, rfl⟩
  · have hbe : (b == 0) = false := by simpa using hb0
    have hbn : (b != 0) = true := by simpa using hb0
    have hy : 0 < max b (-b) := by omega
    have hx : 0 ≤ max a (-a) := by omega
    have hmb := mul_big hx hy
    have hq0 : 0 ≤ 4611686018427387903 / max b (-b) := Int.ediv_nonneg (by omega) (by omega)
    have hq1 : 4611686018427387903 / max b (-b) ≤ 4611686018427387903 := Int.ediv_le_self _ (by omega)
    by_cases hbig : 4611686018427387903 < max a (-a) * max b (-b)
    · have hov := abs_mul_gt (by omega) hbig
      have hf : Hid (fitV (a * b) = (0, 19)) := by
        show _ = _
        unfold fitV
        rw [if_neg]
        simp [isNum]
        omega
      rw [hf.out]
      have hgt := hmb.2 hbig
      have htd : (4611686018427387903 : Int).tdiv (max b (-b)) = 4611686018427387903 / max b (-b) := Int.tdiv_eq_ediv_of_nonneg (by omega)
      generalize hbv : max b (-b) = bv at *
      generalize hav : max a (-a) = av at *
      generalize 4611686018427387903 / bv = qv at *
      have HBV := Lib.hid hbv
      have HAV := Lib.hid hav
      clear hbv hav hmb hbig hov hb0
      go_enter Try.func121, Try.ntmps121
      go_wp2_with fail
      refine (nabs_any a w HA.out).mono ?_
      rintro e w' ⟨rfl, rfl⟩
      rw [HAV.out]
      go_wp2_with fail
      refine (nabs_any b w HB.out).mono ?_
      rintro e w' ⟨rfl, rfl⟩
      rw [HBV.out]
      go_wp2_with fail
      go_ret2
      exact ⟨rfl, rfl⟩
    · have hle := abs_mul_le (a := a) (b := b) (show max a (-a) * max b (-b) ≤ 4611686018427387903 by omega)
      obtain ⟨p1, p2⟩ := hle
      have hf : Hid (fitV (a * b) = (a * b, 0)) := by
        show _ = _
        unfold fitV
        rw [if_pos]
        simp [isNum]
        omega
      rw [hf.out]
      have hgt : ¬ 4611686018427387903 / max b (-b) < max a (-a) := fun h => hbig (hmb.1 h)
      have htd : (4611686018427387903 : Int).tdiv (max b (-b)) = 4611686018427387903 / max b (-b) := Int.tdiv_eq_ediv_of_nonneg (by omega)
      generalize hbv : max b (-b) = bv at *
      generalize hav : max a (-a) = av at *
      generalize 4611686018427387903 / bv = qv at *
      have HBV := Lib.hid hbv
      have HAV := Lib.hid hav
      clear hbv hav hmb hbig hb0
      go_enter Try.func121, Try.ntmps121
      go_wp2_with fail
      refine (nabs_any a w HA.out).mono ?_
      rintro e w' ⟨rfl, rfl⟩
      rw [HAV.out]
      go_wp2_with fail
      refine (nabs_any b w HB.out).mono ?_
      rintro e w' ⟨rfl, rfl⟩
      rw [HBV.out]
      go_wp2_with fail
      go_ret2
      exact ⟨rfl, rfl⟩
theorem nmul_any (a b : Int) (w : World) (ha : NumB a) (hb : NumB b) : Calls Try.prog 91 #[.int .i64 a, .int .i64 b] w fun e w' => e = .returned (.tuple #[.int .i64 (fitV (a * b)).1, .int .i64 (fitV (a * b)).2]) ∧ w = w' := by
  have HA := Lib.hid ha
  have HB := Lib.hid hb
  have HF := Lib.hid (fun w => nmul1_any a b w ha hb)
  clear ha hb
  generalize fitV (a * b) = r at *
  go_enter Try.func91, Try.ntmps91
  go_wp2_with fail
  refine (nchecked_any a b w HA.out HB.out).mono ?_
  rintro e w' ⟨rfl, rfl⟩
  go_wp2_with fail
  refine (HF.out w).mono ?_
  rintro e w' ⟨rfl, rfl⟩
  go_wp2_with fail
  go_ret2
  exact ⟨rfl, rfl⟩
theorem rmul_any (a b : Int) (w : World) (ha : NumB a) (hb : NumB b) : Calls Try.prog 23 #[.int .i64 a, .int .i64 b] w fun e w' => e = .returned (.tuple #[.int .i64 (fitV (a * b)).1, .int .i64 (fitV (a * b)).2]) ∧ w = w' := by
  have HA := Lib.hid ha
  have HB := Lib.hid hb
  have ha' := ha
  have hb' := hb
  obtain ⟨a1, a2⟩ := ha'
  obtain ⟨b1, b2⟩ := hb'
  clear ha hb
  by_cases ha0 : a = 0
  · subst ha0
    rw [Int.zero_mul]
    have hf : fitV 0 = (0, 0) := rfl
    rw [hf]
    go_enter Try.func23, Try.ntmps23
    go_wp2_with fail
    refine (rboth_any 0 b w HA.out HB.out).mono ?_
    rintro e w' ⟨rfl, rfl⟩
    go_wp2_with fail
    go_ret2
    exact ⟨rfl, rfl⟩
  · have hbe : (a == 0) = false := by simpa using ha0
    have hbn : (a != 0) = true := by simpa using ha0
    have hy : 0 < max a (-a) := by omega
    have hx : 0 ≤ max b (-b) := by omega
    have hmb := mul_big hx hy
    rw [Int.mul_comm (max b (-b))] at hmb
    have hq0 : 0 ≤ 4611686018427387903 / max a (-a) := Int.ediv_nonneg (by omega) (by omega)
    have hq1 : 4611686018427387903 / max a (-a) ≤ 4611686018427387903 := Int.ediv_le_self _ (by omega)
    have htd : (4611686018427387903 : Int).tdiv (max a (-a)) = 4611686018427387903 / max a (-a) := Int.tdiv_eq_ediv_of_nonneg (by omega)
    by_cases hbig : 4611686018427387903 < max a (-a) * max b (-b)
    · have hov := abs_mul_gt (by omega) hbig
      have hf : Hid (fitV (a * b) = (0, 19)) := by
        show _ = _
        unfold fitV
        rw [if_neg]
        simp [isNum]
        omega
      rw [hf.out]
      have hgt := hmb.2 hbig
      generalize hbv : max b (-b) = bv at *
      generalize hav : max a (-a) = av at *
      generalize 4611686018427387903 / av = qv at *
      have HBV := Lib.hid hbv
      have HAV := Lib.hid hav
      clear hbv hav hmb hbig hov ha0
      go_enter Try.func23, Try.ntmps23
      go_wp2_with fail
      refine (rboth_any a b w HA.out HB.out).mono ?_
      rintro e w' ⟨rfl, rfl⟩
      go_wp2_with fail
      refine (r1abs_any b w HB.out).mono ?_
      rintro e w' ⟨rfl, rfl⟩
      rw [HBV.out]
      go_wp2_with fail
      refine (r1abs_any a w HA.out).mono ?_
      rintro e w' ⟨rfl, rfl⟩
      rw [HAV.out]
      go_wp2_with fail
      go_ret2
      exact ⟨rfl, rfl⟩
    · have hle := abs_mul_le (a := a) (b := b) (show max a (-a) * max b (-b) ≤ 4611686018427387903 by omega)
      obtain ⟨p1, p2⟩ := hle
      have hf : Hid (fitV (a * b) = (a * b, 0)) := by
        show _ = _
        unfold fitV
        rw [if_pos]
        simp [isNum]
        omega
      rw [hf.out]
      have hgt : ¬ 4611686018427387903 / max a (-a) < max b (-b) := fun h => hbig (hmb.1 h)
      generalize hbv : max b (-b) = bv at *
      generalize hav : max a (-a) = av at *
      generalize 4611686018427387903 / av = qv at *
      have HBV := Lib.hid hbv
      have HAV := Lib.hid hav
      clear hbv hav hmb hbig ha0
      go_enter Try.func23, Try.ntmps23
      go_wp2_with fail
      refine (rboth_any a b w HA.out HB.out).mono ?_
      rintro e w' ⟨rfl, rfl⟩
      go_wp2_with fail
      refine (r1abs_any b w HB.out).mono ?_
      rintro e w' ⟨rfl, rfl⟩
      rw [HBV.out]
      go_wp2_with fail
      refine (r1abs_any a w HA.out).mono ?_
      rintro e w' ⟨rfl, rfl⟩
      rw [HAV.out]
      go_wp2_with fail
      go_ret2
      exact ⟨rfl, rfl⟩

/-! ### Quotients -/
theorem tdiv_pos {a b : Int} (hb : 0 < b) : (0 ≤ a.tmod b ∧ a.tmod b < b ∧ a / b = a.tdiv b ∧ a % b = a.tmod b) ∨ (a < 0 ∧ -b < a.tmod b ∧ a.tmod b < 0 ∧ a / b = a.tdiv b - 1 ∧ a % b = a.tmod b + b) := by
  by_cases h0 : 0 ≤ a
  · rw [Int.tdiv_eq_ediv_of_nonneg h0, Int.tmod_eq_emod_of_nonneg h0]
    exact .inl ⟨Int.emod_nonneg _ (by omega), Int.emod_lt_of_pos _ hb, rfl, rfl⟩
  · have e1 : a.tdiv b = -((-a) / b) := by
      have := Int.neg_tdiv (-a) b
      rw [Int.neg_neg] at this
      rw [this, Int.tdiv_eq_ediv_of_nonneg (by omega)]
    have e2 : a.tmod b = -((-a) % b) := by
      have := Int.neg_tmod (-a) b
      rw [Int.neg_neg] at this
      rw [this, Int.tmod_eq_emod_of_nonneg (by omega)]
    have h1 := Int.emod_nonneg (-a) (show b ≠ 0 by omega)
    have h2 := Int.emod_lt_of_pos (-a) hb
    have h3 := Int.mul_ediv_add_emod (-a) b
    rw [e1, e2]
    generalize (-a) / b = q at *
    generalize (-a) % b = r at *
    by_cases hr : r = 0
    · left
      have := (Int.ediv_emod_unique (a := a) (q := -q) (r := 0) hb).2 ⟨by rw [Int.mul_neg]; omega, by omega, hb⟩
      exact ⟨by omega, by omega, this.1, by rw [this.2]; omega⟩
    · right
      have := (Int.ediv_emod_unique (a := a) (q := -q - 1) (r := b - r) hb).2 ⟨by rw [Int.mul_sub, Int.mul_neg]; omega, by omega, by omega⟩
      exact ⟨by omega, by omega, by omega, by rw [this.1], by rw [this.2]; omega⟩
theorem div_bd {a b : Int} (ha : NumB a) (hb : 0 < b) : -4611686018427387903 ≤ a / b ∧ a / b ≤ 4611686018427387903 := by
  obtain ⟨h1, h2⟩ := ha
  constructor
  · exact Int.le_ediv_of_mul_le hb (by
      have : -4611686018427387903 * b ≤ -4611686018427387903 * 1 := Int.mul_le_mul_of_nonpos_left (by omega) (by omega)
      omega)
  · rcases Int.le_total 0 a with h | h
    · have := Int.ediv_le_self b h
      omega
    · have : a / b ≤ 0 := by
        have := Int.ediv_le_ediv hb h
        simpa using this
      omega
set_option maxHeartbeats 1000000 in
theorem ndivide_any (a b : Int) (w : World) (ha : NumB a) (hb : 0 < b) (hb2 : b ≤ 4611686018427387903) : Calls Try.prog 118 #[.int .i64 a, .int .i64 b] w fun e w' => e = .returned (.tuple #[.int .i64 (a / b), .int .i64 (a % b), .int .i64 0]) ∧ Ext w w' := by
  have HA := Lib.hid ha
  have HB := Lib.hid (show NumB b from ⟨by omega, hb2⟩)
  have hd := div_bd ha hb
  obtain ⟨a1, a2⟩ := ha
  have hbe : (b == 0) = false := beq_eq_false_iff_ne.2 (by omega)
  rcases tdiv_pos (a := a) hb with ⟨t1, t2, t3, t4⟩ | ⟨t0, t1, t2, t3, t4⟩
  · have hq : a.tdiv b = a / b := t3.symm
    have hr : a.tmod b = a % b := t4.symm
    rw [hr] at t1 t2
    clear t3 t4
    generalize a / b = q at *
    generalize a % b = r at *
    by_cases hr0 : r = 0
    · have hr1 : (r != 0) = false := by simp [hr0]
      have HR0 := Lib.hid hr0
      clear hr0
      go_enter Try.func118, Try.ntmps118
      go_wp2_with fail
      refine (nchecked_any a b w HA.out HB.out).mono ?_
      rintro e w' ⟨rfl, rfl⟩
      go_wp2_with fail
      go_region
      all_goals go_wp2_with fail
      (try simp only [Exit.inBlock, Exit.then])
      refine bodyPost_ret (v := .tuple #[.int .i64 q, .int .i64 r, .int .i64 0]) ?_ rfl ⟨rfl, (Ext.refl w).drew⟩
      simp [results, Try.results118, go_sem]
    · have hr1 : (r != 0) = true := by simpa using hr0
      have hr2 : decide (r < 0) = false := by simp; omega
      have hb3 : decide (b < 0) = false := by simp; omega
      clear hr0
      go_enter Try.func118, Try.ntmps118
      go_wp2_with fail
      refine (nchecked_any a b w HA.out HB.out).mono ?_
      rintro e w' ⟨rfl, rfl⟩
      go_wp2_with fail
      go_region
      all_goals go_wp2_with fail
      (try simp only [Exit.inBlock, Exit.then])
      refine bodyPost_ret (v := .tuple #[.int .i64 q, .int .i64 r, .int .i64 0]) ?_ rfl ⟨rfl, (Ext.refl w).drew⟩
      simp [results, Try.results118, go_sem]
  · rw [t3, t4]
    rw [t3] at hd
    clear t3 t4
    generalize hq : a.tdiv b = q at *
    generalize hr : a.tmod b = r at *
    have hr1 : (r != 0) = true := by simp; omega
    have hb3 : decide (b < 0) = false := by simp; omega
    go_enter Try.func118, Try.ntmps118
    go_wp2_with fail
    refine (nchecked_any a b w HA.out HB.out).mono ?_
    rintro e w' ⟨rfl, rfl⟩
    go_wp2_with fail
    go_region
    all_goals go_wp2_with fail
    (try simp only [Exit.inBlock, Exit.then])
    refine bodyPost_ret (v := .tuple #[.int .i64 (q - 1), .int .i64 (r + b), .int .i64 0]) ?_ rfl ⟨rfl, (Ext.refl w).drew⟩
    simp [results, Try.results118, go_sem]
theorem ndiv_any (a b : Int) (w : World) (ha : NumB a) (hb : 0 < b) (hb2 : b ≤ 4611686018427387903) : Calls Try.prog 89 #[.int .i64 a, .int .i64 b] w fun e w' => e = .returned (.tuple #[.int .i64 (a / b), .int .i64 0]) ∧ Ext w w' := by
  have HD := Lib.hid (ndivide_any a b w ha hb hb2)
  clear ha hb hb2
  generalize a / b = q at *
  generalize a % b = r at *
  go_enter Try.func89, Try.ntmps89
  go_wp2_with fail
  refine HD.out.mono ?_
  rintro e w1 ⟨rfl, hE⟩
  go_wp2_with fail
  go_ret2
  exact ⟨rfl, hE⟩
theorem nmod_any (a b : Int) (w : World) (ha : NumB a) (hb : 0 < b) (hb2 : b ≤ 4611686018427387903) : Calls Try.prog 88 #[.int .i64 a, .int .i64 b] w fun e w' => e = .returned (.tuple #[.int .i64 (a % b), .int .i64 0]) ∧ Ext w w' := by
  have HD := Lib.hid (ndivide_any a b w ha hb hb2)
  clear ha hb hb2
  generalize a / b = q at *
  generalize a % b = r at *
  go_enter Try.func88, Try.ntmps88
  go_wp2_with fail
  refine HD.out.mono ?_
  rintro e w1 ⟨rfl, hE⟩
  go_wp2_with fail
  go_ret2
  exact ⟨rfl, hE⟩
set_option maxHeartbeats 1000000 in
theorem rdiv_any (a b : Int) (w : World) (ha : NumB a) (hb : 0 < b) (hb2 : b ≤ 4611686018427387903) : Calls Try.prog 69 #[.int .i64 a, .int .i64 b] w fun e w' => e = .returned (.tuple #[.int .i64 (a / b), .int .i64 0]) ∧ w = w' := by
  have HA := Lib.hid ha
  have HB := Lib.hid (show NumB b from ⟨by omega, hb2⟩)
  have hd := div_bd ha hb
  obtain ⟨a1, a2⟩ := ha
  have hbe : (b == 0) = false := beq_eq_false_iff_ne.2 (by omega)
  rcases tdiv_pos (a := a) hb with ⟨t1, t2, t3, t4⟩ | ⟨t0, t1, t2, t3, t4⟩
  · have hq : a.tdiv b = a / b := t3.symm
    have hr : a.tmod b = a % b := t4.symm
    rw [hr] at t1 t2
    clear t3
    generalize hqq : a / b = q at *
    generalize hrr : a % b = r at *
    by_cases hr0 : r = 0
    · have hr1 : (r != 0) = false := by simp [hr0]
      have hb3 : decide (b < 0) = false := by simp; omega
      clear hr0 t4
      go_enter Try.func69, Try.ntmps69
      go_wp2_with fail
      refine (rboth_any a b w HA.out HB.out).mono ?_
      rintro e w' ⟨rfl, rfl⟩
      go_wp2_with fail
      go_ret2
      exact ⟨rfl, rfl⟩
    · have hr1 : (r != 0) = true := by simpa using hr0
      have ha0 : decide (a < 0) = false := by
        rw [decide_eq_false_iff_not]
        intro h
        have e2 : a.tmod b = -((-a) % b) := by
          have := Int.neg_tmod (-a) b
          rw [Int.neg_neg] at this
          rw [this, Int.tmod_eq_emod_of_nonneg (by omega)]
        have := Int.emod_nonneg (-a) (show b ≠ 0 by omega)
        omega
      have hb3 : decide (b < 0) = false := by simp; omega
      clear hr0 t4
      go_enter Try.func69, Try.ntmps69
      go_wp2_with fail
      refine (rboth_any a b w HA.out HB.out).mono ?_
      rintro e w' ⟨rfl, rfl⟩
      go_wp2_with fail
      go_ret2
      exact ⟨rfl, rfl⟩
  · rw [t3]
    rw [t3] at hd
    clear t3 t4
    generalize hq : a.tdiv b = q at *
    generalize hr : a.tmod b = r at *
    have hr1 : (r != 0) = true := by simp; omega
    have hbd : decide (b < 0) = false := by simp; omega
    go_enter Try.func69, Try.ntmps69
    go_wp2_with fail
    refine (rboth_any a b w HA.out HB.out).mono ?_
    rintro e w' ⟨rfl, rfl⟩
    go_wp2_with fail
    go_ret2
    exact ⟨rfl, rfl⟩
theorem rmod_any (a b : Int) (w : World) (ha : NumB a) (hb : 0 < b) (hb2 : b ≤ 4611686018427387903) : Calls Try.prog 27 #[.int .i64 a, .int .i64 b] w fun e w' => e = .returned (.tuple #[.int .i64 (a % b), .int .i64 0]) ∧ w = w' := by
  have HD := Lib.hid (rdiv_any a b w ha hb hb2)
  obtain ⟨a1, a2⟩ := ha
  have e1 := Int.mul_ediv_add_emod a b
  have e2 := Int.emod_nonneg a (show b ≠ 0 by omega)
  have e3 := Int.emod_lt_of_pos a hb
  have e4 : a - b * (a / b) = a % b := by omega
  have e6 : -9223372036854775808 ≤ b * (a / b) := by omega
  have e7 : b * (a / b) ≤ 9223372036854775807 := by omega
  clear e1
  generalize a / b = q at *
  generalize a % b = r at *
  obtain ⟨z, hz⟩ : ∃ z, b * q = z := ⟨_, rfl⟩
  rw [hz] at e4 e6 e7
  go_enter Try.func27, Try.ntmps27
  go_wp2_with fail
  refine HD.out.mono ?_
  rintro e w' ⟨rfl, rfl⟩
  go_wp2_with fail
  go_ret2
  exact ⟨rfl, rfl⟩
end Go.Proofs.Ytmpjnjhiklaofaa
