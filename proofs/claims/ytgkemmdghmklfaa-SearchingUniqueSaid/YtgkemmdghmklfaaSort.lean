/-
  THE WALK of slices.insertionSortCmpFunc over a row of numbers of the call's own. (Printed by gen_sort.py.)
-/
import Derived.Test.YtgkemmdghmklfaaOrdB
import Derived.Test.YtgkemmdghmklfaaRegY
import Derived.BigRegion
namespace Go.Proofs.Ytgkemmdghmklfaa
set_option linter.unusedSimpArgs false
set_option linter.unusedVariables false
open Go.RowKit

/-- Places j + 1 and j exchanged. -/
def swpL (xs : List Int) (j : Nat) : List Int := (xs.set (j + 1) (xs.getD j 0)).set j (xs.getD (j + 1) 0)
def insIn (cf : Int → Int → Int) (a : Nat) : Nat → List Int → List Int
  | 0, xs => xs
  | j + 1, xs => if a < j + 1 ∧ cf (xs.getD (j + 1) 0) (xs.getD j 0) < 0 then insIn cf a j (swpL xs j) else xs
def insOut (cf : Int → Int → Int) (a : Nat) : Nat → Nat → List Int → List Int
  | 0, _, xs => xs
  | m + 1, i, xs => insOut cf a m (i + 1) (insIn cf a i xs)
theorem swpL_len (xs : List Int) (j : Nat) : (swpL xs j).length = xs.length := by simp [swpL]
theorem swpL_mem {xs : List Int} {j : Nat} (h : j + 1 < xs.length) {P : Int → Prop} (hP : ∀ x ∈ xs, P x) : ∀ x ∈ swpL xs j, P x := by
  intro x hx
  unfold swpL at hx
  rcases List.mem_or_eq_of_mem_set hx with h1 | h1
  · rcases List.mem_or_eq_of_mem_set h1 with h2 | h2
    · exact hP x h2
    · rw [h2]; exact hP _ (by simp [List.getD, show j < xs.length by omega])
  · rw [h1]; exact hP _ (by simp [List.getD, h])

set_option maxRecDepth 1000000 in
set_option maxHeartbeats 16000000 in
theorem inssort_any (cf : Int → Int → Int) (wB : World) (lv : Value) (N : Int)
    (hcmp : ∀ (w' : World) (x y : Int), Ext wB w' → 0 ≤ x → x < N → 0 ≤ y → y < N → Calls Try.prog 102 #[lv, .int .i64 x, .int .i64 y] w' fun e w'' => e = .returned (.int .i64 (cf x y)) ∧ Ext w' w'')
    (xs : List Int) (g n c a b : Nat) (w : World) (hO : OwnI wB.heap.size (fun _ => False) w (.slice (some ⟨g, 0, none⟩) n c) n xs) (hE : Ext wB w) (hok : ∀ x ∈ xs, 0 ≤ x ∧ x < N) (hab : a ≤ b) (hbn : b ≤ n) (hn : n ≤ 65536) :
    Calls Try.prog 163 #[.slice (some ⟨g, 0, none⟩) n c, .int .i64 (a : Int), .int .i64 (b : Int), .func (.func 102) #[lv] #[]] w fun e w' => e = .returned (.tuple #[]) ∧ OwnI wB.heap.size (fun _ => False) w' (.slice (some ⟨g, 0, none⟩) n c) n (insOut cf a (b - (a + 1)) (a + 1) xs) ∧ Ext wB w' := by
  generalize hans : insOut cf a (b - (a + 1)) (a + 1) xs = ans
  have HANS := Lib.hid hans
  have HCMP := Lib.hid hcmp
  have HO := Lib.hid hO
  have HE := Lib.hid hE
  have HOK := Lib.hid hok
  clear hans hcmp hO hE hok
  go_enter Try.func163, Try.ntmps163
  go_wp2_with fail
  go_loopw [8] (fun iv wr => ∃ (i : Nat) (xs2 : List Int), iv = .int .i64 (i : Int) ∧ a < i ∧ i ≤ n + 1 ∧ OwnI wB.heap.size (fun _ => False) wr (.slice (some ⟨g, 0, none⟩) n c) n xs2 ∧ Ext wB wr ∧ Hid (∀ x ∈ xs2, 0 ≤ x ∧ x < N) ∧ Hid (insOut cf a (b - i) i xs2 = ans)) (fun iv _ => b - (intOf iv).toNat)
  case atStart => exact ⟨a + 1, xs, by go_num, by omega, by omega, HO.out, HE.out, HOK, HANS⟩
  case round =>
  clear HO HE HOK HANS
  obtain ⟨i, xs2, rfl, hai, hin, hO, hE, HOK, HANS⟩ := hrel
  have HO := Lib.hid hO
  have HE := Lib.hid hE
  clear hO hE
  by_cases hib : i < b
  rotate_left
  · have hans := HANS.out
    rw [show b - i = 0 by omega, insOut] at hans
    subst hans
    clear HANS
    go_wp2_with fail
    go_end0
    exact ⟨rfl, HO.out, HE.out⟩
  have hans := HANS.out
  rw [show b - i = (b - (i + 1)) + 1 by omega, insOut] at hans
  have HANS2 := Lib.hid hans
  clear hans HANS
  obtain ⟨wo, rfl⟩ : ∃ wx : World, wx = wr := ⟨_, rfl⟩
  go_wp2_with fail
  go_loopw [9] (fun jv wr => ∃ (j : Nat) (xs3 : List Int), jv = .int .i64 (j : Int) ∧ j ≤ i ∧ OwnI wB.heap.size (fun _ => False) wr (.slice (some ⟨g, 0, none⟩) n c) n xs3 ∧ Ext wB wr ∧ Hid (∀ x ∈ xs3, 0 ≤ x ∧ x < N) ∧ Hid (insIn cf a j xs3 = insIn cf a i xs2)) (fun jv _ => (intOf jv).toNat)
  case atStart => exact ⟨i, xs2, rfl, Nat.le_refl _, HO.out, HE.out, HOK, Lib.hid rfl⟩
  case round =>
  clear HO HE HOK
  obtain ⟨j, xs3, rfl, hji, hO, hE, HOK, HIN⟩ := hrel
  have HO := Lib.hid hO
  have HE := Lib.hid hE
  clear hO hE
  by_cases haj : a < j
  rotate_left
  · have hin2 : insIn cf a j xs3 = xs3 := by
      cases j with
      | zero => rfl
      | succ q => rw [insIn, if_neg (by omega)]
    have hd : decide ((a : Int) < (j : Int)) = false := by simp; omega
    have HX := Lib.hid (show xs3 = insIn cf a i xs2 by rw [← HIN.out, hin2])
    clear hin2 HIN
    go_wp2_with fail
    go_quiet (fail)
    have hE2 := HE.out.trans ((Ext.refl wr).drewN nq)
    have hO2 := HO.out.ext ((Ext.refl wr).drewN nq)
    rw [HX.out] at hO2 HOK
    clear HE HO HX hd
    go_wp2_with fail
    go_roundw
    case rel => exact ⟨i + 1, _, by go_num, by omega, by omega, hO2, hE2, HOK, HANS2⟩
    case measure => simp [intOf]; omega
  obtain ⟨q, hq⟩ : ∃ q, j = q + 1 := ⟨j - 1, by omega⟩
  have hxl := HO.out.1
  obtain ⟨g1, eg1, _, _, cx, fx, sx⟩ := HO.out.at' (j := j) (by omega)
  cases eg1
  obtain ⟨g2, eg2, _, _, cy, fy, _⟩ := HO.out.at' (j := q) (by omega)
  cases eg2
  have hok1 := HOK.out (xs3.getD j 0) (by simp [List.getD, show j < xs3.length by omega])
  have hok2 := HOK.out (xs3.getD q 0) (by simp [List.getD, show q < xs3.length by omega])
  have hxb := HO.out.2.2.2.2 (xs3.getD j 0) (by simp [List.getD, show j < xs3.length by omega])
  have hyb := HO.out.2.2.2.2 (xs3.getD q 0) (by simp [List.getD, show q < xs3.length by omega])
  have hin2 : insIn cf a j xs3 = if cf (xs3.getD j 0) (xs3.getD q 0) < 0 then insIn cf a q (swpL xs3 q) else xs3 := by
    subst hq
    rw [insIn]
    by_cases hc : cf (xs3.getD (q + 1) 0) (xs3.getD q 0) < 0
    · rw [if_pos ⟨haj, hc⟩, if_pos hc]
    · rw [if_neg (fun h => hc h.2), if_neg hc]
  have HCXY := Lib.hid (fun (w' : World) (e : Ext wB w') => HCMP.out w' (xs3.getD j 0) (xs3.getD q 0) e hok1.1 hok1.2 hok2.1 hok2.2)
  have HSW := Lib.hid (show swpL xs3 q = (xs3.set j (xs3.getD q 0)).set q (xs3.getD j 0) by rw [hq]; rfl)
  generalize xs3.getD j 0 = x at *
  generalize xs3.getD q 0 = y at *
  generalize cf x y = z at *
  have hjq : (j : Int) - 1 = (q : Int) := by omega
  have hwj : IntKind.i64.wrap ((j : Int) - 1) = (q : Int) := by rw [hjq]; exact IntWalk.i64_in _ (by omega)
  have hjn : j < n := by omega
  have hqi : q ≤ i := by omega
  have hqn : q < n := by omega
  have HQ := Lib.hid hq
  have hajI : (a : Int) < (j : Int) := by omega
  have HIN2 := Lib.hid hin2
  have HXL := Lib.hid hxl
  have CX := Lib.hid cx
  have CY := Lib.hid cy
  have FX := Lib.hid fx
  have FY := Lib.hid fy
  clear hq hin2 hxl sx hji cx cy fx fy
  have HER := Lib.hid (Ext.refl wr)
  clear hok1 hok2
  go_wp2_with fail
  by_cases hz : z < 0
  · have hzd : decide (z < 0) = true := by simpa using hz
    have HIN3 := Lib.hid (show insIn cf a q (swpL xs3 q) = insIn cf a i xs2 by rw [← HIN.out, HIN2.out, if_pos hz])
    refine wp_region_x0 [MProp.is (.int .i64 (j : Int)), MProp.is (.int .i64 (a : Int)), MProp.is (.bool true), MProp.is (.bool true), MProp.is (.func (.func 102) #[lv] #[]), MProp.is (.slice (some ⟨g, 0, none⟩) n c), MProp.is (.int .i64 (j : Int)), MProp.is (.pointer (some ⟨g, j, none⟩)), MProp.is (.int .i64 x), MProp.is (.slice (some ⟨g, 0, none⟩) n c), MProp.is (.int .i64 (j : Int)), MProp.is (.int .i64 (q : Int)), MProp.is (.pointer (some ⟨g, q, none⟩)), MProp.is (.int .i64 y), MProp.is (.int .i64 z), MProp.is (.bool true), MProp.is (.bool true)] [0, 1, 2, 3, 4, 5, 6, 7, 8, 9, 10, 11, 12, 13, 14, 15, 16] [] [18, 19, 20, 21, 22, 23, 24, 25, 26, 27, 28, 29, 30, 31, 32, 33, 34] (by kernel_rfl) (by kernel_rfl) (by kernel_rfl) ?_ ?_ ?_
    · refine mem_cons_m ?_ (mem_cons_m ?_ (mem_cons_m ?_ (mem_cons_m ?_ (mem_cons_m ?_ (mem_cons_m ?_ (mem_cons_m ?_ (mem_cons_m ?_ (mem_cons_m ?_ (mem_cons_m ?_ (mem_cons_m ?_ (mem_cons_m ?_ (mem_cons_m ?_ (mem_cons_m ?_ (mem_cons_m ?_ (mem_cons_m ?_ (mem_cons_m ?_ (mem_nil_m)))))))))))))))))
      · refine ⟨_, 18, rfl, by kernel_rfl, ?_⟩
        intro u w9 X hE hX hd K hK
        clear hd
        simp only [overlay, List.setIfInBounds_toArray, List.set] at hK ⊢
        go_wp2_with fail
        exact hK _ _ X (Ext.refl _) kept_m hX rfl
      · refine ⟨_, 19, rfl, by kernel_rfl, ?_⟩
        intro u w9 X hE hX hd K hK
        clear hd
        simp only [overlay, List.setIfInBounds_toArray, List.set] at hK ⊢
        go_wp2_with fail
        exact hK _ _ X (Ext.refl _) kept_m hX rfl
      · refine ⟨_, 20, rfl, by kernel_rfl, ?_⟩
        intro u w9 X hE hX hd K hK
        have d0 : u 18 = .int .i64 (j : Int) := hd 0 (by kernel_rfl)
        have d1 : u 19 = .int .i64 (a : Int) := hd 1 (by kernel_rfl)
        clear hd
        simp only [overlay, List.setIfInBounds_toArray, List.set, d0, d1] at hK ⊢
        go_wp2_with fail
        exact hK _ _ X (Ext.refl _) kept_m hX rfl
      · refine ⟨_, 21, rfl, by kernel_rfl, ?_⟩
        intro u w9 X hE hX hd K hK
        have d2 : u 20 = .bool true := hd 2 (by kernel_rfl)
        clear hd
        simp only [overlay, List.setIfInBounds_toArray, List.set, d2] at hK ⊢
        go_wp2_with fail
        exact hK _ _ X (Ext.refl _) kept_m hX rfl
      · refine ⟨_, 22, rfl, by kernel_rfl, ?_⟩
        intro u w9 X hE hX hd K hK
        have d3 : u 21 = .bool true := hd 3 (by kernel_rfl)
        clear hd
        simp only [overlay, List.setIfInBounds_toArray, List.set, d3] at hK ⊢
        go_wp2_with fail
        exact hK _ _ X (Ext.refl _) kept_m hX rfl
      · refine ⟨_, 23, rfl, by kernel_rfl, ?_⟩
        intro u w9 X hE hX hd K hK
        have d3 : u 21 = .bool true := hd 3 (by kernel_rfl)
        clear hd
        simp only [overlay, List.setIfInBounds_toArray, List.set, d3] at hK ⊢
        go_wp2_with fail
        exact hK _ _ X (Ext.refl _) kept_m hX rfl
      · refine ⟨_, 24, rfl, by kernel_rfl, ?_⟩
        intro u w9 X hE hX hd K hK
        have d3 : u 21 = .bool true := hd 3 (by kernel_rfl)
        clear hd
        simp only [overlay, List.setIfInBounds_toArray, List.set, d3] at hK ⊢
        go_wp2_with fail
        exact hK _ _ X (Ext.refl _) kept_m hX rfl
      · refine ⟨_, 25, rfl, by kernel_rfl, ?_⟩
        intro u w9 X hE hX hd K hK
        have d5 : u 23 = .slice (some ⟨g, 0, none⟩) n c := hd 5 (by kernel_rfl)
        have d6 : u 24 = .int .i64 (j : Int) := hd 6 (by kernel_rfl)
        have d3 : u 21 = .bool true := hd 3 (by kernel_rfl)
        clear hd
        simp only [overlay, List.setIfInBounds_toArray, List.set, d5, d6, d3] at hK ⊢
        go_wp2_with fail
        exact hK _ _ X (Ext.refl _) kept_m hX rfl
      · refine ⟨_, 26, rfl, by kernel_rfl, ?_⟩
        intro u w9 X hE hX hd K hK
        have d7 : u 25 = .pointer (some ⟨g, j, none⟩) := hd 7 (by kernel_rfl)
        have d3 : u 21 = .bool true := hd 3 (by kernel_rfl)
        clear hd
        simp only [overlay, List.setIfInBounds_toArray, List.set, d7, d3] at hK ⊢
        have e9 : Ext wr w9 := (Ext.refl wr).drew.trans hE
        have a9 := e9.cell CX.out
        go_wp2_with fail
        exact hK _ _ X (Ext.refl _) kept_m hX rfl
      · refine ⟨_, 27, rfl, by kernel_rfl, ?_⟩
        intro u w9 X hE hX hd K hK
        have d3 : u 21 = .bool true := hd 3 (by kernel_rfl)
        clear hd
        simp only [overlay, List.setIfInBounds_toArray, List.set, d3] at hK ⊢
        go_wp2_with fail
        exact hK _ _ X (Ext.refl _) kept_m hX rfl
      · refine ⟨_, 28, rfl, by kernel_rfl, ?_⟩
        intro u w9 X hE hX hd K hK
        have d3 : u 21 = .bool true := hd 3 (by kernel_rfl)
        clear hd
        simp only [overlay, List.setIfInBounds_toArray, List.set, d3] at hK ⊢
        go_wp2_with fail
        exact hK _ _ X (Ext.refl _) kept_m hX rfl
      · refine ⟨_, 29, rfl, by kernel_rfl, ?_⟩
        intro u w9 X hE hX hd K hK
        have d10 : u 28 = .int .i64 (j : Int) := hd 10 (by kernel_rfl)
        have d3 : u 21 = .bool true := hd 3 (by kernel_rfl)
        clear hd
        simp only [overlay, List.setIfInBounds_toArray, List.set, d10, d3] at hK ⊢
        go_wp2_with fail
        exact hK _ _ X (Ext.refl _) kept_m hX rfl
      · refine ⟨_, 30, rfl, by kernel_rfl, ?_⟩
        intro u w9 X hE hX hd K hK
        have d9 : u 27 = .slice (some ⟨g, 0, none⟩) n c := hd 9 (by kernel_rfl)
        have d11 : u 29 = .int .i64 (q : Int) := hd 11 (by kernel_rfl)
        have d3 : u 21 = .bool true := hd 3 (by kernel_rfl)
        clear hd
        simp only [overlay, List.setIfInBounds_toArray, List.set, d9, d11, d3] at hK ⊢
        go_wp2_with fail
        exact hK _ _ X (Ext.refl _) kept_m hX rfl
      · refine ⟨_, 31, rfl, by kernel_rfl, ?_⟩
        intro u w9 X hE hX hd K hK
        have d12 : u 30 = .pointer (some ⟨g, q, none⟩) := hd 12 (by kernel_rfl)
        have d3 : u 21 = .bool true := hd 3 (by kernel_rfl)
        clear hd
        simp only [overlay, List.setIfInBounds_toArray, List.set, d12, d3] at hK ⊢
        have e9 : Ext wr w9 := (Ext.refl wr).drew.trans hE
        have a9 := e9.cell CY.out
        go_wp2_with fail
        exact hK _ _ X (Ext.refl _) kept_m hX rfl
      · refine ⟨_, 32, rfl, by kernel_rfl, ?_⟩
        intro u w9 X hE hX hd K hK
        have d4 : u 22 = .func (.func 102) #[lv] #[] := hd 4 (by kernel_rfl)
        have d8 : u 26 = .int .i64 x := hd 8 (by kernel_rfl)
        have d13 : u 31 = .int .i64 y := hd 13 (by kernel_rfl)
        have d3 : u 21 = .bool true := hd 3 (by kernel_rfl)
        clear hd
        simp only [overlay, List.setIfInBounds_toArray, List.set, d4, d8, d13, d3] at hK ⊢
        have e9 : Ext wr w9 := (Ext.refl wr).drew.trans hE
        go_wp2_with fail
        refine (HCXY.out w9 (HE.out.trans e9)).mono ?_
        rintro e w8 ⟨rfl, hE8⟩
        go_wp2_with fail
        exact hK _ _ X hE8 kept_m (hX.ext hE8) rfl
      · refine ⟨_, 33, rfl, by kernel_rfl, ?_⟩
        intro u w9 X hE hX hd K hK
        have d14 : u 32 = .int .i64 z := hd 14 (by kernel_rfl)
        have d3 : u 21 = .bool true := hd 3 (by kernel_rfl)
        clear hd
        simp only [overlay, List.setIfInBounds_toArray, List.set, d14, d3] at hK ⊢
        go_wp2_with fail
        exact hK _ _ X (Ext.refl _) kept_m hX rfl
      · refine ⟨_, 34, rfl, by kernel_rfl, ?_⟩
        intro u w9 X hE hX hd K hK
        have d3 : u 21 = .bool true := hd 3 (by kernel_rfl)
        have d15 : u 33 = .bool true := hd 15 (by kernel_rfl)
        clear hd
        simp only [overlay, List.setIfInBounds_toArray, List.set, d3, d15] at hK ⊢
        go_wp2_with fail
        exact hK _ _ X (Ext.refl _) kept_m hX rfl
    · exact mem_nil_m
    intro u w9 X hE hX hd
    have d0 : u 18 = .int .i64 (j : Int) := hd 0 (by decide)
    have d1 : u 19 = .int .i64 (a : Int) := hd 1 (by decide)
    have d2 : u 20 = .bool true := hd 2 (by decide)
    have d3 : u 21 = .bool true := hd 3 (by decide)
    have d4 : u 22 = .func (.func 102) #[lv] #[] := hd 4 (by decide)
    have d5 : u 23 = .slice (some ⟨g, 0, none⟩) n c := hd 5 (by decide)
    have d6 : u 24 = .int .i64 (j : Int) := hd 6 (by decide)
    have d7 : u 25 = .pointer (some ⟨g, j, none⟩) := hd 7 (by decide)
    have d8 : u 26 = .int .i64 x := hd 8 (by decide)
    have d9 : u 27 = .slice (some ⟨g, 0, none⟩) n c := hd 9 (by decide)
    have d10 : u 28 = .int .i64 (j : Int) := hd 10 (by decide)
    have d11 : u 29 = .int .i64 (q : Int) := hd 11 (by decide)
    have d12 : u 30 = .pointer (some ⟨g, q, none⟩) := hd 12 (by decide)
    have d13 : u 31 = .int .i64 y := hd 13 (by decide)
    have d14 : u 32 = .int .i64 z := hd 14 (by decide)
    have d15 : u 33 = .bool true := hd 15 (by decide)
    have d16 : u 34 = .bool true := hd 16 (by decide)
    clear hd
    simp only [overlay, List.setIfInBounds_toArray, List.set, d0, d1, d2, d3, d4, d5, d6, d7, d8, d9, d10, d11, d12, d13, d14, d15, d16]
    have e9 : Ext wr w9 := (Ext.refl wr).drew.trans hE
    clear d0 d1 d2 d3 d4 d5 d6 d7 d8 d9 d10 d11 d12 d13 d14 d15 d16
    clear hX hE
    generalize u 26 = t26z1
    generalize u 31 = t31z1
    clear u
    obtain ⟨wk2, rfl⟩ : ∃ wx : World, wx = w9 := ⟨_, rfl⟩
    replace HO := Lib.hid (HO.out.ext e9)
    replace HER := Lib.hid (HER.out.trans (e9))
    replace HE := Lib.hid (HE.out.trans (e9))
    clear e9
    go_wp2_with fail
    have cx := HER.out.cell CX.out
    have cy := HER.out.cell CY.out
    obtain ⟨g1, eg1, hBg, hgl, _, fx, sx⟩ := HO.out.at' (j := j) (by omega)
    cases eg1
    have hO1 := sx y hyb
    obtain ⟨g2, eg2, _, _, cy2, fy, sy⟩ := hO1.at' (j := q) (by omega)
    cases eg2
    have hO2 := (sy x hxb).ext (Ext.refl _).drew
    rw [← HSW.out] at hO2
    have hE2 : Ext wB (((wk2.setCell ⟨g, j, none⟩ (.int .i64 y)).setCell ⟨g, q, none⟩ (.int .i64 x)).drew) := (((HE.out.setCell (p := ⟨g, j, none⟩) hBg _).setCell (p := ⟨g, q, none⟩) hBg _)).drew
    have hok3 : ∀ v ∈ swpL xs3 q, 0 ≤ v ∧ v < N := swpL_mem (by have := HXL.out; have := HQ.out; omega) HOK.out
    have fy0 : wk2.frozen? ⟨g, q, none⟩ = false := by
      obtain ⟨g3, eg3, _, _, _, f3, _⟩ := HO.out.at' (j := q) (by omega)
      cases eg3
      exact f3
    have HO2 := Lib.hid hO2
    have HE2 := Lib.hid hE2
    have HOK3 := Lib.hid hok3
    clear hO1 sx sy hO2 hE2 hok3 HO HE HOK CX CY FX FY hzd hz HER HCXY
    go_big_region
    generalize ((wk2.setCell ⟨g, j, none⟩ (.int .i64 y)).setCell ⟨g, q, none⟩ (.int .i64 x)).drew = w7 at HO2 HE2 ⊢
    clear cx cy cy2 fx fy fy0
    (try simp only [Exit.inBlock, Exit.then])
    go_wp2_with fail
    go_roundw
    case rel => exact ⟨q, _, by go_num, by omega, HO2.out, HE2.out, HOK3, HIN3⟩
    case measure => simp [intOf]; omega
  · have hzd : decide (z < 0) = false := by simpa using hz
    have HIN3 := Lib.hid (show xs3 = insIn cf a i xs2 by rw [← HIN.out, HIN2.out, if_neg hz])
    refine wp_region_x0 [MProp.is (.int .i64 (j : Int)), MProp.is (.int .i64 (a : Int)), MProp.is (.bool true), MProp.is (.bool true), MProp.is (.func (.func 102) #[lv] #[]), MProp.is (.slice (some ⟨g, 0, none⟩) n c), MProp.is (.int .i64 (j : Int)), MProp.is (.pointer (some ⟨g, j, none⟩)), MProp.is (.int .i64 x), MProp.is (.slice (some ⟨g, 0, none⟩) n c), MProp.is (.int .i64 (j : Int)), MProp.is (.int .i64 (q : Int)), MProp.is (.pointer (some ⟨g, q, none⟩)), MProp.is (.int .i64 y), MProp.is (.int .i64 z), MProp.is (.bool false), MProp.is (.bool false)] [0, 1, 2, 3, 4, 5, 6, 7, 8, 9, 10, 11, 12, 13, 14, 15, 16] [] [18, 19, 20, 21, 22, 23, 24, 25, 26, 27, 28, 29, 30, 31, 32, 33, 34] (by kernel_rfl) (by kernel_rfl) (by kernel_rfl) ?_ ?_ ?_
    · refine mem_cons_m ?_ (mem_cons_m ?_ (mem_cons_m ?_ (mem_cons_m ?_ (mem_cons_m ?_ (mem_cons_m ?_ (mem_cons_m ?_ (mem_cons_m ?_ (mem_cons_m ?_ (mem_cons_m ?_ (mem_cons_m ?_ (mem_cons_m ?_ (mem_cons_m ?_ (mem_cons_m ?_ (mem_cons_m ?_ (mem_cons_m ?_ (mem_cons_m ?_ (mem_nil_m)))))))))))))))))
      · refine ⟨_, 18, rfl, by kernel_rfl, ?_⟩
        intro u w9 X hE hX hd K hK
        clear hd
        simp only [overlay, List.setIfInBounds_toArray, List.set] at hK ⊢
        go_wp2_with fail
        exact hK _ _ X (Ext.refl _) kept_m hX rfl
      · refine ⟨_, 19, rfl, by kernel_rfl, ?_⟩
        intro u w9 X hE hX hd K hK
        clear hd
        simp only [overlay, List.setIfInBounds_toArray, List.set] at hK ⊢
        go_wp2_with fail
        exact hK _ _ X (Ext.refl _) kept_m hX rfl
      · refine ⟨_, 20, rfl, by kernel_rfl, ?_⟩
        intro u w9 X hE hX hd K hK
        have d0 : u 18 = .int .i64 (j : Int) := hd 0 (by kernel_rfl)
        have d1 : u 19 = .int .i64 (a : Int) := hd 1 (by kernel_rfl)
        clear hd
        simp only [overlay, List.setIfInBounds_toArray, List.set, d0, d1] at hK ⊢
        go_wp2_with fail
        exact hK _ _ X (Ext.refl _) kept_m hX rfl
      · refine ⟨_, 21, rfl, by kernel_rfl, ?_⟩
        intro u w9 X hE hX hd K hK
        have d2 : u 20 = .bool true := hd 2 (by kernel_rfl)
        clear hd
        simp only [overlay, List.setIfInBounds_toArray, List.set, d2] at hK ⊢
        go_wp2_with fail
        exact hK _ _ X (Ext.refl _) kept_m hX rfl
      · refine ⟨_, 22, rfl, by kernel_rfl, ?_⟩
        intro u w9 X hE hX hd K hK
        have d3 : u 21 = .bool true := hd 3 (by kernel_rfl)
        clear hd
        simp only [overlay, List.setIfInBounds_toArray, List.set, d3] at hK ⊢
        go_wp2_with fail
        exact hK _ _ X (Ext.refl _) kept_m hX rfl
      · refine ⟨_, 23, rfl, by kernel_rfl, ?_⟩
        intro u w9 X hE hX hd K hK
        have d3 : u 21 = .bool true := hd 3 (by kernel_rfl)
        clear hd
        simp only [overlay, List.setIfInBounds_toArray, List.set, d3] at hK ⊢
        go_wp2_with fail
        exact hK _ _ X (Ext.refl _) kept_m hX rfl
      · refine ⟨_, 24, rfl, by kernel_rfl, ?_⟩
        intro u w9 X hE hX hd K hK
        have d3 : u 21 = .bool true := hd 3 (by kernel_rfl)
        clear hd
        simp only [overlay, List.setIfInBounds_toArray, List.set, d3] at hK ⊢
        go_wp2_with fail
        exact hK _ _ X (Ext.refl _) kept_m hX rfl
      · refine ⟨_, 25, rfl, by kernel_rfl, ?_⟩
        intro u w9 X hE hX hd K hK
        have d5 : u 23 = .slice (some ⟨g, 0, none⟩) n c := hd 5 (by kernel_rfl)
        have d6 : u 24 = .int .i64 (j : Int) := hd 6 (by kernel_rfl)
        have d3 : u 21 = .bool true := hd 3 (by kernel_rfl)
        clear hd
        simp only [overlay, List.setIfInBounds_toArray, List.set, d5, d6, d3] at hK ⊢
        go_wp2_with fail
        exact hK _ _ X (Ext.refl _) kept_m hX rfl
      · refine ⟨_, 26, rfl, by kernel_rfl, ?_⟩
        intro u w9 X hE hX hd K hK
        have d7 : u 25 = .pointer (some ⟨g, j, none⟩) := hd 7 (by kernel_rfl)
        have d3 : u 21 = .bool true := hd 3 (by kernel_rfl)
        clear hd
        simp only [overlay, List.setIfInBounds_toArray, List.set, d7, d3] at hK ⊢
        have e9 : Ext wr w9 := (Ext.refl wr).drew.trans hE
        have a9 := e9.cell CX.out
        go_wp2_with fail
        exact hK _ _ X (Ext.refl _) kept_m hX rfl
      · refine ⟨_, 27, rfl, by kernel_rfl, ?_⟩
        intro u w9 X hE hX hd K hK
        have d3 : u 21 = .bool true := hd 3 (by kernel_rfl)
        clear hd
        simp only [overlay, List.setIfInBounds_toArray, List.set, d3] at hK ⊢
        go_wp2_with fail
        exact hK _ _ X (Ext.refl _) kept_m hX rfl
      · refine ⟨_, 28, rfl, by kernel_rfl, ?_⟩
        intro u w9 X hE hX hd K hK
        have d3 : u 21 = .bool true := hd 3 (by kernel_rfl)
        clear hd
        simp only [overlay, List.setIfInBounds_toArray, List.set, d3] at hK ⊢
        go_wp2_with fail
        exact hK _ _ X (Ext.refl _) kept_m hX rfl
      · refine ⟨_, 29, rfl, by kernel_rfl, ?_⟩
        intro u w9 X hE hX hd K hK
        have d10 : u 28 = .int .i64 (j : Int) := hd 10 (by kernel_rfl)
        have d3 : u 21 = .bool true := hd 3 (by kernel_rfl)
        clear hd
        simp only [overlay, List.setIfInBounds_toArray, List.set, d10, d3] at hK ⊢
        go_wp2_with fail
        exact hK _ _ X (Ext.refl _) kept_m hX rfl
      · refine ⟨_, 30, rfl, by kernel_rfl, ?_⟩
        intro u w9 X hE hX hd K hK
        have d9 : u 27 = .slice (some ⟨g, 0, none⟩) n c := hd 9 (by kernel_rfl)
        have d11 : u 29 = .int .i64 (q : Int) := hd 11 (by kernel_rfl)
        have d3 : u 21 = .bool true := hd 3 (by kernel_rfl)
        clear hd
        simp only [overlay, List.setIfInBounds_toArray, List.set, d9, d11, d3] at hK ⊢
        go_wp2_with fail
        exact hK _ _ X (Ext.refl _) kept_m hX rfl
      · refine ⟨_, 31, rfl, by kernel_rfl, ?_⟩
        intro u w9 X hE hX hd K hK
        have d12 : u 30 = .pointer (some ⟨g, q, none⟩) := hd 12 (by kernel_rfl)
        have d3 : u 21 = .bool true := hd 3 (by kernel_rfl)
        clear hd
        simp only [overlay, List.setIfInBounds_toArray, List.set, d12, d3] at hK ⊢
        have e9 : Ext wr w9 := (Ext.refl wr).drew.trans hE
        have a9 := e9.cell CY.out
        go_wp2_with fail
        exact hK _ _ X (Ext.refl _) kept_m hX rfl
      · refine ⟨_, 32, rfl, by kernel_rfl, ?_⟩
        intro u w9 X hE hX hd K hK
        have d4 : u 22 = .func (.func 102) #[lv] #[] := hd 4 (by kernel_rfl)
        have d8 : u 26 = .int .i64 x := hd 8 (by kernel_rfl)
        have d13 : u 31 = .int .i64 y := hd 13 (by kernel_rfl)
        have d3 : u 21 = .bool true := hd 3 (by kernel_rfl)
        clear hd
        simp only [overlay, List.setIfInBounds_toArray, List.set, d4, d8, d13, d3] at hK ⊢
        have e9 : Ext wr w9 := (Ext.refl wr).drew.trans hE
        go_wp2_with fail
        refine (HCXY.out w9 (HE.out.trans e9)).mono ?_
        rintro e w8 ⟨rfl, hE8⟩
        go_wp2_with fail
        exact hK _ _ X hE8 kept_m (hX.ext hE8) rfl
      · refine ⟨_, 33, rfl, by kernel_rfl, ?_⟩
        intro u w9 X hE hX hd K hK
        have d14 : u 32 = .int .i64 z := hd 14 (by kernel_rfl)
        have d3 : u 21 = .bool true := hd 3 (by kernel_rfl)
        clear hd
        simp only [overlay, List.setIfInBounds_toArray, List.set, d14, d3] at hK ⊢
        go_wp2_with fail
        exact hK _ _ X (Ext.refl _) kept_m hX rfl
      · refine ⟨_, 34, rfl, by kernel_rfl, ?_⟩
        intro u w9 X hE hX hd K hK
        have d3 : u 21 = .bool true := hd 3 (by kernel_rfl)
        have d15 : u 33 = .bool false := hd 15 (by kernel_rfl)
        clear hd
        simp only [overlay, List.setIfInBounds_toArray, List.set, d3, d15] at hK ⊢
        go_wp2_with fail
        exact hK _ _ X (Ext.refl _) kept_m hX rfl
    · exact mem_nil_m
    intro u w9 X hE hX hd
    have d0 : u 18 = .int .i64 (j : Int) := hd 0 (by decide)
    have d1 : u 19 = .int .i64 (a : Int) := hd 1 (by decide)
    have d2 : u 20 = .bool true := hd 2 (by decide)
    have d3 : u 21 = .bool true := hd 3 (by decide)
    have d4 : u 22 = .func (.func 102) #[lv] #[] := hd 4 (by decide)
    have d5 : u 23 = .slice (some ⟨g, 0, none⟩) n c := hd 5 (by decide)
    have d6 : u 24 = .int .i64 (j : Int) := hd 6 (by decide)
    have d7 : u 25 = .pointer (some ⟨g, j, none⟩) := hd 7 (by decide)
    have d8 : u 26 = .int .i64 x := hd 8 (by decide)
    have d9 : u 27 = .slice (some ⟨g, 0, none⟩) n c := hd 9 (by decide)
    have d10 : u 28 = .int .i64 (j : Int) := hd 10 (by decide)
    have d11 : u 29 = .int .i64 (q : Int) := hd 11 (by decide)
    have d12 : u 30 = .pointer (some ⟨g, q, none⟩) := hd 12 (by decide)
    have d13 : u 31 = .int .i64 y := hd 13 (by decide)
    have d14 : u 32 = .int .i64 z := hd 14 (by decide)
    have d15 : u 33 = .bool false := hd 15 (by decide)
    have d16 : u 34 = .bool false := hd 16 (by decide)
    clear hd
    simp only [overlay, List.setIfInBounds_toArray, List.set, d0, d1, d2, d3, d4, d5, d6, d7, d8, d9, d10, d11, d12, d13, d14, d15, d16]
    have e9 : Ext wr w9 := (Ext.refl wr).drew.trans hE
    clear d0 d1 d2 d3 d4 d5 d6 d7 d8 d9 d10 d11 d12 d13 d14 d15 d16
    clear hX hE
    generalize u 26 = t26z1
    generalize u 31 = t31z1
    clear u
    obtain ⟨wk2, rfl⟩ : ∃ wx : World, wx = w9 := ⟨_, rfl⟩
    replace HO := Lib.hid (HO.out.ext e9)
    replace HER := Lib.hid (HER.out.trans (e9))
    replace HE := Lib.hid (HE.out.trans (e9))
    clear e9
    rw [HIN3.out] at HO HOK
    clear CX CY FX FY hzd hz HER HCXY
    go_wp2_with fail
    go_roundw
    case rel => exact ⟨i + 1, _, by go_num, by omega, by omega, HO.out, HE.out, HOK, HANS2⟩
    case measure => simp [intOf]; omega

end Go.Proofs.Ytgkemmdghmklfaa
