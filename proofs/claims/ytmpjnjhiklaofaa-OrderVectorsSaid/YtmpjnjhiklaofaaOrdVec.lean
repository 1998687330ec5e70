/-
  THE WALK of law06.OrderVectors: it returns true, and turns nothing that was there. (Printed by gen_ordvec.py.)
-/
import Derived.Test.YtmpjnjhiklaofaaOrdLives
import Derived.Test.YtmpjnjhiklaofaaOrdM
namespace Go.Proofs.Ytmpjnjhiklaofaa
set_option linter.unusedSimpArgs false
set_option linter.unusedVariables false
open Go.RowKit

def vg (x y : List Int) (q : Nat) : Int := sgn (x.getD q 0) (y.getD q 0)
theorem cmp_vec (m : Nat) (x y : List Int) : cmpF (m + 1) (vecV x) (vecV y) = seqV (vg x y) x.length y.length 0 := by
  have e : contA (cmpF m) (vecV x) (vecV y) = seqV (vg x y) x.length y.length 0 := by
    unfold vecV
    rw [contA, if_neg (by simp), contG]
    have hf : (fun k => contG (fun i j => if (1 : Int) = 3 then cmpF m (([] : List Arr).getD i default) (([] : List Arr).getD j default) else sgn (x.getD i 0) (y.getD j 0)) [] [] (0 + k * volN []) (0 + k * volN [])) = vg x y := by
      funext q
      rw [contG, vol_nil, if_neg (by decide), Nat.zero_add, Nat.mul_one]; rfl
    unfold seqV
    rw [Nat.sub_zero, ← hf]
    rfl
  have h0 : seqV (vg x y) x.length y.length 0 = 0 → lexV [(x.length : Int)] [(y.length : Int)] = 0 := fun h => by
    unfold seqV at h
    by_cases hz : firstNZ (vg x y) ((min (x.length : Int) (y.length : Int)).toNat - 0) 0 = 0
    · rw [if_neg (fun h9 => h9 hz)] at h
      rw [lexV, h]; rfl
    · rw [if_pos hz] at h; exact absurd h hz
  have e2 : cmpF (m + 1) (vecV x) (vecV y) = if contA (cmpF m) (vecV x) (vecV y) ≠ 0 then contA (cmpF m) (vecV x) (vecV y) else lexV [(x.length : Int)] [(y.length : Int)] := by
    unfold vecV
    rw [cmpF, if_neg (by simp), if_neg (by simp)]
  rw [e2, e]
  by_cases hz : seqV (vg x y) x.length y.length 0 = 0
  · rw [if_neg (fun h9 => h9 hz), h0 hz, hz]
  · rw [if_pos hz]

set_option maxRecDepth 100000 in
set_option maxHeartbeats 8000000 in
theorem ordvec_any (F G : Nat → Prop) (p q : Option Addr) (c d : Nat) (x y : List Int) (w : World) (h1 : IntsAt F w p x) (h2 : IntsAt G w q y) (hk1 : SlOk x.length c) (hk2 : SlOk y.length d) :
    Calls Try.prog 10 #[.slice p x.length c, .slice q y.length d] w fun e w' => e = .returned (.bool true) ∧ Ext w w' := by
  have HX := Lib.hid h1
  have HY := Lib.hid h2
  have HK1 := Lib.hid hk1
  have HK2 := Lib.hid hk2
  clear h1 h2
  obtain ⟨a1, a2, a3⟩ := hk1
  obtain ⟨b1, b2, b3⟩ := hk2
  go_enter Try.func10, Try.ntmps10
  by_cases hc1 : 1000 < x.length
  · have hc1' : (1000 : Int) < (x.length : Int) := by omega
    go_wp2_with fail
    refine (ordlives_any _).mono ?_
    rintro e wl ⟨rfl, hEl⟩
    go_wp2_with fail
    go_ret
    exact ⟨rfl, (Ext.refl w).trans hEl⟩
  have hc1' : ¬ (1000 : Int) < (x.length : Int) := by omega
  by_cases hc2 : 1000 < y.length
  · have hc2' : (1000 : Int) < (y.length : Int) := by omega
    go_wp2_with fail
    refine (ordlives_any _).mono ?_
    rintro e wl ⟨rfl, hEl⟩
    go_wp2_with fail
    go_ret
    exact ⟨rfl, (Ext.refl w).trans hEl⟩
  have hc2' : ¬ (1000 : Int) < (y.length : Int) := by omega
  go_wp2_with fail
  refine (o6ints_rd (X := fun _ => False) (RdIX.old HX.out HK1.out (Ext.refl _) (fun _ h => False.elim h)) (fun _ h => False.elim h)).mono ?_
  rintro e w1 ⟨x1, rfl, ⟨c0, c1, c2, c3, rfl, hA⟩, hE1⟩
  go_wp2_with fail
  refine (rright6_any _ _ _ _ _ _ w1 hA).mono ?_
  rintro e w2 ⟨rfl, hE2⟩
  have HE := Lib.hid (hE1.trans hE2)
  clear hA hE1 hE2
  generalize hrx : rightV (vecV x) = rx
  by_cases hzx : rx = 0
  rotate_left
  · have hzz : (rx != 0) = true := by simpa using hzx
    clear hzx
    go_wp2_with fail
    refine (ordlives_any _).mono ?_
    rintro e wl ⟨rfl, hEl⟩
    go_wp2_with fail
    go_ret
    exact ⟨rfl, HE.out.trans hEl⟩
  subst hzx
  have HRx := Lib.hid hrx
  clear hrx
  go_wp2_with fail
  refine (o6ints_rd (X := fun _ => False) (RdIX.old HY.out HK2.out HE.out (fun _ h => False.elim h)) (fun _ h => False.elim h)).mono ?_
  rintro e w3 ⟨x3, rfl, ⟨d0, d1, d2, d3, rfl, hA⟩, hE1⟩
  go_wp2_with fail
  refine (rright6_any _ _ _ _ _ _ w3 hA).mono ?_
  rintro e w4 ⟨rfl, hE2⟩
  replace HE := Lib.hid (HE.out.trans (hE1.trans hE2))
  clear hA hE1 hE2
  generalize hry : rightV (vecV y) = ry
  by_cases hzy : ry = 0
  rotate_left
  · have hzz : (ry != 0) = true := by simpa using hzy
    clear hzy
    go_wp2_with fail
    refine (ordlives_any _).mono ?_
    rintro e wl ⟨rfl, hEl⟩
    go_wp2_with fail
    go_ret
    exact ⟨rfl, HE.out.trans hEl⟩
  subst hzy
  have HRy := Lib.hid hry
  clear hry
  have hex := cmp_vec (szA (vecV x)) x y
  generalize hcv : cmpF (szA (vecV x) + 1) (vecV x) (vecV y) = cv at *
  have HCV := Lib.hid hcv
  have HSQ := Lib.hid (show seqV (vg x y) x.length y.length 0 = cv from hex.symm)
  clear hcv hex
  go_wp2_with fail
  refine (o6ints_rd (X := fun _ => False) (RdIX.old HX.out HK1.out HE.out (fun _ h => False.elim h)) (fun _ h => False.elim h)).mono ?_
  rintro e w5 ⟨x5, rfl, hx5, hE5⟩
  go_wp2_with fail
  refine (o6ints_rd (X := fun _ => False) (RdIX.old HY.out HK2.out (HE.out.trans hE5) (fun _ h => False.elim h)) (fun _ h => False.elim h)).mono ?_
  rintro e w6 ⟨x6, rfl, hx6, hE6⟩
  replace hx5 := hx5.mono0 hE6
  go_wp2_with fail
  refine (ocmpm_rd (szA (vecV x) + 1) (Nat.lt_succ_self _) HRx.out HRy.out HCV.out hx5.rd hx6.rd).mono ?_
  rintro e w7 ⟨rfl, hE7⟩
  replace HE := Lib.hid (HE.out.trans (hE5.trans (hE6.trans hE7)))
  clear hx5 hx6 hE5 hE6 hE7
  go_wp2_with fail
  go_loopw [6] (fun iv wr => ∃ i : Nat, i ≤ x.length ∧ i ≤ y.length ∧ iv = .int .i64 (i : Int) ∧ Ext w wr ∧ Hid (seqV (vg x y) x.length y.length i = cv)) (fun iv _ => x.length - (intOf iv).toNat)
  case atStart => exact ⟨0, Nat.zero_le _, Nat.zero_le _, rfl, HE.out, HSQ⟩
  case round =>
  clear HE HSQ
  obtain ⟨i, hix, hiy, rfl, hE, HSQ⟩ := hrel
  have HE := Lib.hid hE
  clear hE
  by_cases hlt : i < x.length ∧ i < y.length
  · obtain ⟨hlt1, hlt2⟩ := hlt
    obtain ⟨ba, oa, rfl, ha, _, _⟩ := (HX.out.ext HE.out).get hlt1
    obtain ⟨bb, ob, rfl, hb, _, _⟩ := (HY.out.ext HE.out).get hlt2
    have hsq := HSQ.out
    rw [seqV_in (by omega) (by omega)] at hsq
    have hvg : vg x y i = sgn (x.getD i 0) (y.getD i 0) := rfl
    rw [hvg] at hsq
    generalize x.getD i 0 = xi at *
    generalize y.getD i 0 = yi at *
    have CA := Lib.hid ha
    have CB := Lib.hid hb
    by_cases hxy : xi = yi
    · subst hxy
      have HSQ2 := Lib.hid (show seqV (vg x y) x.length y.length (i + 1) = cv by simpa [sgn_eq] using hsq)
      clear hsq hvg HSQ
      go_wp2_with fail
      go_quiet (fail)
      have hE2 := HE.out.trans ((Ext.refl wr).drewN nq)
      clear ha hb CA CB HE
      go_wp2_with fail
      go_roundw
      case rel => exact ⟨i + 1, by omega, by omega, by go_num, hE2, HSQ2⟩
      case measure => simp [intOf]; omega
    · have hxb : (xi != yi) = true := by simpa using hxy
      have hcv : cv = sgn xi yi := by
        rw [← hsq, if_pos (fun h => hxy (sgn_zero.1 h))]
      clear hsq hvg HSQ
      have hcase : (xi < yi ∧ cv = -1) ∨ (yi < xi ∧ cv = 1) := by
        rcases Int.lt_or_gt_of_ne hxy with h | h
        · exact .inl ⟨h, by rw [hcv, sgn_lt h]⟩
        · exact .inr ⟨h, by rw [hcv, sgn_gt h]⟩
      clear hcv hxy HCV
      go_wp2_with fail
      go_quiet (fail)
      have hEn := (Ext.refl wr).drewN nq
      replace HE := Lib.hid (HE.out.trans hEn)
      replace CA := Lib.hid (hEn.cell CA.out)
      replace CB := Lib.hid (hEn.cell CB.out)
      clear ha hb hEn
      obtain ⟨wq, hwq⟩ : ∃ wx : World, wx = wr.drewN nq := ⟨_, rfl⟩
      rw [← hwq] at HE CA CB ⊢
      clear hwq
      rcases hcase with ⟨hlt, rfl⟩ | ⟨hlt, rfl⟩
      · have hd : decide (xi < yi) = true := by simpa using hlt
        go_wp2_with fail
        refine wp_region_x0 [MProp.is (.int .i64 (-1)), MProp.is (.bool true), MProp.is (.slice (some ⟨ba, oa, none⟩) x.length c), MProp.is (.int .i64 (i : Int)), MProp.is (.pointer (some ⟨ba, oa + i, none⟩)), MProp.is (.int .i64 xi), MProp.is (.slice (some ⟨bb, ob, none⟩) y.length d), MProp.is (.int .i64 (i : Int)), MProp.is (.pointer (some ⟨bb, ob + i, none⟩)), MProp.is (.int .i64 yi), MProp.is (.bool true), MProp.is (.bool true), MProp.is (.bool true), MProp.is (.int .i64 (-1)), MProp.is (.bool true), MProp.is (.bool true), MProp.is (.bool true), MProp.is (.bool true), MProp.is (.bool true), MProp.is (.bool true)] [0, 1, 2, 3, 4, 5, 6, 7, 8, 9, 10, 11, 12, 13, 14, 15, 16, 17, 18, 19] [] [54, 55, 56, 57, 58, 59, 60, 61, 62, 63, 64, 65, 66, 67, 68, 69, 70, 71, 72, 4] (by kernel_rfl) (by kernel_rfl) (by kernel_rfl) ?_ ?_ ?_
        · refine mem_cons_m ?_ (mem_cons_m ?_ (mem_cons_m ?_ (mem_cons_m ?_ (mem_cons_m ?_ (mem_cons_m ?_ (mem_cons_m ?_ (mem_cons_m ?_ (mem_cons_m ?_ (mem_cons_m ?_ (mem_cons_m ?_ (mem_cons_m ?_ (mem_cons_m ?_ (mem_cons_m ?_ (mem_cons_m ?_ (mem_cons_m ?_ (mem_cons_m ?_ (mem_cons_m ?_ (mem_cons_m ?_ (mem_cons_m ?_ (mem_nil_m))))))))))))))))))))
          · refine ⟨_, 54, rfl, by kernel_rfl, ?_⟩
            intro u w9 X hE hX hd K hK
            clear hd
            simp only [overlay, List.setIfInBounds_toArray, List.set] at hK ⊢
            go_wp2_with fail
            exact hK _ _ X (Ext.refl _) kept_m hX rfl
          · refine ⟨_, 55, rfl, by kernel_rfl, ?_⟩
            intro u w9 X hE hX hd K hK
            have d0 : u 54 = .int .i64 (-1) := hd 0 (by kernel_rfl)
            clear hd
            simp only [overlay, List.setIfInBounds_toArray, List.set, d0] at hK ⊢
            go_wp2_with fail
            exact hK _ _ X (Ext.refl _) kept_m hX rfl
          · refine ⟨_, 56, rfl, by kernel_rfl, ?_⟩
            intro u w9 X hE hX hd K hK
            clear hd
            simp only [overlay, List.setIfInBounds_toArray, List.set] at hK ⊢
            go_wp2_with fail
            exact hK _ _ X (Ext.refl _) kept_m hX rfl
          · refine ⟨_, 57, rfl, by kernel_rfl, ?_⟩
            intro u w9 X hE hX hd K hK
            clear hd
            simp only [overlay, List.setIfInBounds_toArray, List.set] at hK ⊢
            go_wp2_with fail
            exact hK _ _ X (Ext.refl _) kept_m hX rfl
          · refine ⟨_, 58, rfl, by kernel_rfl, ?_⟩
            intro u w9 X hE hX hd K hK
            have d2 : u 56 = .slice (some ⟨ba, oa, none⟩) x.length c := hd 2 (by kernel_rfl)
            have d3 : u 57 = .int .i64 (i : Int) := hd 3 (by kernel_rfl)
            clear hd
            simp only [overlay, List.setIfInBounds_toArray, List.set, d2, d3] at hK ⊢
            go_wp2_with fail
            exact hK _ _ X (Ext.refl _) kept_m hX rfl
          · refine ⟨_, 59, rfl, by kernel_rfl, ?_⟩
            intro u w9 X hE hX hd K hK
            have d4 : u 58 = .pointer (some ⟨ba, oa + i, none⟩) := hd 4 (by kernel_rfl)
            clear hd
            simp only [overlay, List.setIfInBounds_toArray, List.set, d4] at hK ⊢
            have e9 : Ext wq w9 := (Ext.refl wq).drew.trans hE
            have a9 := e9.cell CA.out
            go_wp2_with fail
            exact hK _ _ X (Ext.refl _) kept_m hX rfl
          · refine ⟨_, 60, rfl, by kernel_rfl, ?_⟩
            intro u w9 X hE hX hd K hK
            clear hd
            simp only [overlay, List.setIfInBounds_toArray, List.set] at hK ⊢
            go_wp2_with fail
            exact hK _ _ X (Ext.refl _) kept_m hX rfl
          · refine ⟨_, 61, rfl, by kernel_rfl, ?_⟩
            intro u w9 X hE hX hd K hK
            clear hd
            simp only [overlay, List.setIfInBounds_toArray, List.set] at hK ⊢
            go_wp2_with fail
            exact hK _ _ X (Ext.refl _) kept_m hX rfl
          · refine ⟨_, 62, rfl, by kernel_rfl, ?_⟩
            intro u w9 X hE hX hd K hK
            have d6 : u 60 = .slice (some ⟨bb, ob, none⟩) y.length d := hd 6 (by kernel_rfl)
            have d7 : u 61 = .int .i64 (i : Int) := hd 7 (by kernel_rfl)
            clear hd
            simp only [overlay, List.setIfInBounds_toArray, List.set, d6, d7] at hK ⊢
            go_wp2_with fail
            exact hK _ _ X (Ext.refl _) kept_m hX rfl
          · refine ⟨_, 63, rfl, by kernel_rfl, ?_⟩
            intro u w9 X hE hX hd K hK
            have d8 : u 62 = .pointer (some ⟨bb, ob + i, none⟩) := hd 8 (by kernel_rfl)
            clear hd
            simp only [overlay, List.setIfInBounds_toArray, List.set, d8] at hK ⊢
            have e9 : Ext wq w9 := (Ext.refl wq).drew.trans hE
            have a9 := e9.cell CB.out
            go_wp2_with fail
            exact hK _ _ X (Ext.refl _) kept_m hX rfl
          · refine ⟨_, 64, rfl, by kernel_rfl, ?_⟩
            intro u w9 X hE hX hd K hK
            have d5 : u 59 = .int .i64 xi := hd 5 (by kernel_rfl)
            have d9 : u 63 = .int .i64 yi := hd 9 (by kernel_rfl)
            clear hd
            simp only [overlay, List.setIfInBounds_toArray, List.set, d5, d9] at hK ⊢
            go_wp2_with fail
            exact hK _ _ X (Ext.refl _) kept_m hX rfl
          · refine ⟨_, 65, rfl, by kernel_rfl, ?_⟩
            intro u w9 X hE hX hd K hK
            have d1 : u 55 = .bool true := hd 1 (by kernel_rfl)
            have d10 : u 64 = .bool true := hd 10 (by kernel_rfl)
            clear hd
            simp only [overlay, List.setIfInBounds_toArray, List.set, d1, d10] at hK ⊢
            go_wp2_with fail
            exact hK _ _ X (Ext.refl _) kept_m hX rfl
          · refine ⟨_, 66, rfl, by kernel_rfl, ?_⟩
            intro u w9 X hE hX hd K hK
            have d11 : u 65 = .bool true := hd 11 (by kernel_rfl)
            clear hd
            simp only [overlay, List.setIfInBounds_toArray, List.set, d11] at hK ⊢
            go_wp2_with fail
            exact hK _ _ X (Ext.refl _) kept_m hX rfl
          · refine ⟨_, 67, rfl, by kernel_rfl, ?_⟩
            intro u w9 X hE hX hd K hK
            have d12 : u 66 = .bool true := hd 12 (by kernel_rfl)
            clear hd
            simp only [overlay, List.setIfInBounds_toArray, List.set, d12] at hK ⊢
            go_wp2_with fail
            exact hK _ _ X (Ext.refl _) kept_m hX rfl
          · refine ⟨_, 68, rfl, by kernel_rfl, ?_⟩
            intro u w9 X hE hX hd K hK
            have d13 : u 67 = .int .i64 (-1) := hd 13 (by kernel_rfl)
            have d12 : u 66 = .bool true := hd 12 (by kernel_rfl)
            clear hd
            simp only [overlay, List.setIfInBounds_toArray, List.set, d13, d12] at hK ⊢
            go_wp2_with fail
            exact hK _ _ X (Ext.refl _) kept_m hX rfl
          · refine ⟨_, 69, rfl, by kernel_rfl, ?_⟩
            intro u w9 X hE hX hd K hK
            have d12 : u 66 = .bool true := hd 12 (by kernel_rfl)
            have d14 : u 68 = .bool true := hd 14 (by kernel_rfl)
            clear hd
            simp only [overlay, List.setIfInBounds_toArray, List.set, d12, d14] at hK ⊢
            go_wp2_with fail
            exact hK _ _ X (Ext.refl _) kept_m hX rfl
          · refine ⟨_, 70, rfl, by kernel_rfl, ?_⟩
            intro u w9 X hE hX hd K hK
            have d15 : u 69 = .bool true := hd 15 (by kernel_rfl)
            clear hd
            simp only [overlay, List.setIfInBounds_toArray, List.set, d15] at hK ⊢
            go_wp2_with fail
            exact hK _ _ X (Ext.refl _) kept_m hX rfl
          · refine ⟨_, 71, rfl, by kernel_rfl, ?_⟩
            intro u w9 X hE hX hd K hK
            have d16 : u 70 = .bool true := hd 16 (by kernel_rfl)
            clear hd
            simp only [overlay, List.setIfInBounds_toArray, List.set, d16] at hK ⊢
            have e9 : Ext wq w9 := (Ext.refl wq).drew.trans hE
            go_wp2_with fail
            refine (ordlives_any w9).mono ?_
            rintro e w8 ⟨rfl, hE8⟩
            go_wp2_with fail
            exact hK _ _ X hE8 kept_m (hX.ext hE8) rfl
          · refine ⟨_, 72, rfl, by kernel_rfl, ?_⟩
            intro u w9 X hE hX hd K hK
            have d16 : u 70 = .bool true := hd 16 (by kernel_rfl)
            have d17 : u 71 = .bool true := hd 17 (by kernel_rfl)
            clear hd
            simp only [overlay, List.setIfInBounds_toArray, List.set, d16, d17] at hK ⊢
            go_wp2_with fail
            exact hK _ _ X (Ext.refl _) kept_m hX rfl
          · refine ⟨_, 4, rfl, by kernel_rfl, ?_⟩
            intro u w9 X hE hX hd K hK
            have d18 : u 72 = .bool true := hd 18 (by kernel_rfl)
            clear hd
            simp only [overlay, List.setIfInBounds_toArray, List.set, d18] at hK ⊢
            go_wp2_with fail
            exact hK _ _ X (Ext.refl _) kept_m hX rfl
        · exact mem_nil_m
        intro u w9 X hE hX hd
        have d0 : u 54 = .int .i64 (-1) := hd 0 (by decide)
        have d1 : u 55 = .bool true := hd 1 (by decide)
        have d2 : u 56 = .slice (some ⟨ba, oa, none⟩) x.length c := hd 2 (by decide)
        have d3 : u 57 = .int .i64 (i : Int) := hd 3 (by decide)
        have d4 : u 58 = .pointer (some ⟨ba, oa + i, none⟩) := hd 4 (by decide)
        have d5 : u 59 = .int .i64 xi := hd 5 (by decide)
        have d6 : u 60 = .slice (some ⟨bb, ob, none⟩) y.length d := hd 6 (by decide)
        have d7 : u 61 = .int .i64 (i : Int) := hd 7 (by decide)
        have d8 : u 62 = .pointer (some ⟨bb, ob + i, none⟩) := hd 8 (by decide)
        have d9 : u 63 = .int .i64 yi := hd 9 (by decide)
        have d10 : u 64 = .bool true := hd 10 (by decide)
        have d11 : u 65 = .bool true := hd 11 (by decide)
        have d12 : u 66 = .bool true := hd 12 (by decide)
        have d13 : u 67 = .int .i64 (-1) := hd 13 (by decide)
        have d14 : u 68 = .bool true := hd 14 (by decide)
        have d15 : u 69 = .bool true := hd 15 (by decide)
        have d16 : u 70 = .bool true := hd 16 (by decide)
        have d17 : u 71 = .bool true := hd 17 (by decide)
        have d18 : u 72 = .bool true := hd 18 (by decide)
        have d19 : u 4 = .bool true := hd 19 (by decide)
        clear hd
        simp only [overlay, List.setIfInBounds_toArray, List.set, d0, d1, d2, d3, d4, d5, d6, d7, d8, d9, d10, d11, d12, d13, d14, d15, d16, d17, d18, d19]
        have e9 : Ext wq w9 := (Ext.refl wq).drew.trans hE
        clear d0 d1 d2 d3 d4 d5 d6 d7 d8 d9 d10 d11 d12 d13 d14 d15 d16 d17 d18 d19
        clear hX hE
        generalize u 59 = t59z1
        generalize u 63 = t63z1
        clear u
        obtain ⟨wk2, rfl⟩ : ∃ wx : World, wx = w9 := ⟨_, rfl⟩
        replace HE := Lib.hid (HE.out.trans (e9))
        clear e9
        go_wp2_with fail
        go_ret
        exact ⟨rfl, HE.out⟩
      · have hd : decide (xi < yi) = false := by simp; omega
        go_wp2_with fail
        refine wp_region_x0 [MProp.is (.int .i64 1), MProp.is (.bool false), MProp.is (.slice (some ⟨ba, oa, none⟩) x.length c), MProp.is (.int .i64 (i : Int)), MProp.is (.pointer (some ⟨ba, oa + i, none⟩)), MProp.is (.int .i64 xi), MProp.is (.slice (some ⟨bb, ob, none⟩) y.length d), MProp.is (.int .i64 (i : Int)), MProp.is (.pointer (some ⟨bb, ob + i, none⟩)), MProp.is (.int .i64 yi), MProp.is (.bool false), MProp.is (.bool true), MProp.is (.bool true), MProp.is (.int .i64 1), MProp.is (.bool true), MProp.is (.bool true), MProp.is (.bool true), MProp.is (.bool true), MProp.is (.bool true), MProp.is (.bool true)] [0, 1, 2, 3, 4, 5, 6, 7, 8, 9, 10, 11, 12, 13, 14, 15, 16, 17, 18, 19] [] [54, 55, 56, 57, 58, 59, 60, 61, 62, 63, 64, 65, 66, 67, 68, 69, 70, 71, 72, 4] (by kernel_rfl) (by kernel_rfl) (by kernel_rfl) ?_ ?_ ?_
        · refine mem_cons_m ?_ (mem_cons_m ?_ (mem_cons_m ?_ (mem_cons_m ?_ (mem_cons_m ?_ (mem_cons_m ?_ (mem_cons_m ?_ (mem_cons_m ?_ (mem_cons_m ?_ (mem_cons_m ?_ (mem_cons_m ?_ (mem_cons_m ?_ (mem_cons_m ?_ (mem_cons_m ?_ (mem_cons_m ?_ (mem_cons_m ?_ (mem_cons_m ?_ (mem_cons_m ?_ (mem_cons_m ?_ (mem_cons_m ?_ (mem_nil_m))))))))))))))))))))
          · refine ⟨_, 54, rfl, by kernel_rfl, ?_⟩
            intro u w9 X hE hX hd K hK
            clear hd
            simp only [overlay, List.setIfInBounds_toArray, List.set] at hK ⊢
            go_wp2_with fail
            exact hK _ _ X (Ext.refl _) kept_m hX rfl
          · refine ⟨_, 55, rfl, by kernel_rfl, ?_⟩
            intro u w9 X hE hX hd K hK
            have d0 : u 54 = .int .i64 1 := hd 0 (by kernel_rfl)
            clear hd
            simp only [overlay, List.setIfInBounds_toArray, List.set, d0] at hK ⊢
            go_wp2_with fail
            exact hK _ _ X (Ext.refl _) kept_m hX rfl
          · refine ⟨_, 56, rfl, by kernel_rfl, ?_⟩
            intro u w9 X hE hX hd K hK
            clear hd
            simp only [overlay, List.setIfInBounds_toArray, List.set] at hK ⊢
            go_wp2_with fail
            exact hK _ _ X (Ext.refl _) kept_m hX rfl
          · refine ⟨_, 57, rfl, by kernel_rfl, ?_⟩
            intro u w9 X hE hX hd K hK
            clear hd
            simp only [overlay, List.setIfInBounds_toArray, List.set] at hK ⊢
            go_wp2_with fail
            exact hK _ _ X (Ext.refl _) kept_m hX rfl
          · refine ⟨_, 58, rfl, by kernel_rfl, ?_⟩
            intro u w9 X hE hX hd K hK
            have d2 : u 56 = .slice (some ⟨ba, oa, none⟩) x.length c := hd 2 (by kernel_rfl)
            have d3 : u 57 = .int .i64 (i : Int) := hd 3 (by kernel_rfl)
            clear hd
            simp only [overlay, List.setIfInBounds_toArray, List.set, d2, d3] at hK ⊢
            go_wp2_with fail
            exact hK _ _ X (Ext.refl _) kept_m hX rfl
          · refine ⟨_, 59, rfl, by kernel_rfl, ?_⟩
            intro u w9 X hE hX hd K hK
            have d4 : u 58 = .pointer (some ⟨ba, oa + i, none⟩) := hd 4 (by kernel_rfl)
            clear hd
            simp only [overlay, List.setIfInBounds_toArray, List.set, d4] at hK ⊢
            have e9 : Ext wq w9 := (Ext.refl wq).drew.trans hE
            have a9 := e9.cell CA.out
            go_wp2_with fail
            exact hK _ _ X (Ext.refl _) kept_m hX rfl
          · refine ⟨_, 60, rfl, by kernel_rfl, ?_⟩
            intro u w9 X hE hX hd K hK
            clear hd
            simp only [overlay, List.setIfInBounds_toArray, List.set] at hK ⊢
            go_wp2_with fail
            exact hK _ _ X (Ext.refl _) kept_m hX rfl
          · refine ⟨_, 61, rfl, by kernel_rfl, ?_⟩
            intro u w9 X hE hX hd K hK
            clear hd
            simp only [overlay, List.setIfInBounds_toArray, List.set] at hK ⊢
            go_wp2_with fail
            exact hK _ _ X (Ext.refl _) kept_m hX rfl
          · refine ⟨_, 62, rfl, by kernel_rfl, ?_⟩
            intro u w9 X hE hX hd K hK
            have d6 : u 60 = .slice (some ⟨bb, ob, none⟩) y.length d := hd 6 (by kernel_rfl)
            have d7 : u 61 = .int .i64 (i : Int) := hd 7 (by kernel_rfl)
            clear hd
            simp only [overlay, List.setIfInBounds_toArray, List.set, d6, d7] at hK ⊢
            go_wp2_with fail
            exact hK _ _ X (Ext.refl _) kept_m hX rfl
          · refine ⟨_, 63, rfl, by kernel_rfl, ?_⟩
            intro u w9 X hE hX hd K hK
            have d8 : u 62 = .pointer (some ⟨bb, ob + i, none⟩) := hd 8 (by kernel_rfl)
            clear hd
            simp only [overlay, List.setIfInBounds_toArray, List.set, d8] at hK ⊢
            have e9 : Ext wq w9 := (Ext.refl wq).drew.trans hE
            have a9 := e9.cell CB.out
            go_wp2_with fail
            exact hK _ _ X (Ext.refl _) kept_m hX rfl
          · refine ⟨_, 64, rfl, by kernel_rfl, ?_⟩
            intro u w9 X hE hX hd K hK
            have d5 : u 59 = .int .i64 xi := hd 5 (by kernel_rfl)
            have d9 : u 63 = .int .i64 yi := hd 9 (by kernel_rfl)
            clear hd
            simp only [overlay, List.setIfInBounds_toArray, List.set, d5, d9] at hK ⊢
            go_wp2_with fail
            exact hK _ _ X (Ext.refl _) kept_m hX rfl
          · refine ⟨_, 65, rfl, by kernel_rfl, ?_⟩
            intro u w9 X hE hX hd K hK
            have d1 : u 55 = .bool false := hd 1 (by kernel_rfl)
            have d10 : u 64 = .bool false := hd 10 (by kernel_rfl)
            clear hd
            simp only [overlay, List.setIfInBounds_toArray, List.set, d1, d10] at hK ⊢
            go_wp2_with fail
            exact hK _ _ X (Ext.refl _) kept_m hX rfl
          · refine ⟨_, 66, rfl, by kernel_rfl, ?_⟩
            intro u w9 X hE hX hd K hK
            have d11 : u 65 = .bool true := hd 11 (by kernel_rfl)
            clear hd
            simp only [overlay, List.setIfInBounds_toArray, List.set, d11] at hK ⊢
            go_wp2_with fail
            exact hK _ _ X (Ext.refl _) kept_m hX rfl
          · refine ⟨_, 67, rfl, by kernel_rfl, ?_⟩
            intro u w9 X hE hX hd K hK
            have d12 : u 66 = .bool true := hd 12 (by kernel_rfl)
            clear hd
            simp only [overlay, List.setIfInBounds_toArray, List.set, d12] at hK ⊢
            go_wp2_with fail
            exact hK _ _ X (Ext.refl _) kept_m hX rfl
          · refine ⟨_, 68, rfl, by kernel_rfl, ?_⟩
            intro u w9 X hE hX hd K hK
            have d13 : u 67 = .int .i64 1 := hd 13 (by kernel_rfl)
            have d12 : u 66 = .bool true := hd 12 (by kernel_rfl)
            clear hd
            simp only [overlay, List.setIfInBounds_toArray, List.set, d13, d12] at hK ⊢
            go_wp2_with fail
            exact hK _ _ X (Ext.refl _) kept_m hX rfl
          · refine ⟨_, 69, rfl, by kernel_rfl, ?_⟩
            intro u w9 X hE hX hd K hK
            have d12 : u 66 = .bool true := hd 12 (by kernel_rfl)
            have d14 : u 68 = .bool true := hd 14 (by kernel_rfl)
            clear hd
            simp only [overlay, List.setIfInBounds_toArray, List.set, d12, d14] at hK ⊢
            go_wp2_with fail
            exact hK _ _ X (Ext.refl _) kept_m hX rfl
          · refine ⟨_, 70, rfl, by kernel_rfl, ?_⟩
            intro u w9 X hE hX hd K hK
            have d15 : u 69 = .bool true := hd 15 (by kernel_rfl)
            clear hd
            simp only [overlay, List.setIfInBounds_toArray, List.set, d15] at hK ⊢
            go_wp2_with fail
            exact hK _ _ X (Ext.refl _) kept_m hX rfl
          · refine ⟨_, 71, rfl, by kernel_rfl, ?_⟩
            intro u w9 X hE hX hd K hK
            have d16 : u 70 = .bool true := hd 16 (by kernel_rfl)
            clear hd
            simp only [overlay, List.setIfInBounds_toArray, List.set, d16] at hK ⊢
            have e9 : Ext wq w9 := (Ext.refl wq).drew.trans hE
            go_wp2_with fail
            refine (ordlives_any w9).mono ?_
            rintro e w8 ⟨rfl, hE8⟩
            go_wp2_with fail
            exact hK _ _ X hE8 kept_m (hX.ext hE8) rfl
          · refine ⟨_, 72, rfl, by kernel_rfl, ?_⟩
            intro u w9 X hE hX hd K hK
            have d16 : u 70 = .bool true := hd 16 (by kernel_rfl)
            have d17 : u 71 = .bool true := hd 17 (by kernel_rfl)
            clear hd
            simp only [overlay, List.setIfInBounds_toArray, List.set, d16, d17] at hK ⊢
            go_wp2_with fail
            exact hK _ _ X (Ext.refl _) kept_m hX rfl
          · refine ⟨_, 4, rfl, by kernel_rfl, ?_⟩
            intro u w9 X hE hX hd K hK
            have d18 : u 72 = .bool true := hd 18 (by kernel_rfl)
            clear hd
            simp only [overlay, List.setIfInBounds_toArray, List.set, d18] at hK ⊢
            go_wp2_with fail
            exact hK _ _ X (Ext.refl _) kept_m hX rfl
        · exact mem_nil_m
        intro u w9 X hE hX hd
        have d0 : u 54 = .int .i64 1 := hd 0 (by decide)
        have d1 : u 55 = .bool false := hd 1 (by decide)
        have d2 : u 56 = .slice (some ⟨ba, oa, none⟩) x.length c := hd 2 (by decide)
        have d3 : u 57 = .int .i64 (i : Int) := hd 3 (by decide)
        have d4 : u 58 = .pointer (some ⟨ba, oa + i, none⟩) := hd 4 (by decide)
        have d5 : u 59 = .int .i64 xi := hd 5 (by decide)
        have d6 : u 60 = .slice (some ⟨bb, ob, none⟩) y.length d := hd 6 (by decide)
        have d7 : u 61 = .int .i64 (i : Int) := hd 7 (by decide)
        have d8 : u 62 = .pointer (some ⟨bb, ob + i, none⟩) := hd 8 (by decide)
        have d9 : u 63 = .int .i64 yi := hd 9 (by decide)
        have d10 : u 64 = .bool false := hd 10 (by decide)
        have d11 : u 65 = .bool true := hd 11 (by decide)
        have d12 : u 66 = .bool true := hd 12 (by decide)
        have d13 : u 67 = .int .i64 1 := hd 13 (by decide)
        have d14 : u 68 = .bool true := hd 14 (by decide)
        have d15 : u 69 = .bool true := hd 15 (by decide)
        have d16 : u 70 = .bool true := hd 16 (by decide)
        have d17 : u 71 = .bool true := hd 17 (by decide)
        have d18 : u 72 = .bool true := hd 18 (by decide)
        have d19 : u 4 = .bool true := hd 19 (by decide)
        clear hd
        simp only [overlay, List.setIfInBounds_toArray, List.set, d0, d1, d2, d3, d4, d5, d6, d7, d8, d9, d10, d11, d12, d13, d14, d15, d16, d17, d18, d19]
        have e9 : Ext wq w9 := (Ext.refl wq).drew.trans hE
        clear d0 d1 d2 d3 d4 d5 d6 d7 d8 d9 d10 d11 d12 d13 d14 d15 d16 d17 d18 d19
        clear hX hE
        generalize u 59 = t59z1
        generalize u 63 = t63z1
        clear u
        obtain ⟨wk2, rfl⟩ : ∃ wx : World, wx = w9 := ⟨_, rfl⟩
        replace HE := Lib.hid (HE.out.trans (e9))
        clear e9
        go_wp2_with fail
        go_ret
        exact ⟨rfl, HE.out⟩
  · have hsq := HSQ.out
    rw [seqV_out (by omega)] at hsq
    rcases Nat.lt_trichotomy x.length y.length with h | h | h
    · have hcv : cv = -1 := by rw [← hsq, sgn_lt (by omega)]
      have hn1 : ¬ i < x.length := by omega
      have hd1 : ((x.length : Int) == (y.length : Int)) = false := by simp; omega
      subst hcv
      clear hsq HSQ HCV hlt
      go_wp2_with fail
      refine (ordlives_any _).mono ?_
      rintro e wl ⟨rfl, hEl⟩
      go_wp2_with fail
      go_ret
      exact ⟨rfl, HE.out.trans hEl⟩
    · have hcv : cv = 0 := by rw [← hsq, h, sgn_eq]
      have hn1 : ¬ i < x.length := by omega
      have hd1 : ((x.length : Int) == (y.length : Int)) = true := by simp; omega
      subst hcv
      have HH := Lib.hid h
      clear hsq HSQ HCV hlt h
      go_wp2_with fail
      refine (ordlives_any _).mono ?_
      rintro e wl ⟨rfl, hEl⟩
      go_wp2_with fail
      go_ret
      exact ⟨rfl, HE.out.trans hEl⟩
    · have hcv : cv = 1 := by rw [← hsq, sgn_gt (by omega)]
      have hn1 : i < x.length := by omega
      have hn2 : ¬ i < y.length := by omega
      have hd1 : ((x.length : Int) == (y.length : Int)) = false := by simp; omega
      have hd2 : ¬ x.length < y.length := by omega
      subst hcv
      clear hsq HSQ HCV hlt
      go_wp2_with fail
      refine (ordlives_any _).mono ?_
      rintro e wl ⟨rfl, hEl⟩
      go_wp2_with fail
      go_ret
      exact ⟨rfl, HE.out.trans hEl⟩

end Go.Proofs.Ytmpjnjhiklaofaa
