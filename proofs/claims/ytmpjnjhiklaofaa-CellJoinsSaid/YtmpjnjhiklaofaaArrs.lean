/-
  THE WALK of arraylanglaw04.Arrays. (Printed by gen_arrs.py.)
-/
import Derived.Test.YtmpjnjhiklaofaaCommon
namespace Go.Proofs.Ytmpjnjhiklaofaa
set_option linter.unusedSimpArgs false
set_option linter.unusedVariables false
open Go.RowKit

theorem sameL_step {a b : List Arr} {i : Nat} (h1 : i < a.length) (h2 : i < b.length) : sameL (a.drop i) (b.drop i) = (sameV a[i] b[i] && sameL (a.drop (i + 1)) (b.drop (i + 1))) := by
  rw [List.drop_eq_getElem_cons h1, List.drop_eq_getElem_cons h2, sameL]
theorem sameL_end {a b : List Arr} {i : Nat} (h1 : i ≤ a.length) (h2 : i ≤ b.length) (h : i = a.length ∨ i = b.length) : sameL (a.drop i) (b.drop i) = ((a.length : Int) == (b.length : Int)) := by
  by_cases hl : a.length = b.length
  · rw [List.drop_of_length_le (by omega), List.drop_of_length_le (by omega), sameL, hl]; simp
  · rw [sameL_len _ _ (by simp only [List.length_drop]; omega)]
    symm
    rw [beq_eq_false_iff_ne]
    omega

set_option maxRecDepth 100000 in
set_option maxHeartbeats 2000000 in
theorem arrays_any (F G : Nat → Prop) (p1 p2 : Option Addr) (c1 c2 : Nat) (a b : List Arr) (w : World) (ha : ItemsAt F w p1 0 a) (hb : ItemsAt G w p2 0 b) (hla : a.length ≤ 1759218604391) (hlb : b.length ≤ 1759218604391) :
    Calls Try.prog 44 #[.slice p1 a.length c1, .slice p2 b.length c2] w fun e w' => e = .returned (.bool (sameL a b)) ∧ Ext w w' := by
  generalize hans : sameL a b = ans
  have HANS : Hid (sameL (a.drop 0) (b.drop 0) = ans) := Lib.hid (by simpa using hans)
  have HA := Lib.hid ha
  have HB := Lib.hid hb
  clear ha hb hans
  go_enter Try.func44, Try.ntmps44
  go_wp2_with fail
  go_loopw [5] (fun iv wr => ∃ (i : Nat), i ≤ a.length ∧ i ≤ b.length ∧ iv = .int .i64 (i : Int) ∧ Ext w wr ∧ Hid (sameL (a.drop i) (b.drop i) = ans)) (fun iv _ => a.length - (intOf iv).toNat)
  case atStart => exact ⟨0, Nat.zero_le _, Nat.zero_le _, rfl, Ext.refl _, HANS⟩
  case round =>
    obtain ⟨i, hia, hib, rfl, hE0, HT⟩ := hrel
    clear HANS
    by_cases h12 : i < a.length ∧ i < b.length
    rotate_left
    · have HN := Lib.hid ((sameL_end hia hib (by omega)).symm.trans HT.out)
      clear HT
      by_cases h1 : i < a.length
      · have h2 : ¬ i < b.length := fun h => h12 ⟨h1, h⟩
        go_wp2_with fail
        go_ret
        exact ⟨ret_bool HN.out, hE0⟩
      · clear h12
        go_wp2_with fail
        go_ret
        exact ⟨ret_bool HN.out, hE0⟩
    · obtain ⟨h1, h2⟩ := h12
      have hT := HT.out
      rw [sameL_step h1 h2] at hT
      obtain ⟨b1, o1, x0, x1, x2, x3, rfl, _, hx0, hx1, hx2, hx3, hx⟩ := ItemsAt.get a _ 0 i HA.out h1
      obtain ⟨b2, o2, y0, y1, y2, y3, rfl, _, hy0, hy1, hy2, hy3, hy⟩ := ItemsAt.get b _ 0 i HB.out h2
      rw [Nat.zero_add] at hx0 hx1 hx2 hx3 hy0 hy1 hy2 hy3
      have HSM := Lib.hid (fun (w' : World) (e : Ext w w') => same_any F G _ _ _ _ _ _ _ _ _ _ _ w' (Nat.lt_succ_self _) (hx.ext e) (hy.ext e))
      generalize sameV a[i] b[i] = sv at *
      have HT2 := Lib.hid hT
      clear hT HT hx hy
      have v0 := hE0.cell hx0
      clear v0
      go_wp2_with fail
      · skip
        refine wp_region_x0 [MProp.is (.slice (some ⟨b1, o1, none⟩) a.length c1), MProp.is (.int .i64 (i : Int)), MProp.is ((.pointer (some ⟨b1, o1 + i * 4, none⟩))), MProp.is ((.agg #[x0, x1, x2, x3])), MProp.is (.slice (some ⟨b2, o2, none⟩) b.length c2), MProp.is (.int .i64 (i : Int)), MProp.is ((.pointer (some ⟨b2, o2 + i * 4, none⟩))), MProp.is ((.agg #[y0, y1, y2, y3])), MProp.is (.bool sv), MProp.is (.bool (!sv))] [0, 1, 2, 3, 4, 5, 6, 7, 8, 9] [] [18, 19, 20, 21, 22, 23, 24, 25, 26, 27] (by kernel_rfl) (by kernel_rfl) (by kernel_rfl) ?_ ?_ ?_
        · refine mem_cons_m ?_ (mem_cons_m ?_ (mem_cons_m ?_ (mem_cons_m ?_ (mem_cons_m ?_ (mem_cons_m ?_ (mem_cons_m ?_ (mem_cons_m ?_ (mem_cons_m ?_ (mem_cons_m ?_ (mem_nil_m))))))))))
          · refine ⟨_, 18, rfl, by kernel_rfl, ?_⟩
            intro u w9 X hE hX hd K hK
            clear hd
            simp only [overlay, List.setIfInBounds_toArray, List.set] at hK ⊢
            go_wp2_with fail
            exact hK _ _ X (Ext.refl _) kept_m hX rfl
          · refine ⟨_, 19, rfl, by kernel_rfl, ?_⟩
            intro u w9 X hE hX hd K hK
            clear hd
            simp only [overlay, List.setIfInBounds_toArray, List.set] at hK ⊢
            go_wp2_with fail
            exact hK _ _ X (Ext.refl _) kept_m hX rfl
          · refine ⟨_, 20, rfl, by kernel_rfl, ?_⟩
            intro u w9 X hE hX hd K hK
            have d0 : u 18 = .slice (some ⟨b1, o1, none⟩) a.length c1 := hd 0 (by kernel_rfl)
            have d1 : u 19 = .int .i64 (i : Int) := hd 1 (by kernel_rfl)
            clear hd
            simp only [overlay, List.setIfInBounds_toArray, List.set, d0, d1] at hK ⊢
            go_wp2_with fail
            exact hK _ _ X (Ext.refl _) kept_m hX rfl
          · refine ⟨_, 21, rfl, by kernel_rfl, ?_⟩
            intro u w9 X hE hX hd K hK
            have d2 : u 20 = (.pointer (some ⟨b1, o1 + i * 4, none⟩)) := hd 2 (by kernel_rfl)
            clear hd
            simp only [overlay, List.setIfInBounds_toArray, List.set, d2] at hK ⊢
            have e9 : Ext w w9 := hE0.trans ((Ext.refl wr).drew.trans hE)
            have u0 := e9.cell hx0
            have u1 := e9.cell hx1
            have u2 := e9.cell hx2
            have u3 := e9.cell hx3
            go_wp2_with fail
            exact hK _ _ X (Ext.refl _) kept_m hX rfl
          · refine ⟨_, 22, rfl, by kernel_rfl, ?_⟩
            intro u w9 X hE hX hd K hK
            clear hd
            simp only [overlay, List.setIfInBounds_toArray, List.set] at hK ⊢
            go_wp2_with fail
            exact hK _ _ X (Ext.refl _) kept_m hX rfl
          · refine ⟨_, 23, rfl, by kernel_rfl, ?_⟩
            intro u w9 X hE hX hd K hK
            clear hd
            simp only [overlay, List.setIfInBounds_toArray, List.set] at hK ⊢
            go_wp2_with fail
            exact hK _ _ X (Ext.refl _) kept_m hX rfl
          · refine ⟨_, 24, rfl, by kernel_rfl, ?_⟩
            intro u w9 X hE hX hd K hK
            have d4 : u 22 = .slice (some ⟨b2, o2, none⟩) b.length c2 := hd 4 (by kernel_rfl)
            have d5 : u 23 = .int .i64 (i : Int) := hd 5 (by kernel_rfl)
            clear hd
            simp only [overlay, List.setIfInBounds_toArray, List.set, d4, d5] at hK ⊢
            go_wp2_with fail
            exact hK _ _ X (Ext.refl _) kept_m hX rfl
          · refine ⟨_, 25, rfl, by kernel_rfl, ?_⟩
            intro u w9 X hE hX hd K hK
            have d6 : u 24 = (.pointer (some ⟨b2, o2 + i * 4, none⟩)) := hd 6 (by kernel_rfl)
            clear hd
            simp only [overlay, List.setIfInBounds_toArray, List.set, d6] at hK ⊢
            have e9 : Ext w w9 := hE0.trans ((Ext.refl wr).drew.trans hE)
            have u0 := e9.cell hy0
            have u1 := e9.cell hy1
            have u2 := e9.cell hy2
            have u3 := e9.cell hy3
            go_wp2_with fail
            exact hK _ _ X (Ext.refl _) kept_m hX rfl
          · refine ⟨_, 26, rfl, by kernel_rfl, ?_⟩
            intro u w9 X hE hX hd K hK
            have d3 : u 21 = (.agg #[x0, x1, x2, x3]) := hd 3 (by kernel_rfl)
            have d7 : u 25 = (.agg #[y0, y1, y2, y3]) := hd 7 (by kernel_rfl)
            clear hd
            simp only [overlay, List.setIfInBounds_toArray, List.set, d3, d7] at hK ⊢
            have e9 : Ext w w9 := hE0.trans ((Ext.refl wr).drew.trans hE)
            go_wp2_with fail
            refine (HSM.out w9 e9).mono ?_
            rintro e w8 ⟨rfl, hE8⟩
            go_wp2_with fail
            exact hK _ _ X hE8 kept_m (hX.ext hE8) rfl
          · refine ⟨_, 27, rfl, by kernel_rfl, ?_⟩
            intro u w9 X hE hX hd K hK
            have d8 : u 26 = .bool sv := hd 8 (by kernel_rfl)
            clear hd
            simp only [overlay, List.setIfInBounds_toArray, List.set, d8] at hK ⊢
            go_wp2_with fail
            exact hK _ _ X (Ext.refl _) kept_m hX rfl
        · exact mem_nil_m
        intro u w9 X hE hX hd
        have d0 : u 18 = .slice (some ⟨b1, o1, none⟩) a.length c1 := hd 0 (by decide)
        have d1 : u 19 = .int .i64 (i : Int) := hd 1 (by decide)
        have d2 : u 20 = (.pointer (some ⟨b1, o1 + i * 4, none⟩)) := hd 2 (by decide)
        have d3 : u 21 = (.agg #[x0, x1, x2, x3]) := hd 3 (by decide)
        have d4 : u 22 = .slice (some ⟨b2, o2, none⟩) b.length c2 := hd 4 (by decide)
        have d5 : u 23 = .int .i64 (i : Int) := hd 5 (by decide)
        have d6 : u 24 = (.pointer (some ⟨b2, o2 + i * 4, none⟩)) := hd 6 (by decide)
        have d7 : u 25 = (.agg #[y0, y1, y2, y3]) := hd 7 (by decide)
        have d8 : u 26 = .bool sv := hd 8 (by decide)
        have d9 : u 27 = .bool (!sv) := hd 9 (by decide)
        clear hd
        simp only [overlay, List.setIfInBounds_toArray, List.set, d0, d1, d2, d3, d4, d5, d6, d7, d8, d9]
        clear d0 d1 d2 d3 d4 d5 d6 d7 d8 d9
        have e9 : Ext w w9 := hE0.trans ((Ext.refl wr).drew.trans hE)
        clear hE hX hx0 hx1 hx2 hx3 hy0 hy1 hy2 hy3 HSM
        generalize u 18 = z18
        generalize u 20 = z20
        generalize u 21 = z21
        generalize u 22 = z22
        generalize u 24 = z24
        generalize u 25 = z25
        clear u
        cases sv with
        | true =>
          have HT3 := HT2.out
          rw [Bool.true_and] at HT3
          have HT4 := Lib.hid HT3
          clear HT2 HT3
          go_wp2_with fail
          go_roundw
          case rel => exact ⟨i + 1, by omega, by omega, by go_num, e9, HT4⟩
          case measure => simp [intOf]; omega
        | false =>
          have HT3 := HT2.out
          rw [Bool.false_and] at HT3
          have HT4 := Lib.hid HT3
          clear HT2 HT3
          go_wp2_with fail
          go_ret
          exact ⟨ret_bool HT4.out, e9⟩
end Go.Proofs.Ytmpjnjhiklaofaa
