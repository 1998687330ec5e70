/-
  THE WALKS of the reference's check and Right. (Printed by gen_check.py.)
-/
import Derived.Test.YtgkemmdghmklfaaR03
namespace Go.Proofs.Ytgkemmdghmklfaa
set_option linter.unusedSimpArgs false
set_option linter.unusedVariables false
open Go.RowKit

def othV (k : Int) (n : List Int) (it : List Arr) : Nat := if k = 3 then n.length else it.length

mutual
/-- check: the error and the depth. -/
def rcheckV : Arr → Int × Int
  | .mk k s n it => if k < 1 ∨ 3 < k then (14, 0) else if dimsV s ≠ 0 then (dimsV s, 0) else if sizeV (.mk k s n it) ≠ countV s then (16, 0) else if 0 < othV k n it then (16, 0) else
      if n.any (badNum k) = true then (17, 0) else
      match ritems it 0 with
      | none => (17, 0)
      | some d => if 16 < d then (21, 0) else if 262144 < rwV (.mk k s n it) then (21, 0) else (0, d)
def ritems : List Arr → Int → Option Int
  | [], d => some d
  | x :: r, d => if (rcheckV x).1 ≠ 0 then none else ritems r (max d ((rcheckV x).2 + 1))
end
def rrightV (t : Arr) : Int := (rcheckV t).1

theorem ritems_nn : ∀ (l : List Arr) (d d' : Int), 0 ≤ d → (∀ x ∈ l, 0 ≤ (rcheckV x).2) → ritems l d = some d' → 0 ≤ d'
  | [], d, d', h1, _, h => by
    rw [ritems] at h
    cases h
    exact h1
  | x :: r, d, d', h1, hx, h => by
    rw [ritems] at h
    split at h
    · cases h
    · have := hx x (by simp)
      exact ritems_nn r _ _ (by omega) (fun y hy => hx y (by simp [hy])) h
theorem rcheckV_bd : ∀ (m : Nat) (t : Arr), SizeOf.sizeOf t < m → 0 ≤ (rcheckV t).2 ∧ (rcheckV t).2 ≤ 16
  | 0, _, h => by omega
  | m + 1, .mk k s n it, h => by
    rw [rcheckV]
    split
    · simp
    split
    · simp
    split
    · simp
    split
    · simp
    split
    · simp
    split
    · simp
    · rename_i d he
      have hn := ritems_nn it 0 d (by omega) (fun x hx => by
        have := List.sizeOf_lt_of_mem hx
        have := rcheckV_bd m x (by simp at h; omega)
        omega) he
      split
      · simp
      · split
        · simp
        · simp; omega

set_option maxRecDepth 100000 in
set_option maxHeartbeats 4000000 in
theorem r3check_any (F : Nat → Prop) : ∀ (m : Nat) (t : Arr) (c0 c1 c2 c3 : Value) (w : World), SizeOf.sizeOf t < m → ArrAt F w t c0 c1 c2 c3 →
    Calls Try.prog 69 #[.agg #[c0, c1, c2, c3]] w fun e w' => e = .returned (.tuple #[.int .i64 (rcheckV t).1, .int .i64 (rcheckV t).2]) ∧ Ext w w' := by
  intro m
  induction m with
  | zero => intro t c0 c1 c2 c3 w hm; omega
  | succ m ih =>
    intro t c0 c1 c2 c3 w hm h
    obtain ⟨k, s, n, it⟩ := t
    have HT := Lib.hid h
    unfold ArrAt at h
    obtain ⟨rfl, hk, ⟨p1, k1, rfl, ⟨o1, o1', o1''⟩, i1⟩, ⟨p2, k2, rfl, ⟨o2, o2', o2''⟩, i2⟩, ⟨p3, k3, rfl, ⟨o3, o3', o3''⟩, i3⟩⟩ := h
    have IH := Lib.hid ih
    have I1 := Lib.hid i1
    have I2 := Lib.hid i2
    have I3 := Lib.hid i3
    have HM := Lib.hid hm
    clear ih i1 i2 i3 hm
    generalize hans : rcheckV (.mk k s n it) = ans
    rw [rcheckV] at hans
    by_cases hk1 : k < 1
    · rw [if_pos (.inl hk1)] at hans
      subst hans
      go_enter Try.func69, Try.ntmps69
      go_wp2_with fail
      go_ret2
      exact ⟨rfl, (Ext.refl _).alloc _⟩
    by_cases hk2 : 3 < k
    · rw [if_pos (.inr hk2)] at hans
      subst hans
      go_enter Try.func69, Try.ntmps69
      go_wp2_with fail
      go_ret2
      exact ⟨rfl, (Ext.refl _).alloc _⟩
    rw [if_neg (by omega)] at hans
    have HDIM := Lib.hid (fun w' e => r3dims_any F p1 k1 s w' (I1.out.ext (w' := w') e) (by unfold lenMax; omega))
    generalize hdv : dimsV s = dv at *
    by_cases hd0 : dv ≠ 0
    · rw [if_pos hd0] at hans
      subst hans
      have hd1 : (dv != 0) = true := by simpa using hd0
      clear hdv hd0
      go_enter Try.func69, Try.ntmps69
      go_wp2_with fail
      refine (HDIM.out _ ((Ext.refl _).alloc _)).mono ?_
      rintro e w1 ⟨rfl, rfl⟩
      go_wp2_with fail
      go_ret2
      exact ⟨rfl, (Ext.refl _).alloc _⟩
    rw [if_neg hd0] at hans
    obtain rfl : dv = 0 := by omega
    clear hd0
    have HSZ := Lib.hid (fun w' e => r3size_any F (.mk k s n it) _ _ _ _ w' (HT.out.ext (w' := w') e))
    have HCN := Lib.hid (fun w' e => r3count_any F p1 k1 s w' (I1.out.ext (w' := w') e) (by unfold lenMax; omega))
    have HWT := Lib.hid (fun w' e => r3weight_any F _ (.mk k s n it) _ _ _ _ w' (Nat.lt_succ_self _) (HT.out.ext (w' := w') e))
    have hwb := rwV_bd (.mk k s n it)
    generalize sizeV (.mk k s n it) = sz at *
    generalize countV s = cn at *
    generalize rwV (.mk k s n it) = rw at *
    have HDV := Lib.hid hdv
    clear hdv
    obtain ⟨other, hother⟩ : ∃ o : Nat, o = othV k n it := ⟨_, rfl⟩
    rw [← hother] at hans
    have hob : other ≤ 17592186044416 := by rw [hother, othV]; split <;> omega
    have HANS := Lib.hid hans
    have HOTHER := Lib.hid hother
    clear hans hother
    -- up to the region
    go_enter Try.func69, Try.ntmps69
    go_wp2_with fail
    have hE0 : Ext w (w.alloc (.cells #[.int .i64 k, .slice p1 s.length k1, .slice p2 n.length k2, .slice p3 it.length k3] 26)) := (Ext.refl _).alloc _
    have hB := box_new w (.int .i64 k) (.slice p1 s.length k1) (.slice p2 n.length k2) (.slice p3 it.length k3)
    refine (HDIM.out _ hE0).mono ?_
    rintro e w1 ⟨rfl, rfl⟩
    generalize w.alloc (.cells #[.int .i64 k, .slice p1 s.length k1, .slice p2 n.length k2, .slice p3 it.length k3] 26) = wa at hE0 hB ⊢
    generalize hb : w.heap.size = b at *
    have HBN := Lib.hid hb
    clear hb HDIM
    have HB := Lib.hid hB
    obtain ⟨s0, s1, s2, s3⟩ := hB.cell
    clear hB
    have key : ∀ (b3 : Bool), (k == 3) = b3 → True := fun _ _ => trivial
    clear key
    by_cases hk3 : (k == 3) = true
    · obtain rfl : other = n.length := by rw [HOTHER.out, othV, if_pos (by simpa using hk3)]
      clear HOTHER
      go_wp2_with fail
      by_cases hsz : sz ≠ cn
      · have hz : (sz != cn) = true := by simpa using hsz
        have hF : ans = (16, 0) := by
          have := HANS.out
          rw [if_pos hsz] at this
          exact this.symm
        subst hF
        clear hsz
        refine wp_region_x0 [MProp.is (.agg #[.int .i64 k, .slice p1 s.length k1, .slice p2 n.length k2, .slice p3 it.length k3]), MProp.is (.int .i64 sz), MProp.is (.pointer (some ⟨b, 1, none⟩)), MProp.is (.slice p1 s.length k1), MProp.is (.int .i64 cn), MProp.is (.bool true), MProp.is (.bool true), MProp.is (undef), MProp.is (undef), MProp.is (.bool true)] [0, 1, 2, 3, 4, 5, 6, 7, 8, 9] [] [34, 35, 36, 37, 38, 39, 40, 41, 42, 43] (by kernel_rfl) (by kernel_rfl) rfl ?_ ?_ ?_
        · refine mem_cons_m ?_ (mem_cons_m ?_ (mem_cons_m ?_ (mem_cons_m ?_ (mem_cons_m ?_ (mem_cons_m ?_ (mem_cons_m ?_ (mem_cons_m ?_ (mem_cons_m ?_ (mem_cons_m ?_ (mem_nil_m))))))))))
          · refine ⟨_, 34, rfl, by kernel_rfl, ?_⟩
            intro u w9 X hE hX hd K hK
            clear hd
            simp only [overlay, List.setIfInBounds_toArray, List.set] at hK ⊢
            have e9 := (Ext.refl wa).drew.trans hE
            obtain ⟨s0, s1, s2, s3⟩ := (HB.out.ext e9).cell
            clear hE
            go_wp2_with fail
            exact hK _ _ X (Ext.refl _) kept_m hX rfl
          · refine ⟨_, 35, rfl, by kernel_rfl, ?_⟩
            intro u w9 X hE hX hd K hK
            have d0 : u 34 = .agg #[.int .i64 k, .slice p1 s.length k1, .slice p2 n.length k2, .slice p3 it.length k3] := hd 0 (by kernel_rfl)
            clear hd
            simp only [overlay, List.setIfInBounds_toArray, List.set, d0] at hK ⊢
            have e9 := (Ext.refl wa).drew.trans hE
            go_wp2_with fail
            refine (HSZ.out _ (hE0.trans e9)).mono ?_
            rintro e w8 ⟨rfl, hE8⟩
            go_wp2_with fail
            exact hK _ _ X hE8 kept_m (hX.ext hE8) rfl
          · refine ⟨_, 36, rfl, by kernel_rfl, ?_⟩
            intro u w9 X hE hX hd K hK
            clear hd
            simp only [overlay, List.setIfInBounds_toArray, List.set] at hK ⊢
            go_wp2_with fail
            exact hK _ _ X (Ext.refl _) kept_m hX rfl
          · refine ⟨_, 37, rfl, by kernel_rfl, ?_⟩
            intro u w9 X hE hX hd K hK
            have d2 : u 36 = .pointer (some ⟨b, 1, none⟩) := hd 2 (by kernel_rfl)
            clear hd
            simp only [overlay, List.setIfInBounds_toArray, List.set, d2] at hK ⊢
            have e9 := (Ext.refl wa).drew.trans hE
            obtain ⟨s0, s1, s2, s3⟩ := (HB.out.ext e9).cell
            clear hE
            go_wp2_with fail
            exact hK _ _ X (Ext.refl _) kept_m hX rfl
          · refine ⟨_, 38, rfl, by kernel_rfl, ?_⟩
            intro u w9 X hE hX hd K hK
            have d3 : u 37 = .slice p1 s.length k1 := hd 3 (by kernel_rfl)
            clear hd
            simp only [overlay, List.setIfInBounds_toArray, List.set, d3] at hK ⊢
            have e9 := (Ext.refl wa).drew.trans hE
            go_wp2_with fail
            refine (HCN.out _ (hE0.trans e9)).mono ?_
            rintro e w8 ⟨rfl, rfl⟩
            go_wp2_with fail
            exact hK _ _ X (Ext.refl _) kept_m hX rfl
          · refine ⟨_, 39, rfl, by kernel_rfl, ?_⟩
            intro u w9 X hE hX hd K hK
            have d1 : u 35 = .int .i64 sz := hd 1 (by kernel_rfl)
            have d4 : u 38 = .int .i64 cn := hd 4 (by kernel_rfl)
            clear hd
            simp only [overlay, List.setIfInBounds_toArray, List.set, d1, d4] at hK ⊢
            go_wp2_with fail
            exact hK _ _ X (Ext.refl _) kept_m hX rfl
          · refine ⟨_, 40, rfl, by kernel_rfl, ?_⟩
            intro u w9 X hE hX hd K hK
            have d5 : u 39 = .bool true := hd 5 (by kernel_rfl)
            clear hd
            simp only [overlay, List.setIfInBounds_toArray, List.set, d5] at hK ⊢
            go_wp2_with fail
            exact hK _ _ X (Ext.refl _) kept_m hX rfl
          · refine ⟨_, 41, rfl, by kernel_rfl, ?_⟩
            intro u w9 X hE hX hd K hK
            have d6 : u 40 = .bool true := hd 6 (by kernel_rfl)
            clear hd
            simp only [overlay, List.setIfInBounds_toArray, List.set, d6] at hK ⊢
            go_wp2_with fail
            exact hK _ _ X (Ext.refl _) kept_m hX rfl
          · refine ⟨_, 42, rfl, by kernel_rfl, ?_⟩
            intro u w9 X hE hX hd K hK
            have d7 : u 41 = undef := hd 7 (by kernel_rfl)
            have d6 : u 40 = .bool true := hd 6 (by kernel_rfl)
            clear hd
            simp only [overlay, List.setIfInBounds_toArray, List.set, d7, d6] at hK ⊢
            go_wp2_with fail
            exact hK _ _ X (Ext.refl _) kept_m hX rfl
          · refine ⟨_, 43, rfl, by kernel_rfl, ?_⟩
            intro u w9 X hE hX hd K hK
            have d6 : u 40 = .bool true := hd 6 (by kernel_rfl)
            have d8 : u 42 = undef := hd 8 (by kernel_rfl)
            clear hd
            simp only [overlay, List.setIfInBounds_toArray, List.set, d6, d8] at hK ⊢
            go_wp2_with fail
            exact hK _ _ X (Ext.refl _) kept_m hX rfl
        · exact mem_nil_m
        intro u w9 X hE hX hd
        have d0 : u 34 = .agg #[.int .i64 k, .slice p1 s.length k1, .slice p2 n.length k2, .slice p3 it.length k3] := hd 0 (by decide)
        have d1 : u 35 = .int .i64 sz := hd 1 (by decide)
        have d2 : u 36 = .pointer (some ⟨b, 1, none⟩) := hd 2 (by decide)
        have d3 : u 37 = .slice p1 s.length k1 := hd 3 (by decide)
        have d4 : u 38 = .int .i64 cn := hd 4 (by decide)
        have d5 : u 39 = .bool true := hd 5 (by decide)
        have d6 : u 40 = .bool true := hd 6 (by decide)
        have d7 : u 41 = undef := hd 7 (by decide)
        have d8 : u 42 = undef := hd 8 (by decide)
        have d9 : u 43 = .bool true := hd 9 (by decide)
        clear hd
        simp only [overlay, List.setIfInBounds_toArray, List.set, d0, d1, d2, d3, d4, d5, d6, d7, d8, d9]
        have e9 := (Ext.refl wa).drew.trans hE
        have hE9 := hE0.trans e9
        go_wp2_with fail
        go_ret2
        exact ⟨rfl, hE9⟩
      have hz : (sz != cn) = false := by simpa using hsz
      by_cases hot : 0 < n.length
      · have hF : ans = (16, 0) := by
          have := HANS.out
          rw [if_neg hsz, if_pos hot] at this
          exact this.symm
        subst hF
        clear hsz
        refine wp_region_x0 [MProp.is (.agg #[.int .i64 k, .slice p1 s.length k1, .slice p2 n.length k2, .slice p3 it.length k3]), MProp.is (.int .i64 sz), MProp.is (.pointer (some ⟨b, 1, none⟩)), MProp.is (.slice p1 s.length k1), MProp.is (.int .i64 cn), MProp.is (.bool false), MProp.is (.bool false), MProp.is (.int .i64 n.length), MProp.is (.bool true), MProp.is (.bool true)] [0, 1, 2, 3, 4, 5, 6, 7, 8, 9] [] [34, 35, 36, 37, 38, 39, 40, 41, 42, 43] (by kernel_rfl) (by kernel_rfl) rfl ?_ ?_ ?_
        · refine mem_cons_m ?_ (mem_cons_m ?_ (mem_cons_m ?_ (mem_cons_m ?_ (mem_cons_m ?_ (mem_cons_m ?_ (mem_cons_m ?_ (mem_cons_m ?_ (mem_cons_m ?_ (mem_cons_m ?_ (mem_nil_m))))))))))
          · refine ⟨_, 34, rfl, by kernel_rfl, ?_⟩
            intro u w9 X hE hX hd K hK
            clear hd
            simp only [overlay, List.setIfInBounds_toArray, List.set] at hK ⊢
            have e9 := (Ext.refl wa).drew.trans hE
            obtain ⟨s0, s1, s2, s3⟩ := (HB.out.ext e9).cell
            clear hE
            go_wp2_with fail
            exact hK _ _ X (Ext.refl _) kept_m hX rfl
          · refine ⟨_, 35, rfl, by kernel_rfl, ?_⟩
            intro u w9 X hE hX hd K hK
            have d0 : u 34 = .agg #[.int .i64 k, .slice p1 s.length k1, .slice p2 n.length k2, .slice p3 it.length k3] := hd 0 (by kernel_rfl)
            clear hd
            simp only [overlay, List.setIfInBounds_toArray, List.set, d0] at hK ⊢
            have e9 := (Ext.refl wa).drew.trans hE
            go_wp2_with fail
            refine (HSZ.out _ (hE0.trans e9)).mono ?_
            rintro e w8 ⟨rfl, hE8⟩
            go_wp2_with fail
            exact hK _ _ X hE8 kept_m (hX.ext hE8) rfl
          · refine ⟨_, 36, rfl, by kernel_rfl, ?_⟩
            intro u w9 X hE hX hd K hK
            clear hd
            simp only [overlay, List.setIfInBounds_toArray, List.set] at hK ⊢
            go_wp2_with fail
            exact hK _ _ X (Ext.refl _) kept_m hX rfl
          · refine ⟨_, 37, rfl, by kernel_rfl, ?_⟩
            intro u w9 X hE hX hd K hK
            have d2 : u 36 = .pointer (some ⟨b, 1, none⟩) := hd 2 (by kernel_rfl)
            clear hd
            simp only [overlay, List.setIfInBounds_toArray, List.set, d2] at hK ⊢
            have e9 := (Ext.refl wa).drew.trans hE
            obtain ⟨s0, s1, s2, s3⟩ := (HB.out.ext e9).cell
            clear hE
            go_wp2_with fail
            exact hK _ _ X (Ext.refl _) kept_m hX rfl
          · refine ⟨_, 38, rfl, by kernel_rfl, ?_⟩
            intro u w9 X hE hX hd K hK
            have d3 : u 37 = .slice p1 s.length k1 := hd 3 (by kernel_rfl)
            clear hd
            simp only [overlay, List.setIfInBounds_toArray, List.set, d3] at hK ⊢
            have e9 := (Ext.refl wa).drew.trans hE
            go_wp2_with fail
            refine (HCN.out _ (hE0.trans e9)).mono ?_
            rintro e w8 ⟨rfl, rfl⟩
            go_wp2_with fail
            exact hK _ _ X (Ext.refl _) kept_m hX rfl
          · refine ⟨_, 39, rfl, by kernel_rfl, ?_⟩
            intro u w9 X hE hX hd K hK
            have d1 : u 35 = .int .i64 sz := hd 1 (by kernel_rfl)
            have d4 : u 38 = .int .i64 cn := hd 4 (by kernel_rfl)
            clear hd
            simp only [overlay, List.setIfInBounds_toArray, List.set, d1, d4] at hK ⊢
            go_wp2_with fail
            exact hK _ _ X (Ext.refl _) kept_m hX rfl
          · refine ⟨_, 40, rfl, by kernel_rfl, ?_⟩
            intro u w9 X hE hX hd K hK
            have d5 : u 39 = .bool false := hd 5 (by kernel_rfl)
            clear hd
            simp only [overlay, List.setIfInBounds_toArray, List.set, d5] at hK ⊢
            go_wp2_with fail
            exact hK _ _ X (Ext.refl _) kept_m hX rfl
          · refine ⟨_, 41, rfl, by kernel_rfl, ?_⟩
            intro u w9 X hE hX hd K hK
            have d6 : u 40 = .bool false := hd 6 (by kernel_rfl)
            clear hd
            simp only [overlay, List.setIfInBounds_toArray, List.set, d6] at hK ⊢
            go_wp2_with fail
            exact hK _ _ X (Ext.refl _) kept_m hX rfl
          · refine ⟨_, 42, rfl, by kernel_rfl, ?_⟩
            intro u w9 X hE hX hd K hK
            have d7 : u 41 = .int .i64 n.length := hd 7 (by kernel_rfl)
            have d6 : u 40 = .bool false := hd 6 (by kernel_rfl)
            clear hd
            simp only [overlay, List.setIfInBounds_toArray, List.set, d7, d6] at hK ⊢
            go_wp2_with fail
            exact hK _ _ X (Ext.refl _) kept_m hX rfl
          · refine ⟨_, 43, rfl, by kernel_rfl, ?_⟩
            intro u w9 X hE hX hd K hK
            have d6 : u 40 = .bool false := hd 6 (by kernel_rfl)
            have d8 : u 42 = .bool true := hd 8 (by kernel_rfl)
            clear hd
            simp only [overlay, List.setIfInBounds_toArray, List.set, d6, d8] at hK ⊢
            go_wp2_with fail
            exact hK _ _ X (Ext.refl _) kept_m hX rfl
        · exact mem_nil_m
        intro u w9 X hE hX hd
        have d0 : u 34 = .agg #[.int .i64 k, .slice p1 s.length k1, .slice p2 n.length k2, .slice p3 it.length k3] := hd 0 (by decide)
        have d1 : u 35 = .int .i64 sz := hd 1 (by decide)
        have d2 : u 36 = .pointer (some ⟨b, 1, none⟩) := hd 2 (by decide)
        have d3 : u 37 = .slice p1 s.length k1 := hd 3 (by decide)
        have d4 : u 38 = .int .i64 cn := hd 4 (by decide)
        have d5 : u 39 = .bool false := hd 5 (by decide)
        have d6 : u 40 = .bool false := hd 6 (by decide)
        have d7 : u 41 = .int .i64 n.length := hd 7 (by decide)
        have d8 : u 42 = .bool true := hd 8 (by decide)
        have d9 : u 43 = .bool true := hd 9 (by decide)
        clear hd
        simp only [overlay, List.setIfInBounds_toArray, List.set, d0, d1, d2, d3, d4, d5, d6, d7, d8, d9]
        have e9 := (Ext.refl wa).drew.trans hE
        have hE9 := hE0.trans e9
        go_wp2_with fail
        go_ret2
        exact ⟨rfl, hE9⟩
      have HANS2 : Hid ((if n.any (badNum k) = true then ((17 : Int), (0 : Int)) else match ritems it 0 with | none => (17, 0) | some d => if 16 < d then (21, 0) else if 262144 < rw then (21, 0) else (0, d)) = ans) := by
        have := HANS.out
        rw [if_neg hsz, if_neg hot] at this
        exact this
      clear HANS hsz
      refine wp_region_x0 [MProp.is (.agg #[.int .i64 k, .slice p1 s.length k1, .slice p2 n.length k2, .slice p3 it.length k3]), MProp.is (.int .i64 sz), MProp.is (.pointer (some ⟨b, 1, none⟩)), MProp.is (.slice p1 s.length k1), MProp.is (.int .i64 cn), MProp.is (.bool false), MProp.is (.bool false), MProp.is (.int .i64 n.length), MProp.is (.bool false), MProp.is (.bool false)] [0, 1, 2, 3, 4, 5, 6, 7, 8, 9] [] [34, 35, 36, 37, 38, 39, 40, 41, 42, 43] (by kernel_rfl) (by kernel_rfl) rfl ?_ ?_ ?_
      · refine mem_cons_m ?_ (mem_cons_m ?_ (mem_cons_m ?_ (mem_cons_m ?_ (mem_cons_m ?_ (mem_cons_m ?_ (mem_cons_m ?_ (mem_cons_m ?_ (mem_cons_m ?_ (mem_cons_m ?_ (mem_nil_m))))))))))
        · refine ⟨_, 34, rfl, by kernel_rfl, ?_⟩
          intro u w9 X hE hX hd K hK
          clear hd
          simp only [overlay, List.setIfInBounds_toArray, List.set] at hK ⊢
          have e9 := (Ext.refl wa).drew.trans hE
          obtain ⟨s0, s1, s2, s3⟩ := (HB.out.ext e9).cell
          clear hE
          go_wp2_with fail
          exact hK _ _ X (Ext.refl _) kept_m hX rfl
        · refine ⟨_, 35, rfl, by kernel_rfl, ?_⟩
          intro u w9 X hE hX hd K hK
          have d0 : u 34 = .agg #[.int .i64 k, .slice p1 s.length k1, .slice p2 n.length k2, .slice p3 it.length k3] := hd 0 (by kernel_rfl)
          clear hd
          simp only [overlay, List.setIfInBounds_toArray, List.set, d0] at hK ⊢
          have e9 := (Ext.refl wa).drew.trans hE
          go_wp2_with fail
          refine (HSZ.out _ (hE0.trans e9)).mono ?_
          rintro e w8 ⟨rfl, hE8⟩
          go_wp2_with fail
          exact hK _ _ X hE8 kept_m (hX.ext hE8) rfl
        · refine ⟨_, 36, rfl, by kernel_rfl, ?_⟩
          intro u w9 X hE hX hd K hK
          clear hd
          simp only [overlay, List.setIfInBounds_toArray, List.set] at hK ⊢
          go_wp2_with fail
          exact hK _ _ X (Ext.refl _) kept_m hX rfl
        · refine ⟨_, 37, rfl, by kernel_rfl, ?_⟩
          intro u w9 X hE hX hd K hK
          have d2 : u 36 = .pointer (some ⟨b, 1, none⟩) := hd 2 (by kernel_rfl)
          clear hd
          simp only [overlay, List.setIfInBounds_toArray, List.set, d2] at hK ⊢
          have e9 := (Ext.refl wa).drew.trans hE
          obtain ⟨s0, s1, s2, s3⟩ := (HB.out.ext e9).cell
          clear hE
          go_wp2_with fail
          exact hK _ _ X (Ext.refl _) kept_m hX rfl
        · refine ⟨_, 38, rfl, by kernel_rfl, ?_⟩
          intro u w9 X hE hX hd K hK
          have d3 : u 37 = .slice p1 s.length k1 := hd 3 (by kernel_rfl)
          clear hd
          simp only [overlay, List.setIfInBounds_toArray, List.set, d3] at hK ⊢
          have e9 := (Ext.refl wa).drew.trans hE
          go_wp2_with fail
          refine (HCN.out _ (hE0.trans e9)).mono ?_
          rintro e w8 ⟨rfl, rfl⟩
          go_wp2_with fail
          exact hK _ _ X (Ext.refl _) kept_m hX rfl
        · refine ⟨_, 39, rfl, by kernel_rfl, ?_⟩
          intro u w9 X hE hX hd K hK
          have d1 : u 35 = .int .i64 sz := hd 1 (by kernel_rfl)
          have d4 : u 38 = .int .i64 cn := hd 4 (by kernel_rfl)
          clear hd
          simp only [overlay, List.setIfInBounds_toArray, List.set, d1, d4] at hK ⊢
          go_wp2_with fail
          exact hK _ _ X (Ext.refl _) kept_m hX rfl
        · refine ⟨_, 40, rfl, by kernel_rfl, ?_⟩
          intro u w9 X hE hX hd K hK
          have d5 : u 39 = .bool false := hd 5 (by kernel_rfl)
          clear hd
          simp only [overlay, List.setIfInBounds_toArray, List.set, d5] at hK ⊢
          go_wp2_with fail
          exact hK _ _ X (Ext.refl _) kept_m hX rfl
        · refine ⟨_, 41, rfl, by kernel_rfl, ?_⟩
          intro u w9 X hE hX hd K hK
          have d6 : u 40 = .bool false := hd 6 (by kernel_rfl)
          clear hd
          simp only [overlay, List.setIfInBounds_toArray, List.set, d6] at hK ⊢
          go_wp2_with fail
          exact hK _ _ X (Ext.refl _) kept_m hX rfl
        · refine ⟨_, 42, rfl, by kernel_rfl, ?_⟩
          intro u w9 X hE hX hd K hK
          have d7 : u 41 = .int .i64 n.length := hd 7 (by kernel_rfl)
          have d6 : u 40 = .bool false := hd 6 (by kernel_rfl)
          clear hd
          simp only [overlay, List.setIfInBounds_toArray, List.set, d7, d6] at hK ⊢
          go_wp2_with fail
          exact hK _ _ X (Ext.refl _) kept_m hX rfl
        · refine ⟨_, 43, rfl, by kernel_rfl, ?_⟩
          intro u w9 X hE hX hd K hK
          have d6 : u 40 = .bool false := hd 6 (by kernel_rfl)
          have d8 : u 42 = .bool false := hd 8 (by kernel_rfl)
          clear hd
          simp only [overlay, List.setIfInBounds_toArray, List.set, d6, d8] at hK ⊢
          go_wp2_with fail
          exact hK _ _ X (Ext.refl _) kept_m hX rfl
      · exact mem_nil_m
      intro u w9 X hE hX hd
      have d0 : u 34 = .agg #[.int .i64 k, .slice p1 s.length k1, .slice p2 n.length k2, .slice p3 it.length k3] := hd 0 (by decide)
      have d1 : u 35 = .int .i64 sz := hd 1 (by decide)
      have d2 : u 36 = .pointer (some ⟨b, 1, none⟩) := hd 2 (by decide)
      have d3 : u 37 = .slice p1 s.length k1 := hd 3 (by decide)
      have d4 : u 38 = .int .i64 cn := hd 4 (by decide)
      have d5 : u 39 = .bool false := hd 5 (by decide)
      have d6 : u 40 = .bool false := hd 6 (by decide)
      have d7 : u 41 = .int .i64 n.length := hd 7 (by decide)
      have d8 : u 42 = .bool false := hd 8 (by decide)
      have d9 : u 43 = .bool false := hd 9 (by decide)
      clear hd
      simp only [overlay, List.setIfInBounds_toArray, List.set, d0, d1, d2, d3, d4, d5, d6, d7, d8, d9]
      have e9 := (Ext.refl wa).drew.trans hE
      have hE9 := hE0.trans e9
      have HB2 := Lib.hid (HB.out.ext e9)
      have HE2 := Lib.hid hE9
      clear d0 d1 d2 d3 d4 d5 d6 d7 d8 d9 hX hE HB hE0 s0 s1 s2 s3 e9 hE9 HSZ HCN
      generalize u 34 = t34; generalize u 35 = t35; generalize u 36 = t36; generalize u 37 = t37; generalize u 38 = t38; generalize u 39 = t39; generalize u 40 = t40; generalize u 41 = t41; generalize u 42 = t42
      clear u
      obtain ⟨s0, s1, s2, s3⟩ := HB2.out.cell
      have i2 := I2.out.ext HE2.out
      have I2W := Lib.hid i2
      clear i2
      generalize hbad : n.any (badNum k) = bad at *
      have HBAD : Hid ((n.drop 0).any (badNum k) = bad) := hbad
      clear hbad
      go_wp2_with fail
      go_loopw [6] (fun i wr => ∃ (j : Nat), j ≤ n.length ∧ i = .int .i64 j ∧ w9 = wr ∧ Hid ((n.drop j).any (badNum k) = bad)) (fun i _ => n.length - (intOf i).toNat)
      case atStart => exact ⟨0, Nat.zero_le _, rfl, rfl, HBAD.out⟩
      case round =>
        obtain ⟨j, hj, rfl, rfl, HR⟩ := hrel
        clear HBAD
        by_cases hlt : j < n.length
        · exact absurd hlt (by omega)
        · have HA3 : Hid ((match ritems it 0 with
              | none => (17, 0)
              | some d => if 16 < d then (21, 0) else if 262144 < rw then (21, 0) else (0, d)) = ans) := by
            have h1 : bad = false := by
              have := HR.out
              rw [List.drop_of_length_le (by omega)] at this
              exact this.symm
            have := HANS2.out
            rw [if_neg (by simp [h1])] at this
            exact this
          clear HR HANS2 I2W
          go_wp2_with fail
          go_loopw [7, 8, 9, 10] (fun dp i _ _ wr => ∃ (j : Nat) (dv : Int), j ≤ it.length ∧ i = .int .i64 j ∧ dp = .int .i64 dv ∧ 0 ≤ dv ∧ dv ≤ 17 ∧ Ext w9 wr ∧
              Hid ((match ritems (it.drop j) dv with
              | none => (17, 0)
              | some d => if 16 < d then (21, 0) else if 262144 < rw then (21, 0) else (0, d)) = ans)) (fun _ i _ _ _ => it.length - (intOf i).toNat)
          case atStart => exact ⟨0, 0, Nat.zero_le _, rfl, rfl, by omega, by omega, Ext.refl _, HA3.out⟩
          case round =>
            obtain ⟨j', dv, hj', rfl, rfl, hd0, hd1, hE3, HR⟩ := hrel
            clear HA3 s0 s1 s2 s3
            obtain ⟨s0, s1, s2, s3⟩ := (HB2.out.ext hE3).cell
            by_cases hlt' : j' < it.length
            · obtain ⟨bb, off, x0, x1, x2, x3, rfl, _, g0, g1, g2, g3, hx⟩ := ItemsAt.get it _ 0 j' I3.out hlt'
              rw [Nat.zero_add] at g0 g1 g2 g3
              have G0 := (HE2.out.trans hE3).cell g0
              have G1 := (HE2.out.trans hE3).cell g1
              have G2 := (HE2.out.trans hE3).cell g2
              have G3 := (HE2.out.trans hE3).cell g3
              have hsz : SizeOf.sizeOf it[j'] < m := by
                have h1 := List.sizeOf_lt_of_mem (List.getElem_mem hlt')
                have h2 := HM.out
                simp at h2
                omega
              have HCALL := Lib.hid (fun w' e => IH.out it[j'] x0 x1 x2 x3 w' hsz (hx.ext (w' := w') e))
              have hbd := rcheckV_bd _ it[j'] (Nat.lt_succ_self _)
              have HD := hid_intro (drop_getA hlt')
              clear g0 g1 g2 g3 hsz
              obtain ⟨y0, q1, l1, m1, q2, l2, m2, q3, l3, m3, rfl, rfl, rfl, rfl⟩ := hx.form
              clear hx
              generalize it[j'] = x at *
              by_cases he : (rcheckV x).1 = 0
              · have HN : Hid ((match ritems (it.drop (j' + 1)) (max dv ((rcheckV x).2 + 1)) with
                  | none => (17, 0)
                  | some d => if 16 < d then (21, 0) else if 262144 < rw then (21, 0) else (0, d)) = ans) := by
                  have := HR.out
                  rw [HD.out, ritems, if_neg (by omega)] at this
                  exact this
                have HE := Lib.hid he
                clear HR HD he
                generalize hrx : rcheckV x = rx at *
                obtain ⟨r1, r2⟩ := rx
                clear hrx
                have HE' := HE.out
                dsimp only at HE' hbd
                subst HE'
                go_wp2_with fail
                refine (HCALL.out _ (HE2.out.trans hE3)).mono ?_
                rintro e w4 ⟨rfl, hE4⟩
                go_wp2_with fail
                go_roundw
                case rel => exact ⟨j' + 1, max dv (r2 + 1), by omega, by go_num, by rw [max_spelt], by omega, by omega, hE3.trans hE4, HN.out⟩
                case measure => simp [intOf]; omega
              · have HF : Hid (ans = (17, 0)) := by
                  have := HR.out
                  rw [HD.out, ritems, if_pos he] at this
                  exact this.symm
                have he' : ((rcheckV x).1 != 0) = true := by simpa using he
                clear HR HD he
                generalize hrx : rcheckV x = rx at *
                obtain ⟨r1, r2⟩ := rx
                clear hrx
                have hF := HF.out
                subst hF
                dsimp only at he' hbd
                go_wp2_with fail
                refine (HCALL.out _ (HE2.out.trans hE3)).mono ?_
                rintro e w4 ⟨rfl, hE4⟩
                have hE9 := HE2.out.trans (hE3.trans hE4)
                go_wp2_with fail
                go_ret2
                exact ⟨rfl, hE9⟩
            · have HN : Hid ((if 16 < dv then (21, 0) else if 262144 < rw then (21, 0) else (0, dv)) = ans) := by
                have := HR.out
                rw [List.drop_of_length_le (by omega), ritems] at this
                exact this
              clear HR
              by_cases h16 : 16 < dv
              · have hF : ans = (21, 0) := by
                  have := HN.out
                  rw [if_pos h16] at this
                  exact this.symm
                subst hF
                have hE9 := HE2.out.trans hE3
                go_wp2_with fail
                go_ret2
                exact ⟨rfl, hE9⟩
              · have HN2 : Hid ((if 262144 < rw then (21, 0) else (0, dv)) = ans) := by
                  have := HN.out
                  rw [if_neg h16] at this
                  exact this
                clear HN
                go_wp2_with fail
                refine (HWT.out _ (HE2.out.trans hE3)).mono ?_
                rintro e w4 ⟨rfl, hE4⟩
                have hE9 := HE2.out.trans (hE3.trans hE4)
                by_cases hw : 262144 < rw
                · have hF : ans = (21, 0) := by
                    have := HN2.out
                    rw [if_pos hw] at this
                    exact this.symm
                  subst hF
                  go_wp2_with fail
                  go_ret2
                  exact ⟨rfl, hE9⟩
                · have hF : ans = (0, dv) := by
                    have := HN2.out
                    rw [if_neg hw] at this
                    exact this.symm
                  subst hF
                  go_wp2_with fail
                  go_ret2
                  exact ⟨rfl, hE9⟩
    · have hk3' := Bool.eq_false_iff.2 hk3
      obtain rfl : other = it.length := by rw [HOTHER.out, othV, if_neg (by simpa using hk3)]
      clear HOTHER hk3
      go_wp2_with fail
      by_cases hsz : sz ≠ cn
      · have hz : (sz != cn) = true := by simpa using hsz
        have hF : ans = (16, 0) := by
          have := HANS.out
          rw [if_pos hsz] at this
          exact this.symm
        subst hF
        clear hsz
        refine wp_region_x0 [MProp.is (.agg #[.int .i64 k, .slice p1 s.length k1, .slice p2 n.length k2, .slice p3 it.length k3]), MProp.is (.int .i64 sz), MProp.is (.pointer (some ⟨b, 1, none⟩)), MProp.is (.slice p1 s.length k1), MProp.is (.int .i64 cn), MProp.is (.bool true), MProp.is (.bool true), MProp.is (undef), MProp.is (undef), MProp.is (.bool true)] [0, 1, 2, 3, 4, 5, 6, 7, 8, 9] [] [34, 35, 36, 37, 38, 39, 40, 41, 42, 43] (by kernel_rfl) (by kernel_rfl) rfl ?_ ?_ ?_
        · refine mem_cons_m ?_ (mem_cons_m ?_ (mem_cons_m ?_ (mem_cons_m ?_ (mem_cons_m ?_ (mem_cons_m ?_ (mem_cons_m ?_ (mem_cons_m ?_ (mem_cons_m ?_ (mem_cons_m ?_ (mem_nil_m))))))))))
          · refine ⟨_, 34, rfl, by kernel_rfl, ?_⟩
            intro u w9 X hE hX hd K hK
            clear hd
            simp only [overlay, List.setIfInBounds_toArray, List.set] at hK ⊢
            have e9 := (Ext.refl wa).drew.trans hE
            obtain ⟨s0, s1, s2, s3⟩ := (HB.out.ext e9).cell
            clear hE
            go_wp2_with fail
            exact hK _ _ X (Ext.refl _) kept_m hX rfl
          · refine ⟨_, 35, rfl, by kernel_rfl, ?_⟩
            intro u w9 X hE hX hd K hK
            have d0 : u 34 = .agg #[.int .i64 k, .slice p1 s.length k1, .slice p2 n.length k2, .slice p3 it.length k3] := hd 0 (by kernel_rfl)
            clear hd
            simp only [overlay, List.setIfInBounds_toArray, List.set, d0] at hK ⊢
            have e9 := (Ext.refl wa).drew.trans hE
            go_wp2_with fail
            refine (HSZ.out _ (hE0.trans e9)).mono ?_
            rintro e w8 ⟨rfl, hE8⟩
            go_wp2_with fail
            exact hK _ _ X hE8 kept_m (hX.ext hE8) rfl
          · refine ⟨_, 36, rfl, by kernel_rfl, ?_⟩
            intro u w9 X hE hX hd K hK
            clear hd
            simp only [overlay, List.setIfInBounds_toArray, List.set] at hK ⊢
            go_wp2_with fail
            exact hK _ _ X (Ext.refl _) kept_m hX rfl
          · refine ⟨_, 37, rfl, by kernel_rfl, ?_⟩
            intro u w9 X hE hX hd K hK
            have d2 : u 36 = .pointer (some ⟨b, 1, none⟩) := hd 2 (by kernel_rfl)
            clear hd
            simp only [overlay, List.setIfInBounds_toArray, List.set, d2] at hK ⊢
            have e9 := (Ext.refl wa).drew.trans hE
            obtain ⟨s0, s1, s2, s3⟩ := (HB.out.ext e9).cell
            clear hE
            go_wp2_with fail
            exact hK _ _ X (Ext.refl _) kept_m hX rfl
          · refine ⟨_, 38, rfl, by kernel_rfl, ?_⟩
            intro u w9 X hE hX hd K hK
            have d3 : u 37 = .slice p1 s.length k1 := hd 3 (by kernel_rfl)
            clear hd
            simp only [overlay, List.setIfInBounds_toArray, List.set, d3] at hK ⊢
            have e9 := (Ext.refl wa).drew.trans hE
            go_wp2_with fail
            refine (HCN.out _ (hE0.trans e9)).mono ?_
            rintro e w8 ⟨rfl, rfl⟩
            go_wp2_with fail
            exact hK _ _ X (Ext.refl _) kept_m hX rfl
          · refine ⟨_, 39, rfl, by kernel_rfl, ?_⟩
            intro u w9 X hE hX hd K hK
            have d1 : u 35 = .int .i64 sz := hd 1 (by kernel_rfl)
            have d4 : u 38 = .int .i64 cn := hd 4 (by kernel_rfl)
            clear hd
            simp only [overlay, List.setIfInBounds_toArray, List.set, d1, d4] at hK ⊢
            go_wp2_with fail
            exact hK _ _ X (Ext.refl _) kept_m hX rfl
          · refine ⟨_, 40, rfl, by kernel_rfl, ?_⟩
            intro u w9 X hE hX hd K hK
            have d5 : u 39 = .bool true := hd 5 (by kernel_rfl)
            clear hd
            simp only [overlay, List.setIfInBounds_toArray, List.set, d5] at hK ⊢
            go_wp2_with fail
            exact hK _ _ X (Ext.refl _) kept_m hX rfl
          · refine ⟨_, 41, rfl, by kernel_rfl, ?_⟩
            intro u w9 X hE hX hd K hK
            have d6 : u 40 = .bool true := hd 6 (by kernel_rfl)
            clear hd
            simp only [overlay, List.setIfInBounds_toArray, List.set, d6] at hK ⊢
            go_wp2_with fail
            exact hK _ _ X (Ext.refl _) kept_m hX rfl
          · refine ⟨_, 42, rfl, by kernel_rfl, ?_⟩
            intro u w9 X hE hX hd K hK
            have d7 : u 41 = undef := hd 7 (by kernel_rfl)
            have d6 : u 40 = .bool true := hd 6 (by kernel_rfl)
            clear hd
            simp only [overlay, List.setIfInBounds_toArray, List.set, d7, d6] at hK ⊢
            go_wp2_with fail
            exact hK _ _ X (Ext.refl _) kept_m hX rfl
          · refine ⟨_, 43, rfl, by kernel_rfl, ?_⟩
            intro u w9 X hE hX hd K hK
            have d6 : u 40 = .bool true := hd 6 (by kernel_rfl)
            have d8 : u 42 = undef := hd 8 (by kernel_rfl)
            clear hd
            simp only [overlay, List.setIfInBounds_toArray, List.set, d6, d8] at hK ⊢
            go_wp2_with fail
            exact hK _ _ X (Ext.refl _) kept_m hX rfl
        · exact mem_nil_m
        intro u w9 X hE hX hd
        have d0 : u 34 = .agg #[.int .i64 k, .slice p1 s.length k1, .slice p2 n.length k2, .slice p3 it.length k3] := hd 0 (by decide)
        have d1 : u 35 = .int .i64 sz := hd 1 (by decide)
        have d2 : u 36 = .pointer (some ⟨b, 1, none⟩) := hd 2 (by decide)
        have d3 : u 37 = .slice p1 s.length k1 := hd 3 (by decide)
        have d4 : u 38 = .int .i64 cn := hd 4 (by decide)
        have d5 : u 39 = .bool true := hd 5 (by decide)
        have d6 : u 40 = .bool true := hd 6 (by decide)
        have d7 : u 41 = undef := hd 7 (by decide)
        have d8 : u 42 = undef := hd 8 (by decide)
        have d9 : u 43 = .bool true := hd 9 (by decide)
        clear hd
        simp only [overlay, List.setIfInBounds_toArray, List.set, d0, d1, d2, d3, d4, d5, d6, d7, d8, d9]
        have e9 := (Ext.refl wa).drew.trans hE
        have hE9 := hE0.trans e9
        go_wp2_with fail
        go_ret2
        exact ⟨rfl, hE9⟩
      have hz : (sz != cn) = false := by simpa using hsz
      by_cases hot : 0 < it.length
      · have hF : ans = (16, 0) := by
          have := HANS.out
          rw [if_neg hsz, if_pos hot] at this
          exact this.symm
        subst hF
        clear hsz
        refine wp_region_x0 [MProp.is (.agg #[.int .i64 k, .slice p1 s.length k1, .slice p2 n.length k2, .slice p3 it.length k3]), MProp.is (.int .i64 sz), MProp.is (.pointer (some ⟨b, 1, none⟩)), MProp.is (.slice p1 s.length k1), MProp.is (.int .i64 cn), MProp.is (.bool false), MProp.is (.bool false), MProp.is (.int .i64 it.length), MProp.is (.bool true), MProp.is (.bool true)] [0, 1, 2, 3, 4, 5, 6, 7, 8, 9] [] [34, 35, 36, 37, 38, 39, 40, 41, 42, 43] (by kernel_rfl) (by kernel_rfl) rfl ?_ ?_ ?_
        · refine mem_cons_m ?_ (mem_cons_m ?_ (mem_cons_m ?_ (mem_cons_m ?_ (mem_cons_m ?_ (mem_cons_m ?_ (mem_cons_m ?_ (mem_cons_m ?_ (mem_cons_m ?_ (mem_cons_m ?_ (mem_nil_m))))))))))
          · refine ⟨_, 34, rfl, by kernel_rfl, ?_⟩
            intro u w9 X hE hX hd K hK
            clear hd
            simp only [overlay, List.setIfInBounds_toArray, List.set] at hK ⊢
            have e9 := (Ext.refl wa).drew.trans hE
            obtain ⟨s0, s1, s2, s3⟩ := (HB.out.ext e9).cell
            clear hE
            go_wp2_with fail
            exact hK _ _ X (Ext.refl _) kept_m hX rfl
          · refine ⟨_, 35, rfl, by kernel_rfl, ?_⟩
            intro u w9 X hE hX hd K hK
            have d0 : u 34 = .agg #[.int .i64 k, .slice p1 s.length k1, .slice p2 n.length k2, .slice p3 it.length k3] := hd 0 (by kernel_rfl)
            clear hd
            simp only [overlay, List.setIfInBounds_toArray, List.set, d0] at hK ⊢
            have e9 := (Ext.refl wa).drew.trans hE
            go_wp2_with fail
            refine (HSZ.out _ (hE0.trans e9)).mono ?_
            rintro e w8 ⟨rfl, hE8⟩
            go_wp2_with fail
            exact hK _ _ X hE8 kept_m (hX.ext hE8) rfl
          · refine ⟨_, 36, rfl, by kernel_rfl, ?_⟩
            intro u w9 X hE hX hd K hK
            clear hd
            simp only [overlay, List.setIfInBounds_toArray, List.set] at hK ⊢
            go_wp2_with fail
            exact hK _ _ X (Ext.refl _) kept_m hX rfl
          · refine ⟨_, 37, rfl, by kernel_rfl, ?_⟩
            intro u w9 X hE hX hd K hK
            have d2 : u 36 = .pointer (some ⟨b, 1, none⟩) := hd 2 (by kernel_rfl)
            clear hd
            simp only [overlay, List.setIfInBounds_toArray, List.set, d2] at hK ⊢
            have e9 := (Ext.refl wa).drew.trans hE
            obtain ⟨s0, s1, s2, s3⟩ := (HB.out.ext e9).cell
            clear hE
            go_wp2_with fail
            exact hK _ _ X (Ext.refl _) kept_m hX rfl
          · refine ⟨_, 38, rfl, by kernel_rfl, ?_⟩
            intro u w9 X hE hX hd K hK
            have d3 : u 37 = .slice p1 s.length k1 := hd 3 (by kernel_rfl)
            clear hd
            simp only [overlay, List.setIfInBounds_toArray, List.set, d3] at hK ⊢
            have e9 := (Ext.refl wa).drew.trans hE
            go_wp2_with fail
            refine (HCN.out _ (hE0.trans e9)).mono ?_
            rintro e w8 ⟨rfl, rfl⟩
            go_wp2_with fail
            exact hK _ _ X (Ext.refl _) kept_m hX rfl
          · refine ⟨_, 39, rfl, by kernel_rfl, ?_⟩
            intro u w9 X hE hX hd K hK
            have d1 : u 35 = .int .i64 sz := hd 1 (by kernel_rfl)
            have d4 : u 38 = .int .i64 cn := hd 4 (by kernel_rfl)
            clear hd
            simp only [overlay, List.setIfInBounds_toArray, List.set, d1, d4] at hK ⊢
            go_wp2_with fail
            exact hK _ _ X (Ext.refl _) kept_m hX rfl
          · refine ⟨_, 40, rfl, by kernel_rfl, ?_⟩
            intro u w9 X hE hX hd K hK
            have d5 : u 39 = .bool false := hd 5 (by kernel_rfl)
            clear hd
            simp only [overlay, List.setIfInBounds_toArray, List.set, d5] at hK ⊢
            go_wp2_with fail
            exact hK _ _ X (Ext.refl _) kept_m hX rfl
          · refine ⟨_, 41, rfl, by kernel_rfl, ?_⟩
            intro u w9 X hE hX hd K hK
            have d6 : u 40 = .bool false := hd 6 (by kernel_rfl)
            clear hd
            simp only [overlay, List.setIfInBounds_toArray, List.set, d6] at hK ⊢
            go_wp2_with fail
            exact hK _ _ X (Ext.refl _) kept_m hX rfl
          · refine ⟨_, 42, rfl, by kernel_rfl, ?_⟩
            intro u w9 X hE hX hd K hK
            have d7 : u 41 = .int .i64 it.length := hd 7 (by kernel_rfl)
            have d6 : u 40 = .bool false := hd 6 (by kernel_rfl)
            clear hd
            simp only [overlay, List.setIfInBounds_toArray, List.set, d7, d6] at hK ⊢
            go_wp2_with fail
            exact hK _ _ X (Ext.refl _) kept_m hX rfl
          · refine ⟨_, 43, rfl, by kernel_rfl, ?_⟩
            intro u w9 X hE hX hd K hK
            have d6 : u 40 = .bool false := hd 6 (by kernel_rfl)
            have d8 : u 42 = .bool true := hd 8 (by kernel_rfl)
            clear hd
            simp only [overlay, List.setIfInBounds_toArray, List.set, d6, d8] at hK ⊢
            go_wp2_with fail
            exact hK _ _ X (Ext.refl _) kept_m hX rfl
        · exact mem_nil_m
        intro u w9 X hE hX hd
        have d0 : u 34 = .agg #[.int .i64 k, .slice p1 s.length k1, .slice p2 n.length k2, .slice p3 it.length k3] := hd 0 (by decide)
        have d1 : u 35 = .int .i64 sz := hd 1 (by decide)
        have d2 : u 36 = .pointer (some ⟨b, 1, none⟩) := hd 2 (by decide)
        have d3 : u 37 = .slice p1 s.length k1 := hd 3 (by decide)
        have d4 : u 38 = .int .i64 cn := hd 4 (by decide)
        have d5 : u 39 = .bool false := hd 5 (by decide)
        have d6 : u 40 = .bool false := hd 6 (by decide)
        have d7 : u 41 = .int .i64 it.length := hd 7 (by decide)
        have d8 : u 42 = .bool true := hd 8 (by decide)
        have d9 : u 43 = .bool true := hd 9 (by decide)
        clear hd
        simp only [overlay, List.setIfInBounds_toArray, List.set, d0, d1, d2, d3, d4, d5, d6, d7, d8, d9]
        have e9 := (Ext.refl wa).drew.trans hE
        have hE9 := hE0.trans e9
        go_wp2_with fail
        go_ret2
        exact ⟨rfl, hE9⟩
      have HANS2 : Hid ((if n.any (badNum k) = true then ((17 : Int), (0 : Int)) else match ritems it 0 with | none => (17, 0) | some d => if 16 < d then (21, 0) else if 262144 < rw then (21, 0) else (0, d)) = ans) := by
        have := HANS.out
        rw [if_neg hsz, if_neg hot] at this
        exact this
      clear HANS hsz
      refine wp_region_x0 [MProp.is (.agg #[.int .i64 k, .slice p1 s.length k1, .slice p2 n.length k2, .slice p3 it.length k3]), MProp.is (.int .i64 sz), MProp.is (.pointer (some ⟨b, 1, none⟩)), MProp.is (.slice p1 s.length k1), MProp.is (.int .i64 cn), MProp.is (.bool false), MProp.is (.bool false), MProp.is (.int .i64 it.length), MProp.is (.bool false), MProp.is (.bool false)] [0, 1, 2, 3, 4, 5, 6, 7, 8, 9] [] [34, 35, 36, 37, 38, 39, 40, 41, 42, 43] (by kernel_rfl) (by kernel_rfl) rfl ?_ ?_ ?_
      · refine mem_cons_m ?_ (mem_cons_m ?_ (mem_cons_m ?_ (mem_cons_m ?_ (mem_cons_m ?_ (mem_cons_m ?_ (mem_cons_m ?_ (mem_cons_m ?_ (mem_cons_m ?_ (mem_cons_m ?_ (mem_nil_m))))))))))
        · refine ⟨_, 34, rfl, by kernel_rfl, ?_⟩
          intro u w9 X hE hX hd K hK
          clear hd
          simp only [overlay, List.setIfInBounds_toArray, List.set] at hK ⊢
          have e9 := (Ext.refl wa).drew.trans hE
          obtain ⟨s0, s1, s2, s3⟩ := (HB.out.ext e9).cell
          clear hE
          go_wp2_with fail
          exact hK _ _ X (Ext.refl _) kept_m hX rfl
        · refine ⟨_, 35, rfl, by kernel_rfl, ?_⟩
          intro u w9 X hE hX hd K hK
          have d0 : u 34 = .agg #[.int .i64 k, .slice p1 s.length k1, .slice p2 n.length k2, .slice p3 it.length k3] := hd 0 (by kernel_rfl)
          clear hd
          simp only [overlay, List.setIfInBounds_toArray, List.set, d0] at hK ⊢
          have e9 := (Ext.refl wa).drew.trans hE
          go_wp2_with fail
          refine (HSZ.out _ (hE0.trans e9)).mono ?_
          rintro e w8 ⟨rfl, hE8⟩
          go_wp2_with fail
          exact hK _ _ X hE8 kept_m (hX.ext hE8) rfl
        · refine ⟨_, 36, rfl, by kernel_rfl, ?_⟩
          intro u w9 X hE hX hd K hK
          clear hd
          simp only [overlay, List.setIfInBounds_toArray, List.set] at hK ⊢
          go_wp2_with fail
          exact hK _ _ X (Ext.refl _) kept_m hX rfl
        · refine ⟨_, 37, rfl, by kernel_rfl, ?_⟩
          intro u w9 X hE hX hd K hK
          have d2 : u 36 = .pointer (some ⟨b, 1, none⟩) := hd 2 (by kernel_rfl)
          clear hd
          simp only [overlay, List.setIfInBounds_toArray, List.set, d2] at hK ⊢
          have e9 := (Ext.refl wa).drew.trans hE
          obtain ⟨s0, s1, s2, s3⟩ := (HB.out.ext e9).cell
          clear hE
          go_wp2_with fail
          exact hK _ _ X (Ext.refl _) kept_m hX rfl
        · refine ⟨_, 38, rfl, by kernel_rfl, ?_⟩
          intro u w9 X hE hX hd K hK
          have d3 : u 37 = .slice p1 s.length k1 := hd 3 (by kernel_rfl)
          clear hd
          simp only [overlay, List.setIfInBounds_toArray, List.set, d3] at hK ⊢
          have e9 := (Ext.refl wa).drew.trans hE
          go_wp2_with fail
          refine (HCN.out _ (hE0.trans e9)).mono ?_
          rintro e w8 ⟨rfl, rfl⟩
          go_wp2_with fail
          exact hK _ _ X (Ext.refl _) kept_m hX rfl
        · refine ⟨_, 39, rfl, by kernel_rfl, ?_⟩
          intro u w9 X hE hX hd K hK
          have d1 : u 35 = .int .i64 sz := hd 1 (by kernel_rfl)
          have d4 : u 38 = .int .i64 cn := hd 4 (by kernel_rfl)
          clear hd
          simp only [overlay, List.setIfInBounds_toArray, List.set, d1, d4] at hK ⊢
          go_wp2_with fail
          exact hK _ _ X (Ext.refl _) kept_m hX rfl
        · refine ⟨_, 40, rfl, by kernel_rfl, ?_⟩
          intro u w9 X hE hX hd K hK
          have d5 : u 39 = .bool false := hd 5 (by kernel_rfl)
          clear hd
          simp only [overlay, List.setIfInBounds_toArray, List.set, d5] at hK ⊢
          go_wp2_with fail
          exact hK _ _ X (Ext.refl _) kept_m hX rfl
        · refine ⟨_, 41, rfl, by kernel_rfl, ?_⟩
          intro u w9 X hE hX hd K hK
          have d6 : u 40 = .bool false := hd 6 (by kernel_rfl)
          clear hd
          simp only [overlay, List.setIfInBounds_toArray, List.set, d6] at hK ⊢
          go_wp2_with fail
          exact hK _ _ X (Ext.refl _) kept_m hX rfl
        · refine ⟨_, 42, rfl, by kernel_rfl, ?_⟩
          intro u w9 X hE hX hd K hK
          have d7 : u 41 = .int .i64 it.length := hd 7 (by kernel_rfl)
          have d6 : u 40 = .bool false := hd 6 (by kernel_rfl)
          clear hd
          simp only [overlay, List.setIfInBounds_toArray, List.set, d7, d6] at hK ⊢
          go_wp2_with fail
          exact hK _ _ X (Ext.refl _) kept_m hX rfl
        · refine ⟨_, 43, rfl, by kernel_rfl, ?_⟩
          intro u w9 X hE hX hd K hK
          have d6 : u 40 = .bool false := hd 6 (by kernel_rfl)
          have d8 : u 42 = .bool false := hd 8 (by kernel_rfl)
          clear hd
          simp only [overlay, List.setIfInBounds_toArray, List.set, d6, d8] at hK ⊢
          go_wp2_with fail
          exact hK _ _ X (Ext.refl _) kept_m hX rfl
      · exact mem_nil_m
      intro u w9 X hE hX hd
      have d0 : u 34 = .agg #[.int .i64 k, .slice p1 s.length k1, .slice p2 n.length k2, .slice p3 it.length k3] := hd 0 (by decide)
      have d1 : u 35 = .int .i64 sz := hd 1 (by decide)
      have d2 : u 36 = .pointer (some ⟨b, 1, none⟩) := hd 2 (by decide)
      have d3 : u 37 = .slice p1 s.length k1 := hd 3 (by decide)
      have d4 : u 38 = .int .i64 cn := hd 4 (by decide)
      have d5 : u 39 = .bool false := hd 5 (by decide)
      have d6 : u 40 = .bool false := hd 6 (by decide)
      have d7 : u 41 = .int .i64 it.length := hd 7 (by decide)
      have d8 : u 42 = .bool false := hd 8 (by decide)
      have d9 : u 43 = .bool false := hd 9 (by decide)
      clear hd
      simp only [overlay, List.setIfInBounds_toArray, List.set, d0, d1, d2, d3, d4, d5, d6, d7, d8, d9]
      have e9 := (Ext.refl wa).drew.trans hE
      have hE9 := hE0.trans e9
      have HB2 := Lib.hid (HB.out.ext e9)
      have HE2 := Lib.hid hE9
      clear d0 d1 d2 d3 d4 d5 d6 d7 d8 d9 hX hE HB hE0 s0 s1 s2 s3 e9 hE9 HSZ HCN
      generalize u 34 = t34; generalize u 35 = t35; generalize u 36 = t36; generalize u 37 = t37; generalize u 38 = t38; generalize u 39 = t39; generalize u 40 = t40; generalize u 41 = t41; generalize u 42 = t42
      clear u
      obtain ⟨s0, s1, s2, s3⟩ := HB2.out.cell
      have i2 := I2.out.ext HE2.out
      have I2W := Lib.hid i2
      clear i2
      generalize hbad : n.any (badNum k) = bad at *
      have HBAD : Hid ((n.drop 0).any (badNum k) = bad) := hbad
      clear hbad
      go_wp2_with fail
      go_loopw [6] (fun i wr => ∃ (j : Nat), j ≤ n.length ∧ i = .int .i64 j ∧ w9 = wr ∧ Hid ((n.drop j).any (badNum k) = bad)) (fun i _ => n.length - (intOf i).toNat)
      case atStart => exact ⟨0, Nat.zero_le _, rfl, rfl, HBAD.out⟩
      case round =>
        obtain ⟨j, hj, rfl, rfl, HR⟩ := hrel
        clear HBAD
        by_cases hlt : j < n.length
        · obtain ⟨bb, off, rfl, hc, _, _⟩ := I2W.out.get hlt
          have HD := hid_intro (drop_getD hlt)
          clear I2W
          generalize n.getD j 0 = d at *
          have HR2 : Hid ((badNum k d || (n.drop (j + 1)).any (badNum k)) = bad) := by
            have := HR.out
            rw [HD.out, List.any_cons] at this
            exact this
          clear HR HD
          have HE9 := HE2.out
          have HNX : badNum k d = false → Hid ((n.drop (j + 1)).any (badNum k) = bad) := by
            intro h1
            have := HR2.out
            rw [h1, Bool.false_or] at this
            exact this
          have HBX : badNum k d = true → Hid (ans = (17, 0)) := by
            intro h1
            have h2 : bad = true := by
              have := HR2.out
              rw [h1, Bool.true_or] at this
              exact this.symm
            have := HANS2.out
            rw [if_pos h2] at this
            exact this.symm
          have HNX := Lib.hid HNX
          have HBX := Lib.hid HBX
          clear HR2
          by_cases e1 : (k == 1) = true
          · have e1n := Lib.hid e1
            obtain rfl : k = 1 := by simpa using e1
            cases hi : isNum d with
            | true =>
              have HF := HNX.out (by simp [badNum, hi])
              have HI := Lib.hid hi
              clear HNX HBX hi
              go_wp2_with (go_at_call 121; refine (r3number_any _ _).mono ?_; rintro e w' ⟨rfl, rfl⟩; rw [HI.out])
              go_roundw
              case rel => exact ⟨j + 1, by omega, by go_num, (by first | rfl | trivial), HF⟩
              case measure => simp [intOf]; omega
            | false =>
              have HF := (HBX.out (by simp [badNum, hi])).out
              have HI := Lib.hid hi
              clear HNX HBX hi
              subst HF
              go_wp2_with (go_at_call 121; refine (r3number_any _ _).mono ?_; rintro e w' ⟨rfl, rfl⟩; rw [HI.out])
              go_ret2
              exact ⟨rfl, HE9⟩
          · have e1' := Bool.eq_false_iff.2 e1
            by_cases e2 : (k == 2) = true
            · obtain rfl : k = 2 := by simpa using e2
              cases hi : isChr d with
              | true =>
                have HF := HNX.out (by simp [badNum, hi])
                have HI := Lib.hid hi
                clear HNX HBX hi e1
                go_wp2_with (go_at_call 122; refine (r3rune_any _ _).mono ?_; rintro e w' ⟨rfl, rfl⟩; rw [HI.out])
                go_roundw
                case rel => exact ⟨j + 1, by omega, by go_num, (by first | rfl | trivial), HF⟩
                case measure => simp [intOf]; omega
              | false =>
                have HF := (HBX.out (by simp [badNum, hi])).out
                have HI := Lib.hid hi
                clear HNX HBX hi e1
                subst HF
                go_wp2_with (go_at_call 122; refine (r3rune_any _ _).mono ?_; rintro e w' ⟨rfl, rfl⟩; rw [HI.out])
                go_ret2
                exact ⟨rfl, HE9⟩
            · have e2' := Bool.eq_false_iff.2 e2
              have HF := HNX.out (by simp [badNum, e1', e2'])
              clear HNX HBX e1 e2
              go_wp2_with fail
              go_roundw
              case rel => exact ⟨j + 1, by omega, by go_num, (by first | rfl | trivial), HF⟩
              case measure => simp [intOf]; omega
        · have HA3 : Hid ((match ritems it 0 with
              | none => (17, 0)
              | some d => if 16 < d then (21, 0) else if 262144 < rw then (21, 0) else (0, d)) = ans) := by
            have h1 : bad = false := by
              have := HR.out
              rw [List.drop_of_length_le (by omega)] at this
              exact this.symm
            have := HANS2.out
            rw [if_neg (by simp [h1])] at this
            exact this
          clear HR HANS2 I2W
          go_wp2_with fail
          go_loopw [7, 8, 9, 10] (fun dp i _ _ wr => ∃ (j : Nat) (dv : Int), j ≤ it.length ∧ i = .int .i64 j ∧ dp = .int .i64 dv ∧ 0 ≤ dv ∧ dv ≤ 17 ∧ Ext w9 wr ∧
              Hid ((match ritems (it.drop j) dv with
              | none => (17, 0)
              | some d => if 16 < d then (21, 0) else if 262144 < rw then (21, 0) else (0, d)) = ans)) (fun _ i _ _ _ => it.length - (intOf i).toNat)
          case atStart => exact ⟨0, 0, Nat.zero_le _, rfl, rfl, by omega, by omega, Ext.refl _, HA3.out⟩
          case round =>
            obtain ⟨j', dv, hj', rfl, rfl, hd0, hd1, hE3, HR⟩ := hrel
            clear HA3 s0 s1 s2 s3
            obtain ⟨s0, s1, s2, s3⟩ := (HB2.out.ext hE3).cell
            by_cases hlt' : j' < it.length
            · exact absurd hlt' (by omega)
            · have HN : Hid ((if 16 < dv then (21, 0) else if 262144 < rw then (21, 0) else (0, dv)) = ans) := by
                have := HR.out
                rw [List.drop_of_length_le (by omega), ritems] at this
                exact this
              clear HR
              by_cases h16 : 16 < dv
              · have hF : ans = (21, 0) := by
                  have := HN.out
                  rw [if_pos h16] at this
                  exact this.symm
                subst hF
                have hE9 := HE2.out.trans hE3
                go_wp2_with fail
                go_ret2
                exact ⟨rfl, hE9⟩
              · have HN2 : Hid ((if 262144 < rw then (21, 0) else (0, dv)) = ans) := by
                  have := HN.out
                  rw [if_neg h16] at this
                  exact this
                clear HN
                go_wp2_with fail
                refine (HWT.out _ (HE2.out.trans hE3)).mono ?_
                rintro e w4 ⟨rfl, hE4⟩
                have hE9 := HE2.out.trans (hE3.trans hE4)
                by_cases hw : 262144 < rw
                · have hF : ans = (21, 0) := by
                    have := HN2.out
                    rw [if_pos hw] at this
                    exact this.symm
                  subst hF
                  go_wp2_with fail
                  go_ret2
                  exact ⟨rfl, hE9⟩
                · have hF : ans = (0, dv) := by
                    have := HN2.out
                    rw [if_neg hw] at this
                    exact this.symm
                  subst hF
                  go_wp2_with fail
                  go_ret2
                  exact ⟨rfl, hE9⟩

theorem r3right_any (F : Nat → Prop) (t : Arr) (c0 c1 c2 c3 : Value) (w : World) (h : ArrAt F w t c0 c1 c2 c3) :
    Calls Try.prog 18 #[.agg #[c0, c1, c2, c3]] w fun e w' => e = .returned (.int .i64 (rrightV t)) ∧ Ext w w' := by
  have HC := Lib.hid (fun w' e => r3check_any F _ t c0 c1 c2 c3 w' (Nat.lt_succ_self _) (h.ext (w' := w') e))
  obtain ⟨k, p1, n1, k1, p2, n2, k2, p3, n3, k3, rfl, rfl, rfl, rfl⟩ := h.form
  clear h
  unfold rrightV
  generalize rcheckV t = r at *
  go_enter Try.func18, Try.ntmps18
  go_wp2_with fail
  refine (HC.out _ ((Ext.refl _).alloc _)).mono ?_
  rintro e w1 ⟨rfl, hE⟩
  go_wp2_with fail
  go_ret
  exact ⟨rfl, Ext.trans ((Ext.refl _).alloc _) hE⟩
end Go.Proofs.Ytgkemmdghmklfaa
