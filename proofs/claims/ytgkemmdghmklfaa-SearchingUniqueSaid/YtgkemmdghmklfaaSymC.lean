/-
  THE WALK of slices.symMergeCmpFunc, both halves. (Printed by gen_sym.py.)
-/
import Derived.Test.YtgkemmdghmklfaaSymB
namespace Go.Proofs.Ytgkemmdghmklfaa
set_option linter.unusedSimpArgs false
set_option linter.unusedVariables false
open Go.RowKit


set_option maxRecDepth 1000000 in
set_option maxHeartbeats 16000000 in
theorem symC_walk (cf : Int → Int → Int) (wB : World) (lv : Value) (N : Int)
    (hcmp : ∀ (w' : World) (x y : Int), Ext wB w' → 0 ≤ x → x < N → 0 ≤ y → y < N → Calls Try.prog 102 #[lv, .int .i64 x, .int .i64 y] w' fun e w'' => e = .returned (.int .i64 (cf x y)) ∧ Ext w' w'')
    (L R : List Int) (g n c a m b mid s0 r0 Q : Nat) (w : World) (hO : OwnI wB.heap.size (fun _ => False) w (.slice (some ⟨g, 0, none⟩) n c) n L) (hE : Ext wB w) (hok : ∀ x ∈ L, 0 ≤ x ∧ x < N) (hm1 : a + 1 < m) (hb1 : m + 1 < b) (hbn : b ≤ n) (hn : n ≤ 65536) (hmid : mid = (a + b) / 2) (hQ : Q + 1 = mid + m) (hsr : (mid < m ∧ s0 + b = mid + m ∧ r0 = mid) ∨ (m ≤ mid ∧ s0 = a ∧ r0 = m))
    (hplan : ∀ s, s0 ≤ s → s ≤ r0 → (s = s0 ∨ 0 ≤ cf (L.getD (Q - (s - 1)) 0) (L.getD (s - 1) 0)) → (s = r0 ∨ cf (L.getD (Q - s) 0) (L.getD s 0) < 0) → ∀ e, e + s = mid + m → ∃ L1 L2 : List Int,
      ((s < m ∧ m < e → ∀ w' : World, OwnI wB.heap.size (fun _ => False) w' (.slice (some ⟨g, 0, none⟩) n c) n L → Ext wB w' → Calls Try.prog 171 #[.slice (some ⟨g, 0, none⟩) n c, .int .i64 (s : Int), .int .i64 (m : Int), .int .i64 (e : Int), .func (.func 102) #[lv] #[]] w' fun e w'' => e = .returned (.tuple #[]) ∧ OwnI wB.heap.size (fun _ => False) w'' (.slice (some ⟨g, 0, none⟩) n c) n L1 ∧ Ext wB w'') ∧ (¬ (s < m ∧ m < e) → L = L1)) ∧
      ((a < s ∧ s < mid → ∀ w' : World, OwnI wB.heap.size (fun _ => False) w' (.slice (some ⟨g, 0, none⟩) n c) n L1 → Ext wB w' → Calls Try.prog 164 #[.slice (some ⟨g, 0, none⟩) n c, .int .i64 (a : Int), .int .i64 (s : Int), .int .i64 (mid : Int), .func (.func 102) #[lv] #[]] w' fun e w'' => e = .returned (.tuple #[]) ∧ OwnI wB.heap.size (fun _ => False) w'' (.slice (some ⟨g, 0, none⟩) n c) n L2 ∧ Ext wB w'') ∧ (¬ (a < s ∧ s < mid) → L1 = L2)) ∧
      ((mid < e ∧ e < b → ∀ w' : World, OwnI wB.heap.size (fun _ => False) w' (.slice (some ⟨g, 0, none⟩) n c) n L2 → Ext wB w' → Calls Try.prog 164 #[.slice (some ⟨g, 0, none⟩) n c, .int .i64 (mid : Int), .int .i64 (e : Int), .int .i64 (b : Int), .func (.func 102) #[lv] #[]] w' fun e w'' => e = .returned (.tuple #[]) ∧ OwnI wB.heap.size (fun _ => False) w'' (.slice (some ⟨g, 0, none⟩) n c) n R ∧ Ext wB w'') ∧ (¬ (mid < e ∧ e < b) → L2 = R))) :
    Calls Try.prog 164 #[.slice (some ⟨g, 0, none⟩) n c, .int .i64 (a : Int), .int .i64 (m : Int), .int .i64 (b : Int), .func (.func 102) #[lv] #[]] w fun e w' => e = .returned (.tuple #[]) ∧ OwnI wB.heap.size (fun _ => False) w' (.slice (some ⟨g, 0, none⟩) n c) n R ∧ Ext wB w' := by
  have hma : ¬ (m : Int) - (a : Int) = 1 := by omega
  have hmab : ((m : Int) - (a : Int) == 1) = false := by simpa using hma
  have hbm : ¬ (b : Int) - (m : Int) = 1 := by omega
  have hbmb : ((b : Int) - (m : Int) == 1) = false := by simpa using hbm
  have wma : IntKind.i64.wrap ((m : Int) - (a : Int)) = (m : Int) - (a : Int) := IntWalk.i64_in _ (by omega)
  have wbm : IntKind.i64.wrap ((b : Int) - (m : Int)) = (b : Int) - (m : Int) := IntWalk.i64_in _ (by omega)
  have u1 : IntKind.i64.wrap ((a : Int) + (b : Int)) = (a : Int) + (b : Int) := IntWalk.i64_in _ (by omega)
  have u2 : IntKind.u64.wrap ((a : Int) + (b : Int)) = (a : Int) + (b : Int) := IntWalk.u64_in _ (by omega)
  have u3 : ((a : Int) + (b : Int)) / 2 = (mid : Int) := by omega
  have u4 : IntKind.i64.wrap (mid : Int) = (mid : Int) := IntWalk.i64_in _ (by omega)
  obtain ⟨nn, hnn⟩ : ∃ nn, nn = mid + m := ⟨_, rfl⟩
  have u5 : (mid : Int) + (m : Int) = (nn : Int) := by omega
  have u6 : IntKind.i64.wrap (nn : Int) = (nn : Int) := IntWalk.i64_in _ (by omega)
  have u7 : IntKind.i64.wrap ((nn : Int) - (b : Int)) = (nn : Int) - (b : Int) := IntWalk.i64_in _ (by omega)
  have u8 : (nn : Int) - 1 = (Q : Int) := by omega
  have u9 : IntKind.i64.wrap (Q : Int) = (Q : Int) := IntWalk.i64_in _ (by omega)
  have hs0a : a ≤ s0 := by omega
  have hs0r : s0 ≤ r0 := by omega
  have hr0m : r0 ≤ m := by omega
  have hr0d : r0 ≤ mid := by omega
  have hQs : Q + 1 ≤ s0 + b := by omega
  have hQm : m ≤ Q := by omega
  have hmn : m ≤ n := by omega
  have hmidn : mid ≤ n := by omega
  have HSR := Lib.hid hsr
  have HPLAN := Lib.hid hplan
  have HNN := Lib.hid hnn
  have HQ := Lib.hid hQ
  have HMID := Lib.hid hmid
  have HCMP := Lib.hid hcmp
  have HO := Lib.hid hO
  have HE := Lib.hid hE
  have HOK := Lib.hid hok
  clear hcmp hO hE hok hplan hsr hnn hQ hmid
  go_enter Try.func164, Try.ntmps164
  go_upto_if 140 with (fail)
  go_cut [20, 21] (fun sv rv wx => sv = .int .i64 (s0 : Int) ∧ rv = .int .i64 (r0 : Int) ∧ wx = w)
  case first => as_aux_lemma =>
    rcases HSR.out with ⟨h1, h2, h3⟩ | ⟨h1, h2, h3⟩
    · have hd : (mid : Int) < (m : Int) := by omega
      have hdb : decide ((mid : Int) < (m : Int)) = true := by simpa using hd
      have hs : (nn : Int) - (b : Int) = (s0 : Int) := by have := HNN.out; omega
      subst h3
      clear h2
      go_wp2_with fail
      go_meet
      case rel => exact ⟨rfl, rfl, rfl⟩
    · have hd : ¬ (mid : Int) < (m : Int) := by omega
      have hdb : decide ((mid : Int) < (m : Int)) = false := by simpa using hd
      subst h2
      subst h3
      go_wp2_with fail
      go_meet
      case rel => exact ⟨rfl, rfl, rfl⟩
  case rest =>
  obtain ⟨rfl, rfl, rfl⟩ := hcut
  clear hma hmab hbm hbmb wma wbm u1 u2 u3 u4 u5 u7
  go_wp2_with fail
  go_loopw [20, 21, 23] (fun sv rv cv wr => ∃ (i j : Nat), sv = .int .i64 (i : Int) ∧ rv = .int .i64 (j : Int) ∧ s0 ≤ i ∧ i ≤ j ∧ j ≤ r0 ∧ Hid (i = s0 ∨ 0 ≤ cf (L.getD (Q - (i - 1)) 0) (L.getD (i - 1) 0)) ∧ Hid (j = r0 ∨ cf (L.getD (Q - j) 0) (L.getD j 0) < 0) ∧ OwnI wB.heap.size (fun _ => False) wr (.slice (some ⟨g, 0, none⟩) n c) n L ∧ Ext wB wr) (fun iv jv _ _ => (intOf jv).toNat - (intOf iv).toNat)
  case atStart => exact ⟨s0, r0, rfl, rfl, Nat.le_refl _, hs0r, Nat.le_refl _, Lib.hid (.inl rfl), Lib.hid (.inl rfl), HO.out, HE.out⟩
  case round =>
  clear HO HE u6 u8 u9
  obtain ⟨i, j, rfl, rfl, him, hij, hjb, HI, HJ, hO, hE⟩ := hrel
  have HO := Lib.hid hO
  have HE := Lib.hid hE
  clear hO hE
  by_cases hlt : i < j
  · obtain ⟨t, ht⟩ : ∃ h, h = (i + j) / 2 := ⟨_, rfl⟩
    have u1 : IntKind.i64.wrap ((i : Int) + (j : Int)) = (i : Int) + (j : Int) := IntWalk.i64_in _ (by omega)
    have u2 : IntKind.u64.wrap ((i : Int) + (j : Int)) = (i : Int) + (j : Int) := IntWalk.u64_in _ (by omega)
    have u3 : ((i : Int) + (j : Int)) / 2 = (t : Int) := by omega
    have u4 : IntKind.i64.wrap (t : Int) = (t : Int) := IntWalk.i64_in _ (by omega)
    have htj : t < j := by omega
    have hit : i ≤ t := by omega
    obtain ⟨tt, hu⟩ : ∃ tt, tt = Q - t := ⟨_, rfl⟩
    have u5 : (Q : Int) - (t : Int) = (tt : Int) := by omega
    have u6 : IntKind.i64.wrap ((Q : Int) - (t : Int)) = (tt : Int) := by rw [u5]; exact IntWalk.i64_in _ (by omega)
    have hun : tt < n := by omega
    have htn : t < n := by omega
    have hxl := HO.out.1
    obtain ⟨g1, eg1, _, _, cx, fx, sx⟩ := HO.out.at' (j := tt) (by omega)
    cases eg1
    obtain ⟨g2, eg2, _, _, cy, fy, sy⟩ := HO.out.at' (j := t) (by omega)
    cases eg2
    have hok1 := HOK.out (L.getD tt 0) (by simp [List.getD, show tt < L.length by omega])
    have hok2 := HOK.out (L.getD t 0) (by simp [List.getD, show t < L.length by omega])
    have HCXY := Lib.hid (fun (w' : World) (e : Ext wB w') => HCMP.out w' (L.getD tt 0) (L.getD t 0) e hok1.1 hok1.2 hok2.1 hok2.2)
    obtain ⟨x, hgx⟩ : ∃ x, L.getD tt 0 = x := ⟨_, rfl⟩
    obtain ⟨y, hgy⟩ : ∃ y, L.getD t 0 = y := ⟨_, rfl⟩
    obtain ⟨z, hgz⟩ : ∃ z, cf x y = z := ⟨_, rfl⟩
    rw [hgx, hgy, hgz] at HCXY
    rw [hgx] at cx
    rw [hgy] at cy
    have HGX := Lib.hid hgx
    have HGY := Lib.hid hgy
    have HGZ := Lib.hid hgz
    have CX := Lib.hid cx
    have CY := Lib.hid cy
    have HER := Lib.hid (Ext.refl wr)
    clear hxl hok1 hok2 cx cy fx fy sx sy hgx hgy hgz
    have HU := Lib.hid hu
    clear ht hu
    go_wp2_with fail
    by_cases hz : z < 0
    · as_aux_lemma =>
      have hzd : decide (z < 0) = true := by simpa using hz
      refine wp_region_x0 [MProp.is (.func (.func 102) #[lv] #[]), MProp.is (.slice (some ⟨g, 0, none⟩) n c), MProp.is (.int .i64 (Q : Int)), MProp.is (.int .i64 (t : Int)), MProp.is (.int .i64 (tt : Int)), MProp.is (.pointer (some ⟨g, tt, none⟩)), MProp.is (.int .i64 x), MProp.is (.slice (some ⟨g, 0, none⟩) n c), MProp.is (.int .i64 (t : Int)), MProp.is (.pointer (some ⟨g, t, none⟩)), MProp.is (.int .i64 y), MProp.is (.int .i64 z), MProp.is (.bool true), MProp.is (.bool false)] [0, 1, 2, 3, 4, 5, 6, 7, 8, 9, 10, 11, 12, 13] [] [158, 159, 160, 161, 162, 163, 164, 165, 166, 167, 168, 169, 170, 171] (by kernel_rfl) (by kernel_rfl) (by kernel_rfl) ?_ ?_ ?_
      · refine mem_cons_m ?_ (mem_cons_m ?_ (mem_cons_m ?_ (mem_cons_m ?_ (mem_cons_m ?_ (mem_cons_m ?_ (mem_cons_m ?_ (mem_cons_m ?_ (mem_cons_m ?_ (mem_cons_m ?_ (mem_cons_m ?_ (mem_cons_m ?_ (mem_cons_m ?_ (mem_cons_m ?_ (mem_nil_m))))))))))))))
        · refine ⟨_, 158, rfl, by kernel_rfl, ?_⟩
          intro u w9 X hE hX hd K hK
          clear hd
          simp only [overlay, List.setIfInBounds_toArray, List.set] at hK ⊢
          go_wp2_with fail
          exact hK _ _ X (Ext.refl _) kept_m hX rfl
        · refine ⟨_, 159, rfl, by kernel_rfl, ?_⟩
          intro u w9 X hE hX hd K hK
          clear hd
          simp only [overlay, List.setIfInBounds_toArray, List.set] at hK ⊢
          go_wp2_with fail
          exact hK _ _ X (Ext.refl _) kept_m hX rfl
        · refine ⟨_, 160, rfl, by kernel_rfl, ?_⟩
          intro u w9 X hE hX hd K hK
          clear hd
          simp only [overlay, List.setIfInBounds_toArray, List.set] at hK ⊢
          go_wp2_with fail
          exact hK _ _ X (Ext.refl _) kept_m hX rfl
        · refine ⟨_, 161, rfl, by kernel_rfl, ?_⟩
          intro u w9 X hE hX hd K hK
          clear hd
          simp only [overlay, List.setIfInBounds_toArray, List.set] at hK ⊢
          go_wp2_with fail
          exact hK _ _ X (Ext.refl _) kept_m hX rfl
        · refine ⟨_, 162, rfl, by kernel_rfl, ?_⟩
          intro u w9 X hE hX hd K hK
          have d2 : u 160 = .int .i64 (Q : Int) := hd 2 (by kernel_rfl)
          have d3 : u 161 = .int .i64 (t : Int) := hd 3 (by kernel_rfl)
          clear hd
          simp only [overlay, List.setIfInBounds_toArray, List.set, d2, d3] at hK ⊢
          go_wp2_with fail
          exact hK _ _ X (Ext.refl _) kept_m hX rfl
        · refine ⟨_, 163, rfl, by kernel_rfl, ?_⟩
          intro u w9 X hE hX hd K hK
          have d1 : u 159 = .slice (some ⟨g, 0, none⟩) n c := hd 1 (by kernel_rfl)
          have d4 : u 162 = .int .i64 (tt : Int) := hd 4 (by kernel_rfl)
          clear hd
          simp only [overlay, List.setIfInBounds_toArray, List.set, d1, d4] at hK ⊢
          go_wp2_with fail
          exact hK _ _ X (Ext.refl _) kept_m hX rfl
        · refine ⟨_, 164, rfl, by kernel_rfl, ?_⟩
          intro u w9 X hE hX hd K hK
          have d5 : u 163 = .pointer (some ⟨g, tt, none⟩) := hd 5 (by kernel_rfl)
          clear hd
          simp only [overlay, List.setIfInBounds_toArray, List.set, d5] at hK ⊢
          have e9 : Ext wr w9 := (Ext.refl wr).drew.trans hE
          have a9 := e9.cell CX.out
          go_wp2_with fail
          exact hK _ _ X (Ext.refl _) kept_m hX rfl
        · refine ⟨_, 165, rfl, by kernel_rfl, ?_⟩
          intro u w9 X hE hX hd K hK
          clear hd
          simp only [overlay, List.setIfInBounds_toArray, List.set] at hK ⊢
          go_wp2_with fail
          exact hK _ _ X (Ext.refl _) kept_m hX rfl
        · refine ⟨_, 166, rfl, by kernel_rfl, ?_⟩
          intro u w9 X hE hX hd K hK
          clear hd
          simp only [overlay, List.setIfInBounds_toArray, List.set] at hK ⊢
          go_wp2_with fail
          exact hK _ _ X (Ext.refl _) kept_m hX rfl
        · refine ⟨_, 167, rfl, by kernel_rfl, ?_⟩
          intro u w9 X hE hX hd K hK
          have d7 : u 165 = .slice (some ⟨g, 0, none⟩) n c := hd 7 (by kernel_rfl)
          have d8 : u 166 = .int .i64 (t : Int) := hd 8 (by kernel_rfl)
          clear hd
          simp only [overlay, List.setIfInBounds_toArray, List.set, d7, d8] at hK ⊢
          go_wp2_with fail
          exact hK _ _ X (Ext.refl _) kept_m hX rfl
        · refine ⟨_, 168, rfl, by kernel_rfl, ?_⟩
          intro u w9 X hE hX hd K hK
          have d9 : u 167 = .pointer (some ⟨g, t, none⟩) := hd 9 (by kernel_rfl)
          clear hd
          simp only [overlay, List.setIfInBounds_toArray, List.set, d9] at hK ⊢
          have e9 : Ext wr w9 := (Ext.refl wr).drew.trans hE
          have a9 := e9.cell CY.out
          go_wp2_with fail
          exact hK _ _ X (Ext.refl _) kept_m hX rfl
        · refine ⟨_, 169, rfl, by kernel_rfl, ?_⟩
          intro u w9 X hE hX hd K hK
          have d0 : u 158 = .func (.func 102) #[lv] #[] := hd 0 (by kernel_rfl)
          have d6 : u 164 = .int .i64 x := hd 6 (by kernel_rfl)
          have d10 : u 168 = .int .i64 y := hd 10 (by kernel_rfl)
          clear hd
          simp only [overlay, List.setIfInBounds_toArray, List.set, d0, d6, d10] at hK ⊢
          have e9 : Ext wr w9 := (Ext.refl wr).drew.trans hE
          go_wp2_with fail
          refine (HCXY.out w9 (HE.out.trans e9)).mono ?_
          rintro e w8 ⟨rfl, hE8⟩
          go_wp2_with fail
          exact hK _ _ X hE8 kept_m (hX.ext hE8) rfl
        · refine ⟨_, 170, rfl, by kernel_rfl, ?_⟩
          intro u w9 X hE hX hd K hK
          have d11 : u 169 = .int .i64 z := hd 11 (by kernel_rfl)
          clear hd
          simp only [overlay, List.setIfInBounds_toArray, List.set, d11] at hK ⊢
          go_wp2_with fail
          exact hK _ _ X (Ext.refl _) kept_m hX rfl
        · refine ⟨_, 171, rfl, by kernel_rfl, ?_⟩
          intro u w9 X hE hX hd K hK
          have d12 : u 170 = .bool true := hd 12 (by kernel_rfl)
          clear hd
          simp only [overlay, List.setIfInBounds_toArray, List.set, d12] at hK ⊢
          go_wp2_with fail
          exact hK _ _ X (Ext.refl _) kept_m hX rfl
      · exact mem_nil_m
      intro u w9 X hE hX hd
      have d0 : u 158 = .func (.func 102) #[lv] #[] := hd 0 (by decide)
      have d1 : u 159 = .slice (some ⟨g, 0, none⟩) n c := hd 1 (by decide)
      have d2 : u 160 = .int .i64 (Q : Int) := hd 2 (by decide)
      have d3 : u 161 = .int .i64 (t : Int) := hd 3 (by decide)
      have d4 : u 162 = .int .i64 (tt : Int) := hd 4 (by decide)
      have d5 : u 163 = .pointer (some ⟨g, tt, none⟩) := hd 5 (by decide)
      have d6 : u 164 = .int .i64 x := hd 6 (by decide)
      have d7 : u 165 = .slice (some ⟨g, 0, none⟩) n c := hd 7 (by decide)
      have d8 : u 166 = .int .i64 (t : Int) := hd 8 (by decide)
      have d9 : u 167 = .pointer (some ⟨g, t, none⟩) := hd 9 (by decide)
      have d10 : u 168 = .int .i64 y := hd 10 (by decide)
      have d11 : u 169 = .int .i64 z := hd 11 (by decide)
      have d12 : u 170 = .bool true := hd 12 (by decide)
      have d13 : u 171 = .bool false := hd 13 (by decide)
      clear hd
      simp only [overlay, List.setIfInBounds_toArray, List.set, d0, d1, d2, d3, d4, d5, d6, d7, d8, d9, d10, d11, d12, d13]
      have e9 : Ext wr w9 := (Ext.refl wr).drew.trans hE
      clear d0 d1 d2 d3 d4 d5 d6 d7 d8 d9 d10 d11 d12 d13
      clear hX hE
      generalize u 164 = t164z1
      generalize u 168 = t168z1
      clear u
      obtain ⟨wk2, rfl⟩ : ∃ wx : World, wx = w9 := ⟨_, rfl⟩
      replace HO := Lib.hid (HO.out.ext e9)
      replace HER := Lib.hid (HER.out.trans (e9))
      replace HE := Lib.hid (HE.out.trans (e9))
      clear e9
      clear CX CY hzd HER HCXY
      go_wp2_with fail
      go_roundw
      case rel => exact ⟨i, t, rfl, rfl, him, hit, by omega, HI, Lib.hid (.inr (by rw [← HU.out, HGX.out, HGY.out, HGZ.out]; exact hz)), HO.out, HE.out⟩
      case measure => simp [intOf]; omega
    · as_aux_lemma =>
      have hzd : decide (z < 0) = false := by simpa using hz
      refine wp_region_x0 [MProp.is (.func (.func 102) #[lv] #[]), MProp.is (.slice (some ⟨g, 0, none⟩) n c), MProp.is (.int .i64 (Q : Int)), MProp.is (.int .i64 (t : Int)), MProp.is (.int .i64 (tt : Int)), MProp.is (.pointer (some ⟨g, tt, none⟩)), MProp.is (.int .i64 x), MProp.is (.slice (some ⟨g, 0, none⟩) n c), MProp.is (.int .i64 (t : Int)), MProp.is (.pointer (some ⟨g, t, none⟩)), MProp.is (.int .i64 y), MProp.is (.int .i64 z), MProp.is (.bool false), MProp.is (.bool true)] [0, 1, 2, 3, 4, 5, 6, 7, 8, 9, 10, 11, 12, 13] [] [158, 159, 160, 161, 162, 163, 164, 165, 166, 167, 168, 169, 170, 171] (by kernel_rfl) (by kernel_rfl) (by kernel_rfl) ?_ ?_ ?_
      · refine mem_cons_m ?_ (mem_cons_m ?_ (mem_cons_m ?_ (mem_cons_m ?_ (mem_cons_m ?_ (mem_cons_m ?_ (mem_cons_m ?_ (mem_cons_m ?_ (mem_cons_m ?_ (mem_cons_m ?_ (mem_cons_m ?_ (mem_cons_m ?_ (mem_cons_m ?_ (mem_cons_m ?_ (mem_nil_m))))))))))))))
        · refine ⟨_, 158, rfl, by kernel_rfl, ?_⟩
          intro u w9 X hE hX hd K hK
          clear hd
          simp only [overlay, List.setIfInBounds_toArray, List.set] at hK ⊢
          go_wp2_with fail
          exact hK _ _ X (Ext.refl _) kept_m hX rfl
        · refine ⟨_, 159, rfl, by kernel_rfl, ?_⟩
          intro u w9 X hE hX hd K hK
          clear hd
          simp only [overlay, List.setIfInBounds_toArray, List.set] at hK ⊢
          go_wp2_with fail
          exact hK _ _ X (Ext.refl _) kept_m hX rfl
        · refine ⟨_, 160, rfl, by kernel_rfl, ?_⟩
          intro u w9 X hE hX hd K hK
          clear hd
          simp only [overlay, List.setIfInBounds_toArray, List.set] at hK ⊢
          go_wp2_with fail
          exact hK _ _ X (Ext.refl _) kept_m hX rfl
        · refine ⟨_, 161, rfl, by kernel_rfl, ?_⟩
          intro u w9 X hE hX hd K hK
          clear hd
          simp only [overlay, List.setIfInBounds_toArray, List.set] at hK ⊢
          go_wp2_with fail
          exact hK _ _ X (Ext.refl _) kept_m hX rfl
        · refine ⟨_, 162, rfl, by kernel_rfl, ?_⟩
          intro u w9 X hE hX hd K hK
          have d2 : u 160 = .int .i64 (Q : Int) := hd 2 (by kernel_rfl)
          have d3 : u 161 = .int .i64 (t : Int) := hd 3 (by kernel_rfl)
          clear hd
          simp only [overlay, List.setIfInBounds_toArray, List.set, d2, d3] at hK ⊢
          go_wp2_with fail
          exact hK _ _ X (Ext.refl _) kept_m hX rfl
        · refine ⟨_, 163, rfl, by kernel_rfl, ?_⟩
          intro u w9 X hE hX hd K hK
          have d1 : u 159 = .slice (some ⟨g, 0, none⟩) n c := hd 1 (by kernel_rfl)
          have d4 : u 162 = .int .i64 (tt : Int) := hd 4 (by kernel_rfl)
          clear hd
          simp only [overlay, List.setIfInBounds_toArray, List.set, d1, d4] at hK ⊢
          go_wp2_with fail
          exact hK _ _ X (Ext.refl _) kept_m hX rfl
        · refine ⟨_, 164, rfl, by kernel_rfl, ?_⟩
          intro u w9 X hE hX hd K hK
          have d5 : u 163 = .pointer (some ⟨g, tt, none⟩) := hd 5 (by kernel_rfl)
          clear hd
          simp only [overlay, List.setIfInBounds_toArray, List.set, d5] at hK ⊢
          have e9 : Ext wr w9 := (Ext.refl wr).drew.trans hE
          have a9 := e9.cell CX.out
          go_wp2_with fail
          exact hK _ _ X (Ext.refl _) kept_m hX rfl
        · refine ⟨_, 165, rfl, by kernel_rfl, ?_⟩
          intro u w9 X hE hX hd K hK
          clear hd
          simp only [overlay, List.setIfInBounds_toArray, List.set] at hK ⊢
          go_wp2_with fail
          exact hK _ _ X (Ext.refl _) kept_m hX rfl
        · refine ⟨_, 166, rfl, by kernel_rfl, ?_⟩
          intro u w9 X hE hX hd K hK
          clear hd
          simp only [overlay, List.setIfInBounds_toArray, List.set] at hK ⊢
          go_wp2_with fail
          exact hK _ _ X (Ext.refl _) kept_m hX rfl
        · refine ⟨_, 167, rfl, by kernel_rfl, ?_⟩
          intro u w9 X hE hX hd K hK
          have d7 : u 165 = .slice (some ⟨g, 0, none⟩) n c := hd 7 (by kernel_rfl)
          have d8 : u 166 = .int .i64 (t : Int) := hd 8 (by kernel_rfl)
          clear hd
          simp only [overlay, List.setIfInBounds_toArray, List.set, d7, d8] at hK ⊢
          go_wp2_with fail
          exact hK _ _ X (Ext.refl _) kept_m hX rfl
        · refine ⟨_, 168, rfl, by kernel_rfl, ?_⟩
          intro u w9 X hE hX hd K hK
          have d9 : u 167 = .pointer (some ⟨g, t, none⟩) := hd 9 (by kernel_rfl)
          clear hd
          simp only [overlay, List.setIfInBounds_toArray, List.set, d9] at hK ⊢
          have e9 : Ext wr w9 := (Ext.refl wr).drew.trans hE
          have a9 := e9.cell CY.out
          go_wp2_with fail
          exact hK _ _ X (Ext.refl _) kept_m hX rfl
        · refine ⟨_, 169, rfl, by kernel_rfl, ?_⟩
          intro u w9 X hE hX hd K hK
          have d0 : u 158 = .func (.func 102) #[lv] #[] := hd 0 (by kernel_rfl)
          have d6 : u 164 = .int .i64 x := hd 6 (by kernel_rfl)
          have d10 : u 168 = .int .i64 y := hd 10 (by kernel_rfl)
          clear hd
          simp only [overlay, List.setIfInBounds_toArray, List.set, d0, d6, d10] at hK ⊢
          have e9 : Ext wr w9 := (Ext.refl wr).drew.trans hE
          go_wp2_with fail
          refine (HCXY.out w9 (HE.out.trans e9)).mono ?_
          rintro e w8 ⟨rfl, hE8⟩
          go_wp2_with fail
          exact hK _ _ X hE8 kept_m (hX.ext hE8) rfl
        · refine ⟨_, 170, rfl, by kernel_rfl, ?_⟩
          intro u w9 X hE hX hd K hK
          have d11 : u 169 = .int .i64 z := hd 11 (by kernel_rfl)
          clear hd
          simp only [overlay, List.setIfInBounds_toArray, List.set, d11] at hK ⊢
          go_wp2_with fail
          exact hK _ _ X (Ext.refl _) kept_m hX rfl
        · refine ⟨_, 171, rfl, by kernel_rfl, ?_⟩
          intro u w9 X hE hX hd K hK
          have d12 : u 170 = .bool false := hd 12 (by kernel_rfl)
          clear hd
          simp only [overlay, List.setIfInBounds_toArray, List.set, d12] at hK ⊢
          go_wp2_with fail
          exact hK _ _ X (Ext.refl _) kept_m hX rfl
      · exact mem_nil_m
      intro u w9 X hE hX hd
      have d0 : u 158 = .func (.func 102) #[lv] #[] := hd 0 (by decide)
      have d1 : u 159 = .slice (some ⟨g, 0, none⟩) n c := hd 1 (by decide)
      have d2 : u 160 = .int .i64 (Q : Int) := hd 2 (by decide)
      have d3 : u 161 = .int .i64 (t : Int) := hd 3 (by decide)
      have d4 : u 162 = .int .i64 (tt : Int) := hd 4 (by decide)
      have d5 : u 163 = .pointer (some ⟨g, tt, none⟩) := hd 5 (by decide)
      have d6 : u 164 = .int .i64 x := hd 6 (by decide)
      have d7 : u 165 = .slice (some ⟨g, 0, none⟩) n c := hd 7 (by decide)
      have d8 : u 166 = .int .i64 (t : Int) := hd 8 (by decide)
      have d9 : u 167 = .pointer (some ⟨g, t, none⟩) := hd 9 (by decide)
      have d10 : u 168 = .int .i64 y := hd 10 (by decide)
      have d11 : u 169 = .int .i64 z := hd 11 (by decide)
      have d12 : u 170 = .bool false := hd 12 (by decide)
      have d13 : u 171 = .bool true := hd 13 (by decide)
      clear hd
      simp only [overlay, List.setIfInBounds_toArray, List.set, d0, d1, d2, d3, d4, d5, d6, d7, d8, d9, d10, d11, d12, d13]
      have e9 : Ext wr w9 := (Ext.refl wr).drew.trans hE
      clear d0 d1 d2 d3 d4 d5 d6 d7 d8 d9 d10 d11 d12 d13
      clear hX hE
      generalize u 164 = t164z1
      generalize u 168 = t168z1
      clear u
      obtain ⟨wk2, rfl⟩ : ∃ wx : World, wx = w9 := ⟨_, rfl⟩
      replace HO := Lib.hid (HO.out.ext e9)
      replace HER := Lib.hid (HER.out.trans (e9))
      replace HE := Lib.hid (HE.out.trans (e9))
      clear e9
      clear CX CY hzd HER HCXY
      go_wp2_with fail
      go_roundw
      case rel => exact ⟨t + 1, j, by go_num, rfl, by omega, by omega, hjb, Lib.hid (.inr (by rw [show t + 1 - 1 = t by omega, ← HU.out, HGX.out, HGY.out, HGZ.out]; omega)), HJ, HO.out, HE.out⟩
      case measure => simp [intOf]; omega
  have hji : i = j := by omega
  subst hji
  obtain ⟨e, he⟩ : ∃ e, e + i = mid + m := ⟨mid + m - i, by have := HNN.out; omega⟩
  obtain ⟨L1, L2, ⟨c1, n1⟩, ⟨c2, n2⟩, ⟨c3, n3⟩⟩ := HPLAN.out i him hjb HI.out HJ.out e he
  have v1 : (nn : Int) - (i : Int) = (e : Int) := by have := HNN.out; omega
  have v2 : IntKind.i64.wrap ((nn : Int) - (i : Int)) = (e : Int) := by rw [v1]; exact IntWalk.i64_in _ (by have := HNN.out; omega)
  have hen : e ≤ n := by have := HNN.out; have := HQ.out; omega
  have him2 : i ≤ m := by omega
  have C1 := Lib.hid c1
  have N1 := Lib.hid n1
  have C2 := Lib.hid c2
  have N2 := Lib.hid n2
  have C3 := Lib.hid c3
  have N3 := Lib.hid n3
  have HHE := Lib.hid he
  clear c1 n1 c2 n2 c3 n3 he HPLAN HI HJ HOK HCMP HSR HMID
  obtain ⟨wo, rfl⟩ : ∃ wx : World, wx = wr := ⟨_, rfl⟩
  go_upto_region 39 with (fail)
  go_cut [185] (fun v wx => v = .bool (decide (i < m ∧ m < e)) ∧ wx = wo)
  case first => as_aux_lemma =>
    by_cases h1 : i < m
    · by_cases h2 : m < e
      · have hp : decide (i < m ∧ m < e) = true := by simp [h1, h2]
        have HPP := Lib.hid hp
        clear hp
        go_wp2_with fail
        go_meet
        case rel => exact ⟨by rw [HPP.out], rfl⟩
      · have hp : decide (i < m ∧ m < e) = false := by simp [h2]
        have HPP := Lib.hid hp
        clear hp
        go_wp2_with fail
        go_meet
        case rel => exact ⟨by rw [HPP.out], rfl⟩
    · have hp : decide (i < m ∧ m < e) = false := by simp [h1]
      have HPP := Lib.hid hp
      clear hp
      go_wp2_with fail
      go_meet
      case rel => exact ⟨by rw [HPP.out], rfl⟩
  case rest =>
  obtain ⟨rfl, hcw⟩ := hcut
  subst hcw
  go_upto_if 185 with (fail)
  go_cut [20] (fun sv wx => sv = .int .i64 (i : Int) ∧ OwnI wB.heap.size (fun _ => False) wx (.slice (some ⟨g, 0, none⟩) n c) n L1 ∧ Ext wB wx)
  case first => as_aux_lemma =>
    by_cases hp : i < m ∧ m < e
    · have HC := Lib.hid (C1.out hp wc HO.out HE.out)
      rw [decide_eq_true hp]
      clear HO HE C1 N1 C2 N2 C3 N3 hp
      go_wp2_with fail
      refine HC.out.mono ?_
      rintro e w2 ⟨rfl, hO, hE⟩
      clear HC
      have HO := Lib.hid hO
      have HE := Lib.hid hE
      clear hO hE
      go_wp2_with fail
      go_meet
      case rel => exact ⟨rfl, HO.out, HE.out⟩
    · have hN := N1.out hp
      have HO2 := HO.out
      rw [hN] at HO2
      have HO := Lib.hid HO2
      rw [decide_eq_false hp]
      clear HO2 hN C1 N1 C2 N2 C3 N3 hp
      go_wp2_with fail
      go_meet
      case rel => exact ⟨rfl, HO.out, HE.out⟩
  case rest =>
  obtain ⟨rfl, hO, hE⟩ := hcut
  clear HO HE C1 N1
  have HO := Lib.hid hO
  have HE := Lib.hid hE
  clear hO hE v1 v2
  obtain ⟨wp, rfl⟩ : ∃ wx : World, wx = wc := ⟨_, rfl⟩
  go_upto_region 41 with (fail)
  go_cut [199] (fun v wx => v = .bool (decide (a < i ∧ i < mid)) ∧ wx = wp)
  case first => as_aux_lemma =>
    by_cases h1 : a < i
    · by_cases h2 : i < mid
      · have hp : decide (a < i ∧ i < mid) = true := by simp [h1, h2]
        have HPP := Lib.hid hp
        clear hp
        go_wp2_with fail
        go_meet
        case rel => exact ⟨by rw [HPP.out], rfl⟩
      · have hp : decide (a < i ∧ i < mid) = false := by simp [h2]
        have HPP := Lib.hid hp
        clear hp
        go_wp2_with fail
        go_meet
        case rel => exact ⟨by rw [HPP.out], rfl⟩
    · have hp : decide (a < i ∧ i < mid) = false := by simp [h1]
      have HPP := Lib.hid hp
      clear hp
      go_wp2_with fail
      go_meet
      case rel => exact ⟨by rw [HPP.out], rfl⟩
  case rest =>
  obtain ⟨rfl, hcw⟩ := hcut
  subst hcw
  go_upto_if 199 with (fail)
  go_cut [20] (fun sv wx => sv = .int .i64 (i : Int) ∧ OwnI wB.heap.size (fun _ => False) wx (.slice (some ⟨g, 0, none⟩) n c) n L2 ∧ Ext wB wx)
  case first => as_aux_lemma =>
    by_cases hp : a < i ∧ i < mid
    · have HC := Lib.hid (C2.out hp wc HO.out HE.out)
      rw [decide_eq_true hp]
      clear HO HE C2 N2 C3 N3 hp
      go_wp2_with fail
      refine HC.out.mono ?_
      rintro e w2 ⟨rfl, hO, hE⟩
      clear HC
      have HO := Lib.hid hO
      have HE := Lib.hid hE
      clear hO hE
      go_wp2_with fail
      go_meet
      case rel => exact ⟨rfl, HO.out, HE.out⟩
    · have hN := N2.out hp
      have HO2 := HO.out
      rw [hN] at HO2
      have HO := Lib.hid HO2
      rw [decide_eq_false hp]
      clear HO2 hN C2 N2 C3 N3 hp
      go_wp2_with fail
      go_meet
      case rel => exact ⟨rfl, HO.out, HE.out⟩
  case rest =>
  obtain ⟨rfl, hO, hE⟩ := hcut
  clear HO HE C2 N2
  have HO := Lib.hid hO
  have HE := Lib.hid hE
  clear hO hE
  by_cases h1 : mid < e
  · by_cases h2 : e < b
    · have HC := Lib.hid (C3.out ⟨h1, h2⟩ wc HO.out HE.out)
      have d1 : decide ((mid : Int) < (e : Int)) = true := by simpa using h1
      have d2 : decide ((e : Int) < (b : Int)) = true := by simpa using h2
      clear HO HE C3 N3
      go_wp2_with fail
      refine HC.out.mono ?_
      rintro e w2 ⟨rfl, hO, hE⟩
      clear HC
      have HO := Lib.hid hO
      have HE := Lib.hid hE
      clear hO hE
      go_wp2_with fail
      go_end0
      exact ⟨rfl, HO.out, HE.out⟩
    · have hN := N3.out (fun h => h2 h.2)
      have HO2 := HO.out
      rw [hN] at HO2
      have HO := Lib.hid HO2
      have d1 : decide ((mid : Int) < (e : Int)) = true := by simpa using h1
      have d2 : decide ((e : Int) < (b : Int)) = false := by simpa using h2
      clear HO2 hN C3 N3
      go_wp2_with fail
      go_end0
      exact ⟨rfl, HO.out, HE.out⟩
  · have hN := N3.out (fun h => h1 h.1)
    have HO2 := HO.out
    rw [hN] at HO2
    have HO := Lib.hid HO2
    have d1 : decide ((mid : Int) < (e : Int)) = false := by simpa using h1
    clear HO2 hN C3 N3
    go_wp2_with fail
    go_end0
    exact ⟨rfl, HO.out, HE.out⟩
end Go.Proofs.Ytgkemmdghmklfaa
