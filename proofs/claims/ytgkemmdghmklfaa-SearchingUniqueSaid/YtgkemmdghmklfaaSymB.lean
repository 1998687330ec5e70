/-
  THE WALK of slices.symMergeCmpFunc, one element behind the others. (Printed by gen_sym.py.)
-/
import Derived.Test.YtgkemmdghmklfaaSymA
namespace Go.Proofs.Ytgkemmdghmklfaa
set_option linter.unusedSimpArgs false
set_option linter.unusedVariables false
open Go.RowKit


theorem symB_law {cf : Int → Int → Int} (h : POrd cf) {P X S L : List Int} {y : Int} {a i m : Nat} (hL : L = P ++ (X ++ (y :: S))) (ha : P.length = a) (hb : a + X.length = m) (h1 : a ≤ i) (h2 : i ≤ m) (hs : Srt cf X) (hl : Low X [y])
    (h3 : i = a ∨ 0 ≤ cf y (L.getD (i - 1) 0)) (h4 : i = m ∨ cf y (L.getD i 0) < 0) : X.take (i - a) ++ y :: X.drop (i - a) = mrg cf X [y] := by
  have hg : ∀ k, a ≤ k → k < m → L.getD k 0 = X.getD (k - a) 0 := by
    intro k k1 k2
    rw [hL, getD_in P (by omega) (by omega), ha]
  have e : X = X.take (i - a) ++ X.drop (i - a) := (List.take_append_drop _ _).symm
  have hres := mrg_one_right h (y := y) (X1 := X.take (i - a)) (X2 := X.drop (i - a)) (by rw [← e]; exact hs) (by rw [← e]; exact hl) ?_ ?_
  · rw [← e] at hres; exact hres
  · intro x hx
    obtain ⟨k, k1, k2, rfl⟩ := take_mem_getD hx
    have hm : X.getD k 0 ∈ X := by simp [List.getD, k2]
    rcases h3 with h3 | h3
    · omega
    · rw [hg (i - 1) (by omega) (by omega)] at h3
      have h5 : cf (X.getD (i - 1 - a) 0) y ≤ 0 := by have := h.neg y (X.getD (i - 1 - a) 0); omega
      by_cases hk : k = i - 1 - a
      · rw [← hk] at h5; exact bef_of_le h5 (hl _ hm y (by simp))
      · have h6 := srt_get hs (show k < i - 1 - a by omega) (by omega)
        have h7 : cf (X.getD k 0) (X.getD (i - 1 - a) 0) ≤ 0 := by rcases h6 with h6 | h6 <;> omega
        exact bef_of_le (h.tr _ _ _ h7 h5) (hl _ hm y (by simp))
  · intro x hx
    obtain ⟨k, k1, k2, rfl⟩ := drop_mem_getD hx
    rcases h4 with h4 | h4
    · omega
    · rw [hg i (by omega) (by omega)] at h4
      by_cases hk : k = i - a
      · rw [hk]; exact .inl h4
      · exact Bef.trans h (.inl h4) (srt_get hs (show i - a < k by omega) k2)

set_option maxRecDepth 1000000 in
set_option maxHeartbeats 8000000 in
theorem symB_any (cf : Int → Int → Int) (h : POrd cf) (wB : World) (lv : Value) (N : Int)
    (hcmp : ∀ (w' : World) (x y : Int), Ext wB w' → 0 ≤ x → x < N → 0 ≤ y → y < N → Calls Try.prog 102 #[lv, .int .i64 x, .int .i64 y] w' fun e w'' => e = .returned (.int .i64 (cf x y)) ∧ Ext w' w'')
    (P X S : List Int) (x0 : Int) (g n c a m b : Nat) (w : World) (hO : OwnI wB.heap.size (fun _ => False) w (.slice (some ⟨g, 0, none⟩) n c) n (P ++ (X ++ (x0 :: S)))) (hE : Ext wB w) (hok : ∀ x ∈ P ++ (X ++ (x0 :: S)), 0 ≤ x ∧ x < N) (ha : P.length = a) (hm : a + X.length = m) (hb : m + 1 = b) (hX : 1 < X.length) (hs : Srt cf X) (hl : Low X [x0]) (hn : n ≤ 65536) :
    Calls Try.prog 164 #[.slice (some ⟨g, 0, none⟩) n c, .int .i64 (a : Int), .int .i64 (m : Int), .int .i64 (b : Int), .func (.func 102) #[lv] #[]] w fun e w' => e = .returned (.tuple #[]) ∧ OwnI wB.heap.size (fun _ => False) w' (.slice (some ⟨g, 0, none⟩) n c) n (P ++ (mrg cf X [x0] ++ S)) ∧ Ext wB w' := by
  have hlen := hO.1
  simp only [List.length_append, List.length_cons] at hlen
  have hma : ¬ (m : Int) - (a : Int) = 1 := by omega
  have hbm : (b : Int) - (m : Int) = 1 := by omega
  have hmab : ((m : Int) - (a : Int) == 1) = false := by simpa using hma
  have hwma : IntKind.i64.wrap ((m : Int) - (a : Int)) = (m : Int) - (a : Int) := IntWalk.i64_in _ (by omega)
  have hbn : b ≤ n := by omega
  have hmn : m < n := by omega
  have ham : a < m := by omega
  have hg0 : (P ++ (X ++ (x0 :: S))).getD m 0 = x0 := by
    have e : P ++ (X ++ (x0 :: S)) = (P ++ X) ++ x0 :: S := by simp
    rw [e, show m = (P ++ X).length by simp; omega]; exact getD_mid _ _ _
  generalize hR : P ++ (mrg cf X [x0] ++ S) = R
  have HR := Lib.hid hR
  clear hR
  generalize hL : P ++ (X ++ (x0 :: S)) = L at *
  have HLAW := Lib.hid (fun (i : Nat) (h1 : a ≤ i) (h2 : i ≤ m) (h3 : i = a ∨ 0 ≤ cf (L.getD m 0) (L.getD (i - 1) 0)) (h4 : i = m ∨ cf (L.getD m 0) (L.getD i 0) < 0) => symB_law h hL.symm ha hm h1 h2 hs hl (by rw [← hg0]; exact h3) (by rw [← hg0]; exact h4))
  have HX0 := Lib.hid hg0
  have HL := Lib.hid hL
  have HP := Lib.hid (And.intro ha (And.intro hm hb))
  have HCMP := Lib.hid hcmp
  have HO := Lib.hid hO
  have HE := Lib.hid hE
  have HOK := Lib.hid hok
  clear hcmp hO hE hok hlen ha hm hb hs hl hg0 hL h hX
  go_enter Try.func164, Try.ntmps164
  go_wp2_with fail
  go_loopw [14, 15, 16] (fun iv jv hv wr => ∃ (i j : Nat), iv = .int .i64 (i : Int) ∧ jv = .int .i64 (j : Int) ∧ a ≤ i ∧ i ≤ j ∧ j ≤ m ∧ Hid (i = a ∨ 0 ≤ cf (L.getD m 0) (L.getD (i - 1) 0)) ∧ Hid (j = m ∨ cf (L.getD m 0) (L.getD j 0) < 0) ∧ OwnI wB.heap.size (fun _ => False) wr (.slice (some ⟨g, 0, none⟩) n c) n L ∧ Ext wB wr) (fun iv jv _ _ => (intOf jv).toNat - (intOf iv).toNat)
  case atStart => exact ⟨a, m, rfl, rfl, Nat.le_refl _, by omega, Nat.le_refl _, Lib.hid (.inl rfl), Lib.hid (.inl rfl), HO.out, HE.out⟩
  case round =>
  clear HO HE hma hmab hbm hwma
  obtain ⟨i, j, rfl, rfl, him, hij, hjb, HI, HJ, hO, hE⟩ := hrel
  have HO := Lib.hid hO
  have HE := Lib.hid hE
  clear hO hE
  by_cases hlt : i < j
  · obtain ⟨t, ht⟩ : ∃ h, h = (i + j) / 2 := ⟨_, rfl⟩
    have u1 : IntKind.i64.wrap ((i : Int) + (j : Int)) = (i : Int) + (j : Int) := IntWalk.i64_in _ (by omega)
    have u2 : IntKind.u64.wrap ((i : Int) + (j : Int)) = (i : Int) + (j : Int) := IntWalk.u64_in _ (by omega)
    have u3 : ((i : Int) + (j : Int)) / 2 = (t : Int) := by omega
    have u4 : IntKind.i64.wrap (t : Int) = (t : Int) := IntWalk.i64_in _ (by omega)
    have hxl := HO.out.1
    obtain ⟨g1, eg1, _, _, cx, fx, sx⟩ := HO.out.at' (j := m) (by omega)
    cases eg1
    obtain ⟨g2, eg2, _, _, cy, fy, sy⟩ := HO.out.at' (j := t) (by omega)
    cases eg2
    have hok1 := HOK.out (L.getD m 0) (by simp [List.getD, show m < L.length by omega])
    have hok2 := HOK.out (L.getD t 0) (by simp [List.getD, show t < L.length by omega])
    have HCXY := Lib.hid (fun (w' : World) (e : Ext wB w') => HCMP.out w' (L.getD m 0) (L.getD t 0) e hok1.1 hok1.2 hok2.1 hok2.2)
    obtain ⟨x, hgx⟩ : ∃ x, L.getD m 0 = x := ⟨_, rfl⟩
    obtain ⟨y, hgy⟩ : ∃ y, L.getD t 0 = y := ⟨_, rfl⟩
    obtain ⟨z, hgz⟩ : ∃ z, cf x y = z := ⟨_, rfl⟩
    rw [hgx, hgy, hgz] at HCXY
    rw [hgx] at cx
    rw [hgy] at cy
    have HGX := Lib.hid hgx
    have HGY := Lib.hid hgy
    have HGZ := Lib.hid hgz
    have CX := Lib.hid cx
    have CY := Lib.hid cy
    have HER := Lib.hid (Ext.refl wr)
    clear hxl hok1 hok2 cx cy fx fy sx sy hgx hgy hgz
    have htj : t < j := by omega
    have hit : i ≤ t := by omega
    have HT := Lib.hid ht
    clear ht
    go_wp2_with fail
    by_cases hz : z < 0
    · have hzd : decide (z < 0) = true := by simpa using hz
      refine wp_region_x0 [MProp.is (.func (.func 102) #[lv] #[]), MProp.is (.slice (some ⟨g, 0, none⟩) n c), MProp.is (.int .i64 (m : Int)), MProp.is (.pointer (some ⟨g, m, none⟩)), MProp.is (.int .i64 x), MProp.is (.slice (some ⟨g, 0, none⟩) n c), MProp.is (.int .i64 (t : Int)), MProp.is (.pointer (some ⟨g, t, none⟩)), MProp.is (.int .i64 y), MProp.is (.int .i64 z), MProp.is (.bool true), MProp.is (.bool false)] [0, 1, 2, 3, 4, 5, 6, 7, 8, 9, 10, 11] [] [92, 93, 94, 95, 96, 97, 98, 99, 100, 101, 102, 103] (by kernel_rfl) (by kernel_rfl) (by kernel_rfl) ?_ ?_ ?_
      · refine mem_cons_m ?_ (mem_cons_m ?_ (mem_cons_m ?_ (mem_cons_m ?_ (mem_cons_m ?_ (mem_cons_m ?_ (mem_cons_m ?_ (mem_cons_m ?_ (mem_cons_m ?_ (mem_cons_m ?_ (mem_cons_m ?_ (mem_cons_m ?_ (mem_nil_m))))))))))))
        · refine ⟨_, 92, rfl, by kernel_rfl, ?_⟩
          intro u w9 X hE hX hd K hK
          clear hd
          simp only [overlay, List.setIfInBounds_toArray, List.set] at hK ⊢
          go_wp2_with fail
          exact hK _ _ X (Ext.refl _) kept_m hX rfl
        · refine ⟨_, 93, rfl, by kernel_rfl, ?_⟩
          intro u w9 X hE hX hd K hK
          clear hd
          simp only [overlay, List.setIfInBounds_toArray, List.set] at hK ⊢
          go_wp2_with fail
          exact hK _ _ X (Ext.refl _) kept_m hX rfl
        · refine ⟨_, 94, rfl, by kernel_rfl, ?_⟩
          intro u w9 X hE hX hd K hK
          clear hd
          simp only [overlay, List.setIfInBounds_toArray, List.set] at hK ⊢
          go_wp2_with fail
          exact hK _ _ X (Ext.refl _) kept_m hX rfl
        · refine ⟨_, 95, rfl, by kernel_rfl, ?_⟩
          intro u w9 X hE hX hd K hK
          have d1 : u 93 = .slice (some ⟨g, 0, none⟩) n c := hd 1 (by kernel_rfl)
          have d2 : u 94 = .int .i64 (m : Int) := hd 2 (by kernel_rfl)
          clear hd
          simp only [overlay, List.setIfInBounds_toArray, List.set, d1, d2] at hK ⊢
          go_wp2_with fail
          exact hK _ _ X (Ext.refl _) kept_m hX rfl
        · refine ⟨_, 96, rfl, by kernel_rfl, ?_⟩
          intro u w9 X hE hX hd K hK
          have d3 : u 95 = .pointer (some ⟨g, m, none⟩) := hd 3 (by kernel_rfl)
          clear hd
          simp only [overlay, List.setIfInBounds_toArray, List.set, d3] at hK ⊢
          have e9 : Ext wr w9 := (Ext.refl wr).drew.trans hE
          have a9 := e9.cell CX.out
          go_wp2_with fail
          exact hK _ _ X (Ext.refl _) kept_m hX rfl
        · refine ⟨_, 97, rfl, by kernel_rfl, ?_⟩
          intro u w9 X hE hX hd K hK
          clear hd
          simp only [overlay, List.setIfInBounds_toArray, List.set] at hK ⊢
          go_wp2_with fail
          exact hK _ _ X (Ext.refl _) kept_m hX rfl
        · refine ⟨_, 98, rfl, by kernel_rfl, ?_⟩
          intro u w9 X hE hX hd K hK
          clear hd
          simp only [overlay, List.setIfInBounds_toArray, List.set] at hK ⊢
          go_wp2_with fail
          exact hK _ _ X (Ext.refl _) kept_m hX rfl
        · refine ⟨_, 99, rfl, by kernel_rfl, ?_⟩
          intro u w9 X hE hX hd K hK
          have d5 : u 97 = .slice (some ⟨g, 0, none⟩) n c := hd 5 (by kernel_rfl)
          have d6 : u 98 = .int .i64 (t : Int) := hd 6 (by kernel_rfl)
          clear hd
          simp only [overlay, List.setIfInBounds_toArray, List.set, d5, d6] at hK ⊢
          go_wp2_with fail
          exact hK _ _ X (Ext.refl _) kept_m hX rfl
        · refine ⟨_, 100, rfl, by kernel_rfl, ?_⟩
          intro u w9 X hE hX hd K hK
          have d7 : u 99 = .pointer (some ⟨g, t, none⟩) := hd 7 (by kernel_rfl)
          clear hd
          simp only [overlay, List.setIfInBounds_toArray, List.set, d7] at hK ⊢
          have e9 : Ext wr w9 := (Ext.refl wr).drew.trans hE
          have a9 := e9.cell CY.out
          go_wp2_with fail
          exact hK _ _ X (Ext.refl _) kept_m hX rfl
        · refine ⟨_, 101, rfl, by kernel_rfl, ?_⟩
          intro u w9 X hE hX hd K hK
          have d0 : u 92 = .func (.func 102) #[lv] #[] := hd 0 (by kernel_rfl)
          have d4 : u 96 = .int .i64 x := hd 4 (by kernel_rfl)
          have d8 : u 100 = .int .i64 y := hd 8 (by kernel_rfl)
          clear hd
          simp only [overlay, List.setIfInBounds_toArray, List.set, d0, d4, d8] at hK ⊢
          have e9 : Ext wr w9 := (Ext.refl wr).drew.trans hE
          go_wp2_with fail
          refine (HCXY.out w9 (HE.out.trans e9)).mono ?_
          rintro e w8 ⟨rfl, hE8⟩
          go_wp2_with fail
          exact hK _ _ X hE8 kept_m (hX.ext hE8) rfl
        · refine ⟨_, 102, rfl, by kernel_rfl, ?_⟩
          intro u w9 X hE hX hd K hK
          have d9 : u 101 = .int .i64 z := hd 9 (by kernel_rfl)
          clear hd
          simp only [overlay, List.setIfInBounds_toArray, List.set, d9] at hK ⊢
          go_wp2_with fail
          exact hK _ _ X (Ext.refl _) kept_m hX rfl
        · refine ⟨_, 103, rfl, by kernel_rfl, ?_⟩
          intro u w9 X hE hX hd K hK
          have d10 : u 102 = .bool true := hd 10 (by kernel_rfl)
          clear hd
          simp only [overlay, List.setIfInBounds_toArray, List.set, d10] at hK ⊢
          go_wp2_with fail
          exact hK _ _ X (Ext.refl _) kept_m hX rfl
      · exact mem_nil_m
      intro u w9 X hE hX hd
      have d0 : u 92 = .func (.func 102) #[lv] #[] := hd 0 (by decide)
      have d1 : u 93 = .slice (some ⟨g, 0, none⟩) n c := hd 1 (by decide)
      have d2 : u 94 = .int .i64 (m : Int) := hd 2 (by decide)
      have d3 : u 95 = .pointer (some ⟨g, m, none⟩) := hd 3 (by decide)
      have d4 : u 96 = .int .i64 x := hd 4 (by decide)
      have d5 : u 97 = .slice (some ⟨g, 0, none⟩) n c := hd 5 (by decide)
      have d6 : u 98 = .int .i64 (t : Int) := hd 6 (by decide)
      have d7 : u 99 = .pointer (some ⟨g, t, none⟩) := hd 7 (by decide)
      have d8 : u 100 = .int .i64 y := hd 8 (by decide)
      have d9 : u 101 = .int .i64 z := hd 9 (by decide)
      have d10 : u 102 = .bool true := hd 10 (by decide)
      have d11 : u 103 = .bool false := hd 11 (by decide)
      clear hd
      simp only [overlay, List.setIfInBounds_toArray, List.set, d0, d1, d2, d3, d4, d5, d6, d7, d8, d9, d10, d11]
      have e9 : Ext wr w9 := (Ext.refl wr).drew.trans hE
      clear d0 d1 d2 d3 d4 d5 d6 d7 d8 d9 d10 d11
      clear hX hE
      generalize u 96 = t96z1
      generalize u 100 = t100z1
      clear u
      obtain ⟨wk2, rfl⟩ : ∃ wx : World, wx = w9 := ⟨_, rfl⟩
      replace HO := Lib.hid (HO.out.ext e9)
      replace HER := Lib.hid (HER.out.trans (e9))
      replace HE := Lib.hid (HE.out.trans (e9))
      clear e9
      clear CX CY hzd HER HCXY
      go_wp2_with fail
      go_roundw
      case rel => exact ⟨i, t, rfl, rfl, him, hit, by omega, HI, Lib.hid (.inr (by rw [HGX.out, HGY.out, HGZ.out]; exact hz)), HO.out, HE.out⟩
      case measure => simp [intOf]; omega
    · have hzd : decide (z < 0) = false := by simpa using hz
      refine wp_region_x0 [MProp.is (.func (.func 102) #[lv] #[]), MProp.is (.slice (some ⟨g, 0, none⟩) n c), MProp.is (.int .i64 (m : Int)), MProp.is (.pointer (some ⟨g, m, none⟩)), MProp.is (.int .i64 x), MProp.is (.slice (some ⟨g, 0, none⟩) n c), MProp.is (.int .i64 (t : Int)), MProp.is (.pointer (some ⟨g, t, none⟩)), MProp.is (.int .i64 y), MProp.is (.int .i64 z), MProp.is (.bool false), MProp.is (.bool true)] [0, 1, 2, 3, 4, 5, 6, 7, 8, 9, 10, 11] [] [92, 93, 94, 95, 96, 97, 98, 99, 100, 101, 102, 103] (by kernel_rfl) (by kernel_rfl) (by kernel_rfl) ?_ ?_ ?_
      · refine mem_cons_m ?_ (mem_cons_m ?_ (mem_cons_m ?_ (mem_cons_m ?_ (mem_cons_m ?_ (mem_cons_m ?_ (mem_cons_m ?_ (mem_cons_m ?_ (mem_cons_m ?_ (mem_cons_m ?_ (mem_cons_m ?_ (mem_cons_m ?_ (mem_nil_m))))))))))))
        · refine ⟨_, 92, rfl, by kernel_rfl, ?_⟩
          intro u w9 X hE hX hd K hK
          clear hd
          simp only [overlay, List.setIfInBounds_toArray, List.set] at hK ⊢
          go_wp2_with fail
          exact hK _ _ X (Ext.refl _) kept_m hX rfl
        · refine ⟨_, 93, rfl, by kernel_rfl, ?_⟩
          intro u w9 X hE hX hd K hK
          clear hd
          simp only [overlay, List.setIfInBounds_toArray, List.set] at hK ⊢
          go_wp2_with fail
          exact hK _ _ X (Ext.refl _) kept_m hX rfl
        · refine ⟨_, 94, rfl, by kernel_rfl, ?_⟩
          intro u w9 X hE hX hd K hK
          clear hd
          simp only [overlay, List.setIfInBounds_toArray, List.set] at hK ⊢
          go_wp2_with fail
          exact hK _ _ X (Ext.refl _) kept_m hX rfl
        · refine ⟨_, 95, rfl, by kernel_rfl, ?_⟩
          intro u w9 X hE hX hd K hK
          have d1 : u 93 = .slice (some ⟨g, 0, none⟩) n c := hd 1 (by kernel_rfl)
          have d2 : u 94 = .int .i64 (m : Int) := hd 2 (by kernel_rfl)
          clear hd
          simp only [overlay, List.setIfInBounds_toArray, List.set, d1, d2] at hK ⊢
          go_wp2_with fail
          exact hK _ _ X (Ext.refl _) kept_m hX rfl
        · refine ⟨_, 96, rfl, by kernel_rfl, ?_⟩
          intro u w9 X hE hX hd K hK
          have d3 : u 95 = .pointer (some ⟨g, m, none⟩) := hd 3 (by kernel_rfl)
          clear hd
          simp only [overlay, List.setIfInBounds_toArray, List.set, d3] at hK ⊢
          have e9 : Ext wr w9 := (Ext.refl wr).drew.trans hE
          have a9 := e9.cell CX.out
          go_wp2_with fail
          exact hK _ _ X (Ext.refl _) kept_m hX rfl
        · refine ⟨_, 97, rfl, by kernel_rfl, ?_⟩
          intro u w9 X hE hX hd K hK
          clear hd
          simp only [overlay, List.setIfInBounds_toArray, List.set] at hK ⊢
          go_wp2_with fail
          exact hK _ _ X (Ext.refl _) kept_m hX rfl
        · refine ⟨_, 98, rfl, by kernel_rfl, ?_⟩
          intro u w9 X hE hX hd K hK
          clear hd
          simp only [overlay, List.setIfInBounds_toArray, List.set] at hK ⊢
          go_wp2_with fail
          exact hK _ _ X (Ext.refl _) kept_m hX rfl
        · refine ⟨_, 99, rfl, by kernel_rfl, ?_⟩
          intro u w9 X hE hX hd K hK
          have d5 : u 97 = .slice (some ⟨g, 0, none⟩) n c := hd 5 (by kernel_rfl)
          have d6 : u 98 = .int .i64 (t : Int) := hd 6 (by kernel_rfl)
          clear hd
          simp only [overlay, List.setIfInBounds_toArray, List.set, d5, d6] at hK ⊢
          go_wp2_with fail
          exact hK _ _ X (Ext.refl _) kept_m hX rfl
        · refine ⟨_, 100, rfl, by kernel_rfl, ?_⟩
          intro u w9 X hE hX hd K hK
          have d7 : u 99 = .pointer (some ⟨g, t, none⟩) := hd 7 (by kernel_rfl)
          clear hd
          simp only [overlay, List.setIfInBounds_toArray, List.set, d7] at hK ⊢
          have e9 : Ext wr w9 := (Ext.refl wr).drew.trans hE
          have a9 := e9.cell CY.out
          go_wp2_with fail
          exact hK _ _ X (Ext.refl _) kept_m hX rfl
        · refine ⟨_, 101, rfl, by kernel_rfl, ?_⟩
          intro u w9 X hE hX hd K hK
          have d0 : u 92 = .func (.func 102) #[lv] #[] := hd 0 (by kernel_rfl)
          have d4 : u 96 = .int .i64 x := hd 4 (by kernel_rfl)
          have d8 : u 100 = .int .i64 y := hd 8 (by kernel_rfl)
          clear hd
          simp only [overlay, List.setIfInBounds_toArray, List.set, d0, d4, d8] at hK ⊢
          have e9 : Ext wr w9 := (Ext.refl wr).drew.trans hE
          go_wp2_with fail
          refine (HCXY.out w9 (HE.out.trans e9)).mono ?_
          rintro e w8 ⟨rfl, hE8⟩
          go_wp2_with fail
          exact hK _ _ X hE8 kept_m (hX.ext hE8) rfl
        · refine ⟨_, 102, rfl, by kernel_rfl, ?_⟩
          intro u w9 X hE hX hd K hK
          have d9 : u 101 = .int .i64 z := hd 9 (by kernel_rfl)
          clear hd
          simp only [overlay, List.setIfInBounds_toArray, List.set, d9] at hK ⊢
          go_wp2_with fail
          exact hK _ _ X (Ext.refl _) kept_m hX rfl
        · refine ⟨_, 103, rfl, by kernel_rfl, ?_⟩
          intro u w9 X hE hX hd K hK
          have d10 : u 102 = .bool false := hd 10 (by kernel_rfl)
          clear hd
          simp only [overlay, List.setIfInBounds_toArray, List.set, d10] at hK ⊢
          go_wp2_with fail
          exact hK _ _ X (Ext.refl _) kept_m hX rfl
      · exact mem_nil_m
      intro u w9 X hE hX hd
      have d0 : u 92 = .func (.func 102) #[lv] #[] := hd 0 (by decide)
      have d1 : u 93 = .slice (some ⟨g, 0, none⟩) n c := hd 1 (by decide)
      have d2 : u 94 = .int .i64 (m : Int) := hd 2 (by decide)
      have d3 : u 95 = .pointer (some ⟨g, m, none⟩) := hd 3 (by decide)
      have d4 : u 96 = .int .i64 x := hd 4 (by decide)
      have d5 : u 97 = .slice (some ⟨g, 0, none⟩) n c := hd 5 (by decide)
      have d6 : u 98 = .int .i64 (t : Int) := hd 6 (by decide)
      have d7 : u 99 = .pointer (some ⟨g, t, none⟩) := hd 7 (by decide)
      have d8 : u 100 = .int .i64 y := hd 8 (by decide)
      have d9 : u 101 = .int .i64 z := hd 9 (by decide)
      have d10 : u 102 = .bool false := hd 10 (by decide)
      have d11 : u 103 = .bool true := hd 11 (by decide)
      clear hd
      simp only [overlay, List.setIfInBounds_toArray, List.set, d0, d1, d2, d3, d4, d5, d6, d7, d8, d9, d10, d11]
      have e9 : Ext wr w9 := (Ext.refl wr).drew.trans hE
      clear d0 d1 d2 d3 d4 d5 d6 d7 d8 d9 d10 d11
      clear hX hE
      generalize u 96 = t96z1
      generalize u 100 = t100z1
      clear u
      obtain ⟨wk2, rfl⟩ : ∃ wx : World, wx = w9 := ⟨_, rfl⟩
      replace HO := Lib.hid (HO.out.ext e9)
      replace HER := Lib.hid (HER.out.trans (e9))
      replace HE := Lib.hid (HE.out.trans (e9))
      clear e9
      clear CX CY hzd HER HCXY
      go_wp2_with fail
      go_roundw
      case rel => exact ⟨t + 1, j, by go_num, rfl, by omega, by omega, hjb, Lib.hid (.inr (by rw [show t + 1 - 1 = t by omega, HGX.out, HGY.out, HGZ.out]; omega)), HJ, HO.out, HE.out⟩
      case measure => simp [intOf]; omega
  have hji : j = i := by omega
  subst hji
  have hfin := HLAW.out j him hjb HI.out HJ.out
  obtain ⟨ha, hm, hb⟩ := HP.out
  have hX1 : a + (X.take (j - a)).length = j := by rw [List.length_take]; omega
  have hX2 : j + (X.drop (j - a)).length = m := by rw [List.length_drop]; omega
  have hLL : L = P ++ (X.take (j - a) ++ (X.drop (j - a) ++ (x0 :: S))) := by rw [← List.append_assoc (X.take (j - a)), List.take_append_drop, HL.out]
  have hRR : P ++ (X.take (j - a) ++ (x0 :: (X.drop (j - a) ++ S))) = R := by rw [← HR.out, ← hfin]; simp
  generalize X.take (j - a) = X1 at *
  generalize X.drop (j - a) = X2 at *
  have HX1 := Lib.hid hX1
  have HX2 := Lib.hid hX2
  have HLL := Lib.hid hLL
  have HPA := Lib.hid ha
  have HRR := Lib.hid hRR
  clear hfin HLAW hRR hX1 hX2 hLL ha hb HI HJ HX0 HL HP hij hlt
  clear hm
  obtain ⟨wo, rfl⟩ : ∃ wx : World, wx = wr := ⟨_, rfl⟩
  go_wp2_with fail
  go_loopw [17] (fun kv wr => ∃ (k : Nat) (A B : List Int), kv = .int .i64 (k : Int) ∧ Hid (A ++ B = X2 ∧ j + A.length = k) ∧ j ≤ k ∧ k ≤ m ∧ OwnI wB.heap.size (fun _ => False) wr (.slice (some ⟨g, 0, none⟩) n c) n (P ++ (X1 ++ (A ++ (x0 :: (B ++ S))))) ∧ Ext wB wr) (fun kv _ => (intOf kv).toNat)
  case atStart => exact ⟨m, X2, [], rfl, Lib.hid ⟨List.append_nil _, HX2.out⟩, hjb, Nat.le_refl _, by rw [List.nil_append, ← HLL.out]; exact HO.out, HE.out⟩
  case round =>
  clear HO HE HLL HOK
  obtain ⟨k, A, B, rfl, HAB, hjk, hkm, hO, hE⟩ := hrel
  have hAB := HAB.out
  have hABl : A.length + B.length = X2.length := by rw [← hAB.1]; simp
  have HO := Lib.hid hO
  have HE := Lib.hid hE
  clear hO hE
  by_cases hk : j < k
  rotate_left
  · have hA : A = [] := List.length_eq_zero_iff.1 (by omega)
    have hB : B = X2 := by have := hAB.1; rw [hA, List.nil_append] at this; exact this
    have HO2 := HO.out
    rw [hA, hB, List.nil_append] at HO2
    have HO := Lib.hid HO2
    have hkI : ¬ (j : Int) < (k : Int) := by omega
    clear hAB hABl HO2 hB hA HAB
    go_wp2_with fail
    refine bodyPost_ret (results_none rfl _ _ _) rfl ?_
    exact ⟨rfl, by rw [← HRR.out]; exact HO.out, HE.out⟩
  obtain ⟨A0, y, rfl⟩ : ∃ A0 y, A = A0 ++ [y] := by
    have hne : A ≠ [] := fun e => by rw [e] at hAB; simp at hAB; omega
    exact ⟨A.dropLast, A.getLast hne, (List.dropLast_concat_getLast hne).symm⟩
  have hkI : (j : Int) < (k : Int) := by omega
  obtain ⟨q, hq⟩ : ∃ q, k = q + 1 := ⟨k - 1, by omega⟩
  have HSW := Lib.hid (show P ++ (X1 ++ (A0 ++ (x0 :: (y :: B ++ S)))) = swp (P ++ (X1 ++ ((A0 ++ [y]) ++ (x0 :: (B ++ S))))) k q by
    have hl1 := HPA.out
    have hl2 := HX1.out
    have hl3 := hAB.2
    simp only [List.length_append, List.length_cons, List.length_nil] at hl3
    have h1 := swp_mid (P ++ (X1 ++ A0)) [] (B ++ S) y x0 (p := q) (q := k) (by simp; omega) (by simp; omega)
    have e : P ++ (X1 ++ ((A0 ++ [y]) ++ (x0 :: (B ++ S)))) = (P ++ (X1 ++ A0)) ++ y :: ([] ++ x0 :: (B ++ S)) := by simp
    rw [swp_comm, e, h1]; simp)
  have HAB2 : Hid (A0 ++ (y :: B) = X2 ∧ j + A0.length = q) := Lib.hid ⟨by rw [← hAB.1]; simp, by have := hAB.2; simp at this; omega⟩
  have hqI : (k : Int) - 1 = (q : Int) := by omega
  have hwq : IntKind.i64.wrap ((k : Int) - 1) = (q : Int) := by rw [hqI]; exact IntWalk.i64_in _ (by omega)
  have hkn : k < n := by omega
  have hqn : q < n := by omega
  have hqj : j ≤ q := by omega
  have hqm : q ≤ m := by omega
  have hpq : k ≠ q := by omega
  have hkq : q < k := by omega
  clear hq hAB hABl HAB
  generalize hxs3 : P ++ (X1 ++ ((A0 ++ [y]) ++ (x0 :: (B ++ S)))) = xs3 at *
  generalize hxs4 : P ++ (X1 ++ (A0 ++ (x0 :: (y :: B ++ S)))) = xs4 at *
  have HX4 := Lib.hid hxs4
  clear hxs3 hxs4
  have hxl := HO.out.1
  obtain ⟨g1, eg1, hBg, hgl, cx, fx, sx⟩ := HO.out.at' (j := k) (by omega)
  cases eg1
  obtain ⟨g2, eg2, _, _, cy, fy0, _⟩ := HO.out.at' (j := q) (by omega)
  cases eg2
  have hxb := HO.out.2.2.2.2 (xs3.getD k 0) (by simp [List.getD, show k < xs3.length by omega])
  have hyb := HO.out.2.2.2.2 (xs3.getD q 0) (by simp [List.getD, show q < xs3.length by omega])
  have hO1 := sx (xs3.getD q 0) hyb
  obtain ⟨g3, eg3, _, _, cy2, fy, sy⟩ := hO1.at' (j := q) (by omega)
  cases eg3
  have hO2 := (sy (xs3.getD k 0) hxb).ext (Ext.refl _).drew
  have hsw : swp xs3 k q = (xs3.set k (xs3.getD q 0)).set q (xs3.getD k 0) := rfl
  rw [← hsw, ← HSW.out] at hO2
  have hcy : (xs3.set k (xs3.getD q 0)).getD q 0 = xs3.getD q 0 := by simp [List.getD, hpq]
  rw [hcy] at cy2
  generalize xs3.getD k 0 = x1 at *
  generalize xs3.getD q 0 = y1 at *
  have hE2 : Ext wB (((wr.setCell ⟨g, k, none⟩ (.int .i64 y1)).setCell ⟨g, q, none⟩ (.int .i64 x1)).drew) := (((HE.out.setCell (p := ⟨g, k, none⟩) hBg _).setCell (p := ⟨g, q, none⟩) hBg _)).drew
  have HO2 := Lib.hid hO2
  have HE2 := Lib.hid hE2
  clear hO1 sx sy hO2 hE2 HO HE hcy hsw HSW hxl
  go_wp2_with fail
  go_big_region
  generalize ((wr.setCell ⟨g, k, none⟩ (.int .i64 y1)).setCell ⟨g, q, none⟩ (.int .i64 x1)).drew = w7 at HO2 HE2 ⊢
  clear cx cy cy2 fx fy fy0
  (try simp only [Exit.inBlock, Exit.then])
  go_wp2_with fail
  go_roundw
  case rel => exact ⟨q, A0, y :: B, rfl, HAB2, hqj, hqm, by rw [HX4.out]; exact HO2.out, HE2.out⟩
  case measure => simp [intOf]; omega
end Go.Proofs.Ytgkemmdghmklfaa
