/-
  THE WALK of slices.symMergeCmpFunc, one element ahead of the others. (Printed by gen_sym.py.)
-/
import Derived.Test.YtgkemmdghmklfaaSI
namespace Go.Proofs.Ytgkemmdghmklfaa
set_option linter.unusedSimpArgs false
set_option linter.unusedVariables false
open Go.RowKit


/-- What stands at a place of the whole list. -/
theorem getD_in (P : List Int) {Y S : List Int} {k : Nat} (h1 : P.length ≤ k) (h2 : k < P.length + Y.length) : (P ++ (Y ++ S)).getD k 0 = Y.getD (k - P.length) 0 := by
  obtain ⟨i, rfl⟩ : ∃ i, k = P.length + i := ⟨k - P.length, by omega⟩
  have : i < Y.length := by omega
  simp [List.getD, this, List.getElem?_append, show ¬ P.length + i < P.length by omega]
theorem symA_law {cf : Int → Int → Int} (h : POrd cf) {P Y S L : List Int} {x : Int} {a i b : Nat} (hL : L = P ++ (x :: (Y ++ S))) (ha : P.length = a) (hb : a + 1 + Y.length = b) (h1 : a + 1 ≤ i) (h2 : i ≤ b) (hs : Srt cf Y) (hl : Low [x] Y)
    (h3 : i = a + 1 ∨ cf (L.getD (i - 1) 0) x < 0) (h4 : i = b ∨ 0 ≤ cf (L.getD i 0) x) : Y.take (i - (a + 1)) ++ x :: Y.drop (i - (a + 1)) = mrg cf [x] Y := by
  have hg : ∀ k, a + 1 ≤ k → k < b → L.getD k 0 = Y.getD (k - (a + 1)) 0 := by
    intro k k1 k2
    have e : L = (P ++ [x]) ++ (Y ++ S) := by rw [hL]; simp
    rw [e, getD_in (P ++ [x]) (by simp; omega) (by simp; omega)]
    simp [ha]
  have e : Y = Y.take (i - (a + 1)) ++ Y.drop (i - (a + 1)) := (List.take_append_drop _ _).symm
  have hres := mrg_one_left h (x := x) (Y1 := Y.take (i - (a + 1))) (Y2 := Y.drop (i - (a + 1))) (by rw [← e]; exact hs) (by rw [← e]; exact hl) ?_ ?_
  · rw [← e] at hres; exact hres
  · intro y hy
    obtain ⟨k, k1, k2, rfl⟩ := take_mem_getD hy
    rcases h3 with h3 | h3
    · omega
    · rw [hg (i - 1) (by omega) (by omega)] at h3
      by_cases hk : k = i - 1 - (a + 1)
      · rw [hk]; exact .inl h3
      · exact (srt_get hs (show k < i - 1 - (a + 1) by omega) (by omega)).trans h (.inl h3)
  · intro y hy
    obtain ⟨k, k1, k2, rfl⟩ := drop_mem_getD hy
    have hm : Y.getD k 0 ∈ Y := by simp [List.getD, k2]
    rcases h4 with h4 | h4
    · omega
    · rw [hg i (by omega) (by omega)] at h4
      have h5 : cf x (Y.getD (i - (a + 1)) 0) ≤ 0 := by have := h.neg (Y.getD (i - (a + 1)) 0) x; omega
      by_cases hk : k = i - (a + 1)
      · rw [← hk] at h5; exact bef_of_le h5 (hl x (by simp) _ hm)
      · have h6 := srt_get hs (show i - (a + 1) < k by omega) k2
        have h7 : cf (Y.getD (i - (a + 1)) 0) (Y.getD k 0) ≤ 0 := by rcases h6 with h6 | h6 <;> omega
        exact bef_of_le (h.tr _ _ _ h5 h7) (hl x (by simp) _ hm)

set_option maxRecDepth 1000000 in
set_option maxHeartbeats 8000000 in
theorem symA_any (cf : Int → Int → Int) (h : POrd cf) (wB : World) (lv : Value) (N : Int)
    (hcmp : ∀ (w' : World) (x y : Int), Ext wB w' → 0 ≤ x → x < N → 0 ≤ y → y < N → Calls Try.prog 102 #[lv, .int .i64 x, .int .i64 y] w' fun e w'' => e = .returned (.int .i64 (cf x y)) ∧ Ext w' w'')
    (P Y S : List Int) (x0 : Int) (g n c a m b : Nat) (w : World) (hO : OwnI wB.heap.size (fun _ => False) w (.slice (some ⟨g, 0, none⟩) n c) n (P ++ (x0 :: (Y ++ S)))) (hE : Ext wB w) (hok : ∀ x ∈ P ++ (x0 :: (Y ++ S)), 0 ≤ x ∧ x < N) (ha : P.length = a) (hm : a + 1 = m) (hb : m + Y.length = b) (hY : 0 < Y.length) (hs : Srt cf Y) (hl : Low [x0] Y) (hn : n ≤ 65536) :
    Calls Try.prog 164 #[.slice (some ⟨g, 0, none⟩) n c, .int .i64 (a : Int), .int .i64 (m : Int), .int .i64 (b : Int), .func (.func 102) #[lv] #[]] w fun e w' => e = .returned (.tuple #[]) ∧ OwnI wB.heap.size (fun _ => False) w' (.slice (some ⟨g, 0, none⟩) n c) n (P ++ (mrg cf [x0] Y ++ S)) ∧ Ext wB w' := by
  have hlen := hO.1
  simp only [List.length_append, List.length_cons] at hlen
  have hma : (m : Int) - (a : Int) = 1 := by omega
  have hbn : b ≤ n := by omega
  have hmb : m ≤ b := by omega
  have ham : a < m := by omega
  have hg0 : (P ++ (x0 :: (Y ++ S))).getD a 0 = x0 := by rw [← ha]; exact getD_mid _ _ _
  generalize hR : P ++ (mrg cf [x0] Y ++ S) = R
  have HR := Lib.hid hR
  clear hR
  generalize hL : P ++ (x0 :: (Y ++ S)) = L at *
  have HLAW := Lib.hid (fun (i : Nat) (h1 : m ≤ i) (h2 : i ≤ b) (h3 : i = m ∨ cf (L.getD (i - 1) 0) (L.getD a 0) < 0) (h4 : i = b ∨ 0 ≤ cf (L.getD i 0) (L.getD a 0)) => symA_law h hL.symm ha (by omega) (by omega) h2 hs hl (by rw [hm, ← hg0]; exact h3) (by rw [← hg0]; exact h4))
  have HX0 := Lib.hid hg0
  have HL := Lib.hid hL
  have HP := Lib.hid (And.intro ha (And.intro hm hb))
  have HCMP := Lib.hid hcmp
  have HO := Lib.hid hO
  have HE := Lib.hid hE
  have HOK := Lib.hid hok
  clear hcmp hO hE hok hlen ha hm hb hs hl hg0 hL h hY
  go_enter Try.func164, Try.ntmps164
  go_wp2_with fail
  go_loopw [10, 11, 12] (fun iv jv hv wr => ∃ (i j : Nat), iv = .int .i64 (i : Int) ∧ jv = .int .i64 (j : Int) ∧ m ≤ i ∧ i ≤ j ∧ j ≤ b ∧ Hid (i = m ∨ cf (L.getD (i - 1) 0) (L.getD a 0) < 0) ∧ Hid (j = b ∨ 0 ≤ cf (L.getD j 0) (L.getD a 0)) ∧ OwnI wB.heap.size (fun _ => False) wr (.slice (some ⟨g, 0, none⟩) n c) n L ∧ Ext wB wr) (fun iv jv _ _ => (intOf jv).toNat - (intOf iv).toNat)
  case atStart => exact ⟨m, b, rfl, rfl, Nat.le_refl _, hmb, Nat.le_refl _, Lib.hid (.inl rfl), Lib.hid (.inl rfl), HO.out, HE.out⟩
  case round =>
  clear HO HE hma
  obtain ⟨i, j, rfl, rfl, him, hij, hjb, HI, HJ, hO, hE⟩ := hrel
  have HO := Lib.hid hO
  have HE := Lib.hid hE
  clear hO hE
  by_cases hlt : i < j
  · obtain ⟨t, ht⟩ : ∃ h, h = (i + j) / 2 := ⟨_, rfl⟩
    have u1 : IntKind.i64.wrap ((i : Int) + (j : Int)) = (i : Int) + (j : Int) := IntWalk.i64_in _ (by omega)
    have u2 : IntKind.u64.wrap ((i : Int) + (j : Int)) = (i : Int) + (j : Int) := IntWalk.u64_in _ (by omega)
    have u3 : ((i : Int) + (j : Int)) / 2 = (t : Int) := by omega
    have u4 : IntKind.i64.wrap (t : Int) = (t : Int) := IntWalk.i64_in _ (by omega)
    have hxl := HO.out.1
    obtain ⟨g1, eg1, _, _, cx, fx, sx⟩ := HO.out.at' (j := t) (by omega)
    cases eg1
    obtain ⟨g2, eg2, _, _, cy, fy, sy⟩ := HO.out.at' (j := a) (by omega)
    cases eg2
    have hok1 := HOK.out (L.getD t 0) (by simp [List.getD, show t < L.length by omega])
    have hok2 := HOK.out (L.getD a 0) (by simp [List.getD, show a < L.length by omega])
    have HCXY := Lib.hid (fun (w' : World) (e : Ext wB w') => HCMP.out w' (L.getD t 0) (L.getD a 0) e hok1.1 hok1.2 hok2.1 hok2.2)
    obtain ⟨x, hgx⟩ : ∃ x, L.getD t 0 = x := ⟨_, rfl⟩
    obtain ⟨y, hgy⟩ : ∃ y, L.getD a 0 = y := ⟨_, rfl⟩
    obtain ⟨z, hgz⟩ : ∃ z, cf x y = z := ⟨_, rfl⟩
    rw [hgx, hgy, hgz] at HCXY
    rw [hgx] at cx
    rw [hgy] at cy
    have HGX := Lib.hid hgx
    have HGY := Lib.hid hgy
    have HGZ := Lib.hid hgz
    have CX := Lib.hid cx
    have CY := Lib.hid cy
    have HER := Lib.hid (Ext.refl wr)
    clear hxl hok1 hok2 cx cy fx fy sx sy hgx hgy hgz
    have htj : t < j := by omega
    have hit : i ≤ t := by omega
    have HT := Lib.hid ht
    clear ht
    go_wp2_with fail
    by_cases hz : z < 0
    · have hzd : decide (z < 0) = true := by simpa using hz
      refine wp_region_x0 [MProp.is (.func (.func 102) #[lv] #[]), MProp.is (.slice (some ⟨g, 0, none⟩) n c), MProp.is (.int .i64 (t : Int)), MProp.is (.pointer (some ⟨g, t, none⟩)), MProp.is (.int .i64 x), MProp.is (.slice (some ⟨g, 0, none⟩) n c), MProp.is (.int .i64 (a : Int)), MProp.is (.pointer (some ⟨g, a, none⟩)), MProp.is (.int .i64 y), MProp.is (.int .i64 z), MProp.is (.bool true)] [0, 1, 2, 3, 4, 5, 6, 7, 8, 9, 10] [] [40, 41, 42, 43, 44, 45, 46, 47, 48, 49, 50] (by kernel_rfl) (by kernel_rfl) (by kernel_rfl) ?_ ?_ ?_
      · refine mem_cons_m ?_ (mem_cons_m ?_ (mem_cons_m ?_ (mem_cons_m ?_ (mem_cons_m ?_ (mem_cons_m ?_ (mem_cons_m ?_ (mem_cons_m ?_ (mem_cons_m ?_ (mem_cons_m ?_ (mem_cons_m ?_ (mem_nil_m)))))))))))
        · refine ⟨_, 40, rfl, by kernel_rfl, ?_⟩
          intro u w9 X hE hX hd K hK
          clear hd
          simp only [overlay, List.setIfInBounds_toArray, List.set] at hK ⊢
          go_wp2_with fail
          exact hK _ _ X (Ext.refl _) kept_m hX rfl
        · refine ⟨_, 41, rfl, by kernel_rfl, ?_⟩
          intro u w9 X hE hX hd K hK
          clear hd
          simp only [overlay, List.setIfInBounds_toArray, List.set] at hK ⊢
          go_wp2_with fail
          exact hK _ _ X (Ext.refl _) kept_m hX rfl
        · refine ⟨_, 42, rfl, by kernel_rfl, ?_⟩
          intro u w9 X hE hX hd K hK
          clear hd
          simp only [overlay, List.setIfInBounds_toArray, List.set] at hK ⊢
          go_wp2_with fail
          exact hK _ _ X (Ext.refl _) kept_m hX rfl
        · refine ⟨_, 43, rfl, by kernel_rfl, ?_⟩
          intro u w9 X hE hX hd K hK
          have d1 : u 41 = .slice (some ⟨g, 0, none⟩) n c := hd 1 (by kernel_rfl)
          have d2 : u 42 = .int .i64 (t : Int) := hd 2 (by kernel_rfl)
          clear hd
          simp only [overlay, List.setIfInBounds_toArray, List.set, d1, d2] at hK ⊢
          go_wp2_with fail
          exact hK _ _ X (Ext.refl _) kept_m hX rfl
        · refine ⟨_, 44, rfl, by kernel_rfl, ?_⟩
          intro u w9 X hE hX hd K hK
          have d3 : u 43 = .pointer (some ⟨g, t, none⟩) := hd 3 (by kernel_rfl)
          clear hd
          simp only [overlay, List.setIfInBounds_toArray, List.set, d3] at hK ⊢
          have e9 : Ext wr w9 := (Ext.refl wr).drew.trans hE
          have a9 := e9.cell CX.out
          go_wp2_with fail
          exact hK _ _ X (Ext.refl _) kept_m hX rfl
        · refine ⟨_, 45, rfl, by kernel_rfl, ?_⟩
          intro u w9 X hE hX hd K hK
          clear hd
          simp only [overlay, List.setIfInBounds_toArray, List.set] at hK ⊢
          go_wp2_with fail
          exact hK _ _ X (Ext.refl _) kept_m hX rfl
        · refine ⟨_, 46, rfl, by kernel_rfl, ?_⟩
          intro u w9 X hE hX hd K hK
          clear hd
          simp only [overlay, List.setIfInBounds_toArray, List.set] at hK ⊢
          go_wp2_with fail
          exact hK _ _ X (Ext.refl _) kept_m hX rfl
        · refine ⟨_, 47, rfl, by kernel_rfl, ?_⟩
          intro u w9 X hE hX hd K hK
          have d5 : u 45 = .slice (some ⟨g, 0, none⟩) n c := hd 5 (by kernel_rfl)
          have d6 : u 46 = .int .i64 (a : Int) := hd 6 (by kernel_rfl)
          clear hd
          simp only [overlay, List.setIfInBounds_toArray, List.set, d5, d6] at hK ⊢
          go_wp2_with fail
          exact hK _ _ X (Ext.refl _) kept_m hX rfl
        · refine ⟨_, 48, rfl, by kernel_rfl, ?_⟩
          intro u w9 X hE hX hd K hK
          have d7 : u 47 = .pointer (some ⟨g, a, none⟩) := hd 7 (by kernel_rfl)
          clear hd
          simp only [overlay, List.setIfInBounds_toArray, List.set, d7] at hK ⊢
          have e9 : Ext wr w9 := (Ext.refl wr).drew.trans hE
          have a9 := e9.cell CY.out
          go_wp2_with fail
          exact hK _ _ X (Ext.refl _) kept_m hX rfl
        · refine ⟨_, 49, rfl, by kernel_rfl, ?_⟩
          intro u w9 X hE hX hd K hK
          have d0 : u 40 = .func (.func 102) #[lv] #[] := hd 0 (by kernel_rfl)
          have d4 : u 44 = .int .i64 x := hd 4 (by kernel_rfl)
          have d8 : u 48 = .int .i64 y := hd 8 (by kernel_rfl)
          clear hd
          simp only [overlay, List.setIfInBounds_toArray, List.set, d0, d4, d8] at hK ⊢
          have e9 : Ext wr w9 := (Ext.refl wr).drew.trans hE
          go_wp2_with fail
          refine (HCXY.out w9 (HE.out.trans e9)).mono ?_
          rintro e w8 ⟨rfl, hE8⟩
          go_wp2_with fail
          exact hK _ _ X hE8 kept_m (hX.ext hE8) rfl
        · refine ⟨_, 50, rfl, by kernel_rfl, ?_⟩
          intro u w9 X hE hX hd K hK
          have d9 : u 49 = .int .i64 z := hd 9 (by kernel_rfl)
          clear hd
          simp only [overlay, List.setIfInBounds_toArray, List.set, d9] at hK ⊢
          go_wp2_with fail
          exact hK _ _ X (Ext.refl _) kept_m hX rfl
      · exact mem_nil_m
      intro u w9 X hE hX hd
      have d0 : u 40 = .func (.func 102) #[lv] #[] := hd 0 (by decide)
      have d1 : u 41 = .slice (some ⟨g, 0, none⟩) n c := hd 1 (by decide)
      have d2 : u 42 = .int .i64 (t : Int) := hd 2 (by decide)
      have d3 : u 43 = .pointer (some ⟨g, t, none⟩) := hd 3 (by decide)
      have d4 : u 44 = .int .i64 x := hd 4 (by decide)
      have d5 : u 45 = .slice (some ⟨g, 0, none⟩) n c := hd 5 (by decide)
      have d6 : u 46 = .int .i64 (a : Int) := hd 6 (by decide)
      have d7 : u 47 = .pointer (some ⟨g, a, none⟩) := hd 7 (by decide)
      have d8 : u 48 = .int .i64 y := hd 8 (by decide)
      have d9 : u 49 = .int .i64 z := hd 9 (by decide)
      have d10 : u 50 = .bool true := hd 10 (by decide)
      clear hd
      simp only [overlay, List.setIfInBounds_toArray, List.set, d0, d1, d2, d3, d4, d5, d6, d7, d8, d9, d10]
      have e9 : Ext wr w9 := (Ext.refl wr).drew.trans hE
      clear d0 d1 d2 d3 d4 d5 d6 d7 d8 d9 d10
      clear hX hE
      generalize u 44 = t44z1
      generalize u 48 = t48z1
      clear u
      obtain ⟨wk2, rfl⟩ : ∃ wx : World, wx = w9 := ⟨_, rfl⟩
      replace HO := Lib.hid (HO.out.ext e9)
      replace HER := Lib.hid (HER.out.trans (e9))
      replace HE := Lib.hid (HE.out.trans (e9))
      clear e9
      clear CX CY hzd HER HCXY
      go_wp2_with fail
      go_roundw
      case rel => exact ⟨t + 1, j, by go_num, rfl, by omega, by omega, hjb, Lib.hid (.inr (by rw [show t + 1 - 1 = t by omega, HGX.out, HGY.out, HGZ.out]; exact hz)), HJ, HO.out, HE.out⟩
      case measure => simp [intOf]; omega
    · have hzd : decide (z < 0) = false := by simpa using hz
      refine wp_region_x0 [MProp.is (.func (.func 102) #[lv] #[]), MProp.is (.slice (some ⟨g, 0, none⟩) n c), MProp.is (.int .i64 (t : Int)), MProp.is (.pointer (some ⟨g, t, none⟩)), MProp.is (.int .i64 x), MProp.is (.slice (some ⟨g, 0, none⟩) n c), MProp.is (.int .i64 (a : Int)), MProp.is (.pointer (some ⟨g, a, none⟩)), MProp.is (.int .i64 y), MProp.is (.int .i64 z), MProp.is (.bool false)] [0, 1, 2, 3, 4, 5, 6, 7, 8, 9, 10] [] [40, 41, 42, 43, 44, 45, 46, 47, 48, 49, 50] (by kernel_rfl) (by kernel_rfl) (by kernel_rfl) ?_ ?_ ?_
      · refine mem_cons_m ?_ (mem_cons_m ?_ (mem_cons_m ?_ (mem_cons_m ?_ (mem_cons_m ?_ (mem_cons_m ?_ (mem_cons_m ?_ (mem_cons_m ?_ (mem_cons_m ?_ (mem_cons_m ?_ (mem_cons_m ?_ (mem_nil_m)))))))))))
        · refine ⟨_, 40, rfl, by kernel_rfl, ?_⟩
          intro u w9 X hE hX hd K hK
          clear hd
          simp only [overlay, List.setIfInBounds_toArray, List.set] at hK ⊢
          go_wp2_with fail
          exact hK _ _ X (Ext.refl _) kept_m hX rfl
        · refine ⟨_, 41, rfl, by kernel_rfl, ?_⟩
          intro u w9 X hE hX hd K hK
          clear hd
          simp only [overlay, List.setIfInBounds_toArray, List.set] at hK ⊢
          go_wp2_with fail
          exact hK _ _ X (Ext.refl _) kept_m hX rfl
        · refine ⟨_, 42, rfl, by kernel_rfl, ?_⟩
          intro u w9 X hE hX hd K hK
          clear hd
          simp only [overlay, List.setIfInBounds_toArray, List.set] at hK ⊢
          go_wp2_with fail
          exact hK _ _ X (Ext.refl _) kept_m hX rfl
        · refine ⟨_, 43, rfl, by kernel_rfl, ?_⟩
          intro u w9 X hE hX hd K hK
          have d1 : u 41 = .slice (some ⟨g, 0, none⟩) n c := hd 1 (by kernel_rfl)
          have d2 : u 42 = .int .i64 (t : Int) := hd 2 (by kernel_rfl)
          clear hd
          simp only [overlay, List.setIfInBounds_toArray, List.set, d1, d2] at hK ⊢
          go_wp2_with fail
          exact hK _ _ X (Ext.refl _) kept_m hX rfl
        · refine ⟨_, 44, rfl, by kernel_rfl, ?_⟩
          intro u w9 X hE hX hd K hK
          have d3 : u 43 = .pointer (some ⟨g, t, none⟩) := hd 3 (by kernel_rfl)
          clear hd
          simp only [overlay, List.setIfInBounds_toArray, List.set, d3] at hK ⊢
          have e9 : Ext wr w9 := (Ext.refl wr).drew.trans hE
          have a9 := e9.cell CX.out
          go_wp2_with fail
          exact hK _ _ X (Ext.refl _) kept_m hX rfl
        · refine ⟨_, 45, rfl, by kernel_rfl, ?_⟩
          intro u w9 X hE hX hd K hK
          clear hd
          simp only [overlay, List.setIfInBounds_toArray, List.set] at hK ⊢
          go_wp2_with fail
          exact hK _ _ X (Ext.refl _) kept_m hX rfl
        · refine ⟨_, 46, rfl, by kernel_rfl, ?_⟩
          intro u w9 X hE hX hd K hK
          clear hd
          simp only [overlay, List.setIfInBounds_toArray, List.set] at hK ⊢
          go_wp2_with fail
          exact hK _ _ X (Ext.refl _) kept_m hX rfl
        · refine ⟨_, 47, rfl, by kernel_rfl, ?_⟩
          intro u w9 X hE hX hd K hK
          have d5 : u 45 = .slice (some ⟨g, 0, none⟩) n c := hd 5 (by kernel_rfl)
          have d6 : u 46 = .int .i64 (a : Int) := hd 6 (by kernel_rfl)
          clear hd
          simp only [overlay, List.setIfInBounds_toArray, List.set, d5, d6] at hK ⊢
          go_wp2_with fail
          exact hK _ _ X (Ext.refl _) kept_m hX rfl
        · refine ⟨_, 48, rfl, by kernel_rfl, ?_⟩
          intro u w9 X hE hX hd K hK
          have d7 : u 47 = .pointer (some ⟨g, a, none⟩) := hd 7 (by kernel_rfl)
          clear hd
          simp only [overlay, List.setIfInBounds_toArray, List.set, d7] at hK ⊢
          have e9 : Ext wr w9 := (Ext.refl wr).drew.trans hE
          have a9 := e9.cell CY.out
          go_wp2_with fail
          exact hK _ _ X (Ext.refl _) kept_m hX rfl
        · refine ⟨_, 49, rfl, by kernel_rfl, ?_⟩
          intro u w9 X hE hX hd K hK
          have d0 : u 40 = .func (.func 102) #[lv] #[] := hd 0 (by kernel_rfl)
          have d4 : u 44 = .int .i64 x := hd 4 (by kernel_rfl)
          have d8 : u 48 = .int .i64 y := hd 8 (by kernel_rfl)
          clear hd
          simp only [overlay, List.setIfInBounds_toArray, List.set, d0, d4, d8] at hK ⊢
          have e9 : Ext wr w9 := (Ext.refl wr).drew.trans hE
          go_wp2_with fail
          refine (HCXY.out w9 (HE.out.trans e9)).mono ?_
          rintro e w8 ⟨rfl, hE8⟩
          go_wp2_with fail
          exact hK _ _ X hE8 kept_m (hX.ext hE8) rfl
        · refine ⟨_, 50, rfl, by kernel_rfl, ?_⟩
          intro u w9 X hE hX hd K hK
          have d9 : u 49 = .int .i64 z := hd 9 (by kernel_rfl)
          clear hd
          simp only [overlay, List.setIfInBounds_toArray, List.set, d9] at hK ⊢
          go_wp2_with fail
          exact hK _ _ X (Ext.refl _) kept_m hX rfl
      · exact mem_nil_m
      intro u w9 X hE hX hd
      have d0 : u 40 = .func (.func 102) #[lv] #[] := hd 0 (by decide)
      have d1 : u 41 = .slice (some ⟨g, 0, none⟩) n c := hd 1 (by decide)
      have d2 : u 42 = .int .i64 (t : Int) := hd 2 (by decide)
      have d3 : u 43 = .pointer (some ⟨g, t, none⟩) := hd 3 (by decide)
      have d4 : u 44 = .int .i64 x := hd 4 (by decide)
      have d5 : u 45 = .slice (some ⟨g, 0, none⟩) n c := hd 5 (by decide)
      have d6 : u 46 = .int .i64 (a : Int) := hd 6 (by decide)
      have d7 : u 47 = .pointer (some ⟨g, a, none⟩) := hd 7 (by decide)
      have d8 : u 48 = .int .i64 y := hd 8 (by decide)
      have d9 : u 49 = .int .i64 z := hd 9 (by decide)
      have d10 : u 50 = .bool false := hd 10 (by decide)
      clear hd
      simp only [overlay, List.setIfInBounds_toArray, List.set, d0, d1, d2, d3, d4, d5, d6, d7, d8, d9, d10]
      have e9 : Ext wr w9 := (Ext.refl wr).drew.trans hE
      clear d0 d1 d2 d3 d4 d5 d6 d7 d8 d9 d10
      clear hX hE
      generalize u 44 = t44z1
      generalize u 48 = t48z1
      clear u
      obtain ⟨wk2, rfl⟩ : ∃ wx : World, wx = w9 := ⟨_, rfl⟩
      replace HO := Lib.hid (HO.out.ext e9)
      replace HER := Lib.hid (HER.out.trans (e9))
      replace HE := Lib.hid (HE.out.trans (e9))
      clear e9
      clear CX CY hzd HER HCXY
      go_wp2_with fail
      go_roundw
      case rel => exact ⟨i, t, rfl, rfl, him, hit, by omega, HI, Lib.hid (.inr (by rw [HGX.out, HGY.out, HGZ.out]; omega)), HO.out, HE.out⟩
      case measure => simp [intOf]; omega
  have hji : j = i := by omega
  subst hji
  have hfin := HLAW.out j him hjb HI.out HJ.out
  obtain ⟨ha, hm, hb⟩ := HP.out
  have hYl : (Y.take (j - (a + 1))).length = j - m := by rw [List.length_take]; omega
  have hLL : L = P ++ (x0 :: (Y.take (j - (a + 1)) ++ (Y.drop (j - (a + 1)) ++ S))) := by rw [← List.append_assoc, List.take_append_drop, HL.out]
  have hRR : P ++ (Y.take (j - (a + 1)) ++ (x0 :: (Y.drop (j - (a + 1)) ++ S))) = R := by rw [← HR.out, ← hfin]; simp
  generalize Y.take (j - (a + 1)) = Y1 at *
  generalize Y.drop (j - (a + 1)) ++ S = S2 at *
  have HYL := Lib.hid (show a + Y1.length = j - 1 by omega)
  have HLL := Lib.hid hLL
  have HPA := Lib.hid ha
  have HRR := Lib.hid hRR
  clear hfin HLAW hRR hYl hLL ha hb HI HJ HX0 HL HP hij hlt
  clear hm
  obtain ⟨wo, rfl⟩ : ∃ wx : World, wx = wr := ⟨_, rfl⟩
  have hj1 : IntKind.i64.wrap ((j : Int) - 1) = (j : Int) - 1 := IntWalk.i64_in _ (by omega)
  go_wp2_with fail
  go_loopw [13] (fun kv wr => ∃ (k : Nat) (A B : List Int), kv = .int .i64 (k : Int) ∧ Hid (A ++ B = Y1 ∧ a + A.length = k) ∧ k + 1 ≤ j ∧ OwnI wB.heap.size (fun _ => False) wr (.slice (some ⟨g, 0, none⟩) n c) n (P ++ (A ++ (x0 :: (B ++ S2)))) ∧ Ext wB wr) (fun kv _ => j - (intOf kv).toNat)
  case atStart => exact ⟨a, [], Y1, rfl, Lib.hid ⟨rfl, rfl⟩, by omega, by rw [List.nil_append, ← HLL.out]; exact HO.out, HE.out⟩
  case round =>
  clear HO HE HLL HOK
  obtain ⟨k, A, B, rfl, HAB, hkj, hO, hE⟩ := hrel
  have hAB := HAB.out
  have hABl : A.length + B.length = Y1.length := by rw [← hAB.1]; simp
  have HYL2 := HYL.out
  have HO := Lib.hid hO
  have HE := Lib.hid hE
  clear hO hE
  by_cases hk : k + 1 < j
  rotate_left
  · have hB : B = [] := List.length_eq_zero_iff.1 (by omega)
    have hA : A = Y1 := by have := hAB.1; rw [hB, List.append_nil] at this; exact this
    have HO2 := HO.out
    rw [hA, hB, List.nil_append] at HO2
    have HO := Lib.hid HO2
    have hkI : ¬ (k : Int) < (j : Int) - 1 := by omega
    clear hAB hABl HYL2 HO2 hB hA HAB HYL
    go_wp2_with fail
    refine bodyPost_ret (results_none rfl _ _ _) rfl ?_
    exact ⟨rfl, by rw [← HRR.out]; exact HO.out, HE.out⟩
  cases B with
  | nil => exact absurd hABl (by simp; omega)
  | cons y B =>
  have hkI : (k : Int) < (j : Int) - 1 := by omega
  obtain ⟨q, hq⟩ : ∃ q, q = k + 1 := ⟨_, rfl⟩
  have HSW := Lib.hid (show P ++ ((A ++ [y]) ++ (x0 :: (B ++ S2))) = swp (P ++ (A ++ (x0 :: (y :: B ++ S2)))) k q by
    have h1 := swp_mid (P ++ A) [] (B ++ S2) x0 y (p := k) (q := q) (by simp; have := HPA.out; omega) (by simp; have := HPA.out; omega)
    have e : P ++ (A ++ (x0 :: (y :: B ++ S2))) = (P ++ A) ++ x0 :: ([] ++ y :: (B ++ S2)) := by simp
    rw [e, h1]; simp)
  have HAB2 : Hid ((A ++ [y]) ++ B = Y1 ∧ a + (A ++ [y]).length = q) := Lib.hid ⟨by rw [← hAB.1]; simp, by simp; omega⟩
  have hqI : (k : Int) + 1 = (q : Int) := by omega
  have hwq : IntKind.i64.wrap ((k : Int) + 1) = (q : Int) := by rw [hqI]; exact IntWalk.i64_in _ (by omega)
  have hkn : k < n := by omega
  have hqn : q < n := by omega
  have hqj : q + 1 ≤ j := by omega
  have hpq : k ≠ q := by omega
  have hkq : k < q := by omega
  clear hq hAB hABl HYL2 HAB
  generalize A ++ [y] = A2 at *
  generalize hxs3 : P ++ (A ++ (x0 :: (y :: B ++ S2))) = xs3 at *
  generalize hxs4 : P ++ (A2 ++ (x0 :: (B ++ S2))) = xs4 at *
  have HX4 := Lib.hid hxs4
  clear hxs3 hxs4
  have hxl := HO.out.1
  obtain ⟨g1, eg1, hBg, hgl, cx, fx, sx⟩ := HO.out.at' (j := k) (by omega)
  cases eg1
  obtain ⟨g2, eg2, _, _, cy, fy0, _⟩ := HO.out.at' (j := q) (by omega)
  cases eg2
  have hxb := HO.out.2.2.2.2 (xs3.getD k 0) (by simp [List.getD, show k < xs3.length by omega])
  have hyb := HO.out.2.2.2.2 (xs3.getD q 0) (by simp [List.getD, show q < xs3.length by omega])
  have hO1 := sx (xs3.getD q 0) hyb
  obtain ⟨g3, eg3, _, _, cy2, fy, sy⟩ := hO1.at' (j := q) (by omega)
  cases eg3
  have hO2 := (sy (xs3.getD k 0) hxb).ext (Ext.refl _).drew
  have hsw : swp xs3 k q = (xs3.set k (xs3.getD q 0)).set q (xs3.getD k 0) := rfl
  rw [← hsw, ← HSW.out] at hO2
  have hcy : (xs3.set k (xs3.getD q 0)).getD q 0 = xs3.getD q 0 := by simp [List.getD, hpq]
  rw [hcy] at cy2
  generalize xs3.getD k 0 = x1 at *
  generalize xs3.getD q 0 = y1 at *
  have hE2 : Ext wB (((wr.setCell ⟨g, k, none⟩ (.int .i64 y1)).setCell ⟨g, q, none⟩ (.int .i64 x1)).drew) := (((HE.out.setCell (p := ⟨g, k, none⟩) hBg _).setCell (p := ⟨g, q, none⟩) hBg _)).drew
  have HO2 := Lib.hid hO2
  have HE2 := Lib.hid hE2
  clear hO1 sx sy hO2 hE2 HO HE hcy hsw HSW hxl
  go_wp2_with fail
  go_big_region
  generalize ((wr.setCell ⟨g, k, none⟩ (.int .i64 y1)).setCell ⟨g, q, none⟩ (.int .i64 x1)).drew = w7 at HO2 HE2 ⊢
  clear cx cy cy2 fx fy fy0
  (try simp only [Exit.inBlock, Exit.then])
  go_wp2_with fail
  go_roundw
  case rel => exact ⟨q, A2, B, rfl, HAB2, hqj, by rw [HX4.out]; exact HO2.out, HE2.out⟩
  case measure => simp [intOf]; omega
end Go.Proofs.Ytgkemmdghmklfaa
