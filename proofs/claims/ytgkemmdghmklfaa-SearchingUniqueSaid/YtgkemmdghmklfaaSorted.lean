/-
  THE WALKS of order.list.compare, slices.stableCmpFunc and SortStableFunc below 20 elements, order.Sorted below 20 arrays that are right.
-/
import Derived.Test.YtgkemmdghmklfaaSort
namespace Go.Proofs.Ytgkemmdghmklfaa
set_option linter.unusedSimpArgs false
set_option linter.unusedVariables false
open Go.RowKit

def cmpAt (L : List Arr) (x y : Int) : Int := cmpF (szA (L.getD x.toNat default) + 1) (L.getD x.toNat default) (L.getD y.toNat default)

set_option maxRecDepth 1000000 in
set_option maxHeartbeats 8000000 in
theorem lcompare_any (F : Nat → Prop) (p : Option Addr) (c : Nat) (L : List Arr) (w : World) (h : ItemsAt F w p 0 L) (hr : ∀ t ∈ L, rightV t = 0) (hl : L.length ≤ 1759218604391) (x y : Int) (hx0 : 0 ≤ x) (hx1 : x < L.length) (hy0 : 0 ≤ y) (hy1 : y < L.length) :
    Calls Try.prog 102 #[.slice p L.length c, .int .i64 x, .int .i64 y] w fun e w' => e = .returned (.int .i64 (cmpAt L x y)) ∧ Ext w w' := by
  obtain ⟨i, rfl⟩ : ∃ i : Nat, x = i := ⟨x.toNat, by omega⟩
  obtain ⟨j, rfl⟩ : ∃ j : Nat, y = j := ⟨y.toNat, by omega⟩
  have hi : i < L.length := by omega
  have hj : j < L.length := by omega
  obtain ⟨ba, oa, c0, c1, c2, c3, rfl, k0, k1, k2, k3, hA⟩ := h.getD hi
  obtain ⟨bb, ob, d0, d1, d2, d3, e5, l0, l1, l2, l3, hB⟩ := h.getD hj
  cases e5
  have m1 : L.getD i default ∈ L := by simp [List.getD, hi]
  have m2 : L.getD j default ∈ L := by simp [List.getD, hj]
  have HC := Lib.hid (fun (w' : World) (e : Ext w w') => compare_any F F (szA (L.getD i default) + 1) (L.getD i default) (L.getD j default) _ _ _ _ _ _ _ _ w' (Nat.lt_succ_self _) (hA.ext e) (hB.ext e) (hr _ m1) (hr _ m2))
  have HV : Hid (cmpAt L (i : Int) (j : Int) = cmpF (szA (L.getD i default) + 1) (L.getD i default) (L.getD j default)) := by
    show _ = _
    unfold cmpAt; simp
  generalize cmpF (szA (L.getD i default) + 1) (L.getD i default) (L.getD j default) = v at *
  generalize cmpAt L (i : Int) (j : Int) = v2 at *
  clear h hr hA hB m1 m2 hx0 hy0
  go_enter Try.func102, Try.ntmps102
  go_wp2_with fail
  have hS0 : (w.drew.cell? ⟨ba, oa + i * 4, none⟩ = some c0 ∧ w.drew.cell? ⟨ba, oa + i * 4 + 1, none⟩ = some c1 ∧ w.drew.cell? ⟨ba, oa + i * 4 + 2, none⟩ = some c2 ∧ w.drew.cell? ⟨ba, oa + i * 4 + 3, none⟩ = some c3) ∧
      (w.drew.cell? ⟨ba, oa + j * 4, none⟩ = some d0 ∧ w.drew.cell? ⟨ba, oa + j * 4 + 1, none⟩ = some d1 ∧ w.drew.cell? ⟨ba, oa + j * 4 + 2, none⟩ = some d2 ∧ w.drew.cell? ⟨ba, oa + j * 4 + 3, none⟩ = some d3) := ⟨⟨k0, k1, k2, k3⟩, ⟨l0, l1, l2, l3⟩⟩
  refine wp_region_g [0, 1, 2, 3, 4, 5, 6, 7] [8, 9] (fun w' => (w'.cell? ⟨ba, oa + i * 4, none⟩ = some c0 ∧ w'.cell? ⟨ba, oa + i * 4 + 1, none⟩ = some c1 ∧ w'.cell? ⟨ba, oa + i * 4 + 2, none⟩ = some c2 ∧ w'.cell? ⟨ba, oa + i * 4 + 3, none⟩ = some c3) ∧
      (w'.cell? ⟨ba, oa + j * 4, none⟩ = some d0 ∧ w'.cell? ⟨ba, oa + j * 4 + 1, none⟩ = some d1 ∧ w'.cell? ⟨ba, oa + j * 4 + 2, none⟩ = some d2 ∧ w'.cell? ⟨ba, oa + j * 4 + 3, none⟩ = some d3)) (by kernel_rfl) (by kernel_rfl) hS0 ?_
  clear k0 k1 k2 k3 l0 l1 l2 l3
  iterate 8
    refine wpHead_cons (v := ?_) rfl (by rfl) (fun w' hS => ?_) ?_
    rotate_left
    · obtain ⟨⟨k0, k1, k2, k3⟩, ⟨l0, l1, l2, l3⟩⟩ := hS
      go_simp
      try with_reducible rfl
    try simp only [Act.put, List.setIfInBounds_toArray, List.set]
  unfold wpHead
  refine wpTail_cons rfl (fun K hK => ?_)
  go_wp2_with fail
  refine (HC.out w.drew (Ext.refl _).drew).mono ?_
  rintro e w2 ⟨rfl, hE⟩
  have hE2 : Ext w w2 := (Ext.refl w).drew.trans hE
  go_wp2_with fail
  refine hK _ _ ⟨⟨hE.cell hS0.1.1, hE.cell hS0.1.2.1, hE.cell hS0.1.2.2.1, hE.cell hS0.1.2.2.2⟩, ⟨hE.cell hS0.2.1, hE.cell hS0.2.2.1, hE.cell hS0.2.2.2.1, hE.cell hS0.2.2.2.2⟩⟩ ?_
  try simp only [Act.put, List.setIfInBounds_toArray, List.set]
  refine wpTail_free1 rfl (by kernel_rfl) ?_
  clear hS0 hE HC
  go_wp2_with fail
  refine OnlyN.mk ?_
  (try simp only [Exit.inBlock, Exit.then])
  go_wp2_with fail
  go_ret
  exact ⟨ret_int HV.out.symm, hE2⟩

set_option maxRecDepth 1000000 in
set_option maxHeartbeats 8000000 in
theorem stable_any (cf : Int → Int → Int) (wB : World) (lv : Value) (N : Int)
    (hcmp : ∀ (w' : World) (x y : Int), Ext wB w' → 0 ≤ x → x < N → 0 ≤ y → y < N → Calls Try.prog 102 #[lv, .int .i64 x, .int .i64 y] w' fun e w'' => e = .returned (.int .i64 (cf x y)) ∧ Ext w' w'')
    (xs : List Int) (g n c : Nat) (w : World) (hO : OwnI wB.heap.size (fun _ => False) w (.slice (some ⟨g, 0, none⟩) n c) n xs) (hE : Ext wB w) (hok : ∀ x ∈ xs, 0 ≤ x ∧ x < N) (hn : n < 20) :
    Calls Try.prog 146 #[.slice (some ⟨g, 0, none⟩) n c, .int .i64 (n : Int), .func (.func 102) #[lv] #[]] w fun e w' => e = .returned (.tuple #[]) ∧ OwnI wB.heap.size (fun _ => False) w' (.slice (some ⟨g, 0, none⟩) n c) n (insOut cf 0 (n - 1) 1 xs) ∧ Ext wB w' := by
  have HI := Lib.hid (inssort_any cf wB lv N hcmp xs g n c 0 n w hO hE hok (Nat.zero_le _) (Nat.le_refl _) (by omega))
  clear hcmp hO hE hok
  go_enter Try.func146, Try.ntmps146
  go_wp2_with fail
  go_loop [7, 8] (fun av bv => av = .int .i64 0 ∧ bv = .int .i64 20) (fun _ _ => 0)
  case atStart => exact ⟨rfl, rfl⟩
  case round =>
  obtain ⟨rfl, rfl⟩ := hrel
  have hn2 : ¬ (20 : Int) ≤ (n : Int) := by omega
  go_wp2_with fail
  refine HI.out.mono ?_
  rintro e w2 ⟨rfl, hO, hE⟩
  have HO := Lib.hid hO
  have HE := Lib.hid hE
  clear hO hE HI
  go_wp2_with fail
  go_loop [6] (fun bv => bv = .int .i64 20) (fun _ => 0)
  case atStart => exact rfl
  case round =>
  have hr := hrel
  subst hr
  have hn3 : ¬ (20 : Int) < (n : Int) := by omega
  go_wp2_with fail
  go_end0
  exact ⟨rfl, HO.out, HE.out⟩

set_option maxRecDepth 1000000 in
set_option maxHeartbeats 8000000 in
theorem sortstable_any (cf : Int → Int → Int) (wB : World) (lv : Value) (N : Int)
    (hcmp : ∀ (w' : World) (x y : Int), Ext wB w' → 0 ≤ x → x < N → 0 ≤ y → y < N → Calls Try.prog 102 #[lv, .int .i64 x, .int .i64 y] w' fun e w'' => e = .returned (.int .i64 (cf x y)) ∧ Ext w' w'')
    (xs : List Int) (g n c : Nat) (w : World) (hO : OwnI wB.heap.size (fun _ => False) w (.slice (some ⟨g, 0, none⟩) n c) n xs) (hE : Ext wB w) (hok : ∀ x ∈ xs, 0 ≤ x ∧ x < N) (hn : n < 20) :
    Calls Try.prog 101 #[.slice (some ⟨g, 0, none⟩) n c, .func (.func 102) #[lv] #[]] w fun e w' => e = .returned (.tuple #[]) ∧ OwnI wB.heap.size (fun _ => False) w' (.slice (some ⟨g, 0, none⟩) n c) n (insOut cf 0 (n - 1) 1 xs) ∧ Ext wB w' := by
  have HI := Lib.hid (stable_any cf wB lv N hcmp xs g n c w hO hE hok hn)
  clear hcmp hO hE hok
  go_enter Try.func101, Try.ntmps101
  go_wp2_with fail
  refine HI.out.mono ?_
  rintro e w2 ⟨rfl, hO, hE⟩
  have HO := Lib.hid hO
  have HE := Lib.hid hE
  clear hO hE HI
  go_wp2_with fail
  go_end0
  exact ⟨rfl, HO.out, HE.out⟩

def idxN (k : Nat) : List Int := (List.range k).map (fun i : Nat => (i : Int))
theorem idxN_succ (k : Nat) : idxN (k + 1) = idxN k ++ [(k : Int)] := by simp [idxN, List.range_succ]
theorem idxN_len (k : Nat) : (idxN k).length = k := by simp [idxN]
def sortedV (L : List Arr) : List Int := insOut (cmpAt L) 0 (L.length - 1) 1 (idxN L.length)

set_option maxRecDepth 1000000 in
set_option maxHeartbeats 8000000 in
theorem sorted_any (F : Nat → Prop) (p : Option Addr) (c : Nat) (L : List Arr) (w : World) (h : ItemsAt F w p 0 L) (hr : ∀ t ∈ L, rightV t = 0) (h0 : 0 < L.length) (hl : L.length < 20) :
    Calls Try.prog 56 #[.slice p L.length c] w fun e w' => ∃ v, e = .returned v ∧ OwnI w.heap.size (fun _ => False) w' v L.length (sortedV L) ∧ Ext w w' := by
  have H := Lib.hid h
  have HR := Lib.hid hr
  have HCMP := Lib.hid (fun (w' : World) (x y : Int) (e : Ext w w') h1 h2 h3 h4 => lcompare_any F p c L w' (h.ext e) hr (by omega) x y h1 h2 h3 h4)
  obtain ⟨n, hn⟩ : ∃ n, n = L.length := ⟨_, rfl⟩
  have HSV : Hid (sortedV L = insOut (cmpAt L) 0 (n - 1) 1 (idxN n)) := by rw [hn]; rfl
  generalize sortedV L = sv at *
  rw [← hn] at h0 hl ⊢
  have HN := Lib.hid hn
  clear h hr hn
  go_enter Try.func56, Try.ntmps56
  go_wp2_with fail
  go_loopw [3, 8] (fun ov iv wr => ∃ (k : Nat) (v : Value), k ≤ n ∧ v = ov ∧ iv = .int .i64 (k : Int) ∧ OwnI w.heap.size (fun _ => False) wr v k (idxN k) ∧ Ext w wr) (fun _ iv _ => n - (intOf iv).toNat)
  case atStart => exact ⟨0, _, Nat.zero_le _, rfl, rfl, OwnI.nil _ _ _, Ext.refl _⟩
  case round =>
  obtain ⟨k, v, hk, rfl, rfl, hO, hE⟩ := hrel
  obtain ⟨pv, cv, rfl, hcv⟩ := hO.form
  by_cases hlt : k < n
  · have hkL : k < L.length := by rw [← HN.out]; exact hlt
    obtain ⟨ba, oa, c0, c1, c2, c3, rfl, k0, k1, k2, k3, hA⟩ := (H.out.ext hE).getD hkL
    have hrk := HR.out (L.getD k default) (by simp [List.getD, hkL])
    obtain ⟨ka, ua, va, za, ub, vb, zb, uc, vc, zc, rfl, rfl, rfl, rfl⟩ := hA.form
    have hEb : Ext wr (wr.alloc (.cells #[.int .i64 ka, .slice ua va za, .slice ub vb zb, .slice uc vc zc] 26)) := (Ext.refl _).alloc _
    have HRG := Lib.hid (right_any F (L.getD k default) _ _ _ _ _ (hA.ext hEb))
    rw [hrk] at HRG
    have HO := Lib.hid hO
    have HE := Lib.hid hE
    have HEB := Lib.hid hEb
    clear hA hrk hO hE hEb
    go_wp2_with fail
    refine HRG.out.mono ?_
    rintro e w2 ⟨rfl, hE2⟩
    have hE3 := HEB.out.trans hE2
    have hEn : Ext w2 (w2.alloc (.cells #[.int .i64 (k : Int)] 3)) := (Ext.refl _).alloc _
    have hnc : (w2.alloc (.cells #[.int .i64 (k : Int)] 3)).cell? ⟨w2.heap.size, 0, none⟩ = some (.int .i64 (k : Int)) := by simp
    have HON := Lib.hid ((HO.out.ext hE3).ext hEn)
    have HEN := Lib.hid ((HE.out.trans hE3).trans hEn)
    clear HO HE hE2 hE3 hEn HRG HEB k0 k1 k2 k3
    go_wp2_with (at_builtin; refine wpList_append_int rfl _ _ rfl w.heap.size (fun _ => False) (.slice pv k cv) k (idxN k) (k : Int) rfl HON.out ⟨w2.heap.size, 0, none⟩ 1 rfl hnc (fun _ h => h.elim) (by omega) (by omega) HEN.out.lt ?_)
    intro g cap w8 hon8 hgrow hat8 _ _
    rw [← idxN_succ] at hon8
    have hE8 := HEN.out.grown hgrow HEN.out.lt (fun q e => (HON.out.2.2.1.lt q e).1)
    clear HON HEN hgrow hat8 hnc
    go_wp2_with fail
    go_roundw
    case rel => exact ⟨k + 1, _, by omega, rfl, by go_num, hon8, hE8⟩
    case measure => simp [intOf]; omega
  · have hke : k = n := by omega
    subst hke
    have hg : ∃ g, pv = some ⟨g, 0, none⟩ := by
      rcases hO.2.2.1.2 with ⟨_, h1⟩ | ⟨g, cap, cur, he, _⟩
      · omega
      · cases he; exact ⟨g, rfl⟩
    obtain ⟨g, rfl⟩ := hg
    have HSS := Lib.hid (sortstable_any (cmpAt L) w (.slice p k c) (k : Int) (fun w' x y e h1 h2 h3 h4 => by
      have h := HCMP.out w' x y e h1 (by rw [← HN.out]; exact h2) h3 (by rw [← HN.out]; exact h4)
      rw [← HN.out] at h
      exact h) (idxN k) g k cv wr hO hE (fun x hx => by
      simp only [idxN, List.mem_map, List.mem_range] at hx
      obtain ⟨i, hi, rfl⟩ := hx
      omega) hl)
    clear hO hE hlt hcv
    go_wp2_with fail
    refine HSS.out.mono ?_
    rintro e w2 ⟨rfl, hO2, hE2⟩
    rw [← HSV.out] at hO2
    clear HSS
    go_wp2_with fail
    go_ret
    exact ⟨_, rfl, hO2, hE2⟩
end Go.Proofs.Ytgkemmdghmklfaa
