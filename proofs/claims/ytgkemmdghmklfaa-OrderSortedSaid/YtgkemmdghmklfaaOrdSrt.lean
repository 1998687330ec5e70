/-
  THE WALK of law06.OrderSorted: it returns true, and turns nothing that was there.
-/
import Derived.Test.YtgkemmdghmklfaaRSortN
import Derived.Test.YtgkemmdghmklfaaOrdLives
namespace Go.Proofs.Ytgkemmdghmklfaa
set_option linter.unusedSimpArgs false
set_option linter.unusedVariables false
open Go.RowKit

set_option maxRecDepth 100000 in
set_option maxHeartbeats 8000000 in
theorem ordsrt_any (F : Nat → Prop) (L : List Arr) (p : Option Addr) (c : Nat) (w : World) (h : ItemsAt F w p 0 L) (hk : ItOk L.length c) :
    Calls Try.prog 12 #[.slice p L.length c] w fun e w' => e = .returned (.bool true) ∧ Ext w w' := by
  have H := Lib.hid h
  obtain ⟨n, hn⟩ : ∃ n, n = L.length := ⟨_, rfl⟩
  have HN := Lib.hid hn
  obtain ⟨o1, o2, o3⟩ := hk
  have HSM := Lib.hid (fun (w' : World) (e : Ext w w') (h1 : L.length ≤ 65536) => sortedN_any (szL L) F p c L w' (h.ext e) (fun t ht => szL_mem ht) h1)
  have HRM := Lib.hid (fun (w' : World) (e : Ext w w') (h1 : L.length ≤ 65536) => rsortN_any (szL L) F p c L w' (h.ext e) (fun t ht => szL_mem ht) h1)
  generalize sortL (szL L) L = sv at *
  rw [← hn] at o1 o3 HSM HRM ⊢
  clear h hn
  go_enter Try.func12, Try.ntmps12
  by_cases h100 : 100 < n
  · go_wp2_with fail
    refine (ordlives_any _).mono ?_
    rintro e wl ⟨rfl, hEl⟩
    go_wp2_with fail
    go_ret
    exact ⟨rfl, hEl⟩
  go_wp2_with fail
  go_loopw [3] (fun iv wr => ∃ (i : Nat), iv = .int .i64 (i : Int) ∧ i ≤ n ∧ Ext w wr) (fun iv _ => n - (intOf iv).toNat)
  case atStart => exact ⟨0, rfl, Nat.zero_le _, Ext.refl _⟩
  case round =>
  obtain ⟨i, rfl, hin, hE⟩ := hrel
  by_cases hlt : i < n
  · have hkL : i < L.length := by rw [← HN.out]; exact hlt
    obtain ⟨ba, oa, x0, x1, x2, x3, rfl, k0, k1, k2, k3, hA⟩ := (H.out.ext hE).getD hkL
    obtain ⟨ka, ua, va, za, ub, vb, zb, uc, vc, zc, rfl, rfl, rfl, rfl⟩ := hA.form
    have HW := Lib.hid (weigh_any F _ _ _ _ _ _ 300 wr (Nat.lt_succ_self _) hA (by omega) (by omega))
    have HE := Lib.hid hE
    clear hA hE hkL HSM HRM
    go_wp2_with fail
    refine HW.out.mono ?_
    rintro e w2 ⟨v, hv0, hv1, rfl, hE2⟩
    have HE2 := Lib.hid (HE.out.trans hE2)
    clear hE2 HE HW k0 k1 k2 k3
    by_cases hv : 300 ≤ v
    · go_wp2_with fail
      refine (ordlives_any _).mono ?_
      rintro e wl ⟨rfl, hEl⟩
      have hE3 := HE2.out.trans hEl
      go_wp2_with fail
      go_ret
      exact ⟨rfl, hE3⟩
    · go_wp2_with fail
      go_roundw
      case rel => exact ⟨i + 1, by go_num, by omega, HE2.out⟩
      case measure => simp [intOf]; omega
  have hin2 : i = n := by omega
  subst hin2
  have HE := Lib.hid hE
  clear hE hlt
  have HSM2 := Lib.hid (HSM.out wr HE.out (by omega))
  clear HSM
  go_wp2_with fail
  refine HSM2.out.mono ?_
  rintro e w2 ⟨v, rfl, hO, hE2⟩
  obtain ⟨p1, c1, rfl, hk1, hi1⟩ := hO.ints
  have HI1 := Lib.hid hi1
  replace HE := Lib.hid (HE.out.trans hE2)
  have HRM2 := Lib.hid (HRM.out w2 HE.out (by omega))
  clear hO hE2 hi1 HSM2 HRM
  go_wp2_with fail
  refine HRM2.out.mono ?_
  rintro e w3 ⟨v, rfl, hO, hE2⟩
  obtain ⟨p2, c2, rfl, hk2, hi2⟩ := hO.ints
  have HI2 := Lib.hid hi2
  replace HI1 := Lib.hid (HI1.out.ext hE2)
  replace HE := Lib.hid (HE.out.trans hE2)
  clear hO hE2 hi2 HRM2
  obtain ⟨s, hs⟩ : ∃ s, sv.length = s := ⟨_, rfl⟩
  have HS := Lib.hid hs
  rw [hs] at hk1 hk2 ⊢
  obtain ⟨q1, q2, q3⟩ := hk1
  obtain ⟨r1, r2, r3⟩ := hk2
  clear hs
  obtain ⟨wo, rfl⟩ : ∃ wx : World, wx = w3 := ⟨_, rfl⟩
  go_wp2_with fail
  go_loopw [6] (fun iv wq => ∃ (i : Nat), iv = .int .i64 (i : Int) ∧ i ≤ s ∧ Ext wo wq) (fun iv _ => s - (intOf iv).toNat)
  case atStart => exact ⟨0, rfl, Nat.zero_le _, Ext.refl _⟩
  case round =>
  obtain ⟨j, rfl, hjs, hE⟩ := hrel
  by_cases hlt : j < s
  · have hjL : j < sv.length := by rw [HS.out]; exact hlt
    obtain ⟨b1, f1, rfl, g1, _, _⟩ := (HI1.out.ext hE).get hjL
    obtain ⟨b2, f2, rfl, g2, _, _⟩ := (HI2.out.ext hE).get hjL
    have HEq := Lib.hid hE
    clear hE hjL
    go_wp2_with fail
    have hS0 : wr.drew.cell? ⟨b1, f1 + j, none⟩ = some (.int .i64 (sv.getD j 0)) ∧ wr.drew.cell? ⟨b2, f2 + j, none⟩ = some (.int .i64 (sv.getD j 0)) := ⟨g1, g2⟩
    refine wp_region_g [0, 1, 2, 3, 4, 5, 6, 7] [8] (fun w' => w'.cell? ⟨b1, f1 + j, none⟩ = some (.int .i64 (sv.getD j 0)) ∧ w'.cell? ⟨b2, f2 + j, none⟩ = some (.int .i64 (sv.getD j 0))) (by kernel_rfl) (by kernel_rfl) hS0 ?_
    clear g1 g2
    iterate 8
      refine wpHead_cons (v := ?_) rfl (by rfl) (fun w' hS => ?_) ?_
      rotate_left
      · obtain ⟨g1, g2⟩ := hS
        go_simp
        try with_reducible rfl
      try simp only [Act.put, List.setIfInBounds_toArray, List.set]
    unfold wpHead
    refine wpTail_cons rfl (fun K hK => ?_)
    go_wp2_with fail
    refine hK _ _ hS0 ?_
    clear hK hS0
    try simp only [Act.put, List.setIfInBounds_toArray, List.set]
    unfold wpTail
    refine OnlyN.mk ?_
    have HEn := Lib.hid (HEq.out.trans (Ext.refl wr).drew)
    clear HEq
    (try simp only [Exit.inBlock, Exit.then])
    go_wp2_with fail
    go_roundw
    case rel => exact ⟨j + 1, by go_num, by omega, HEn.out⟩
    case measure => simp [intOf]; omega
  have hjs2 : j = s := by omega
  subst hjs2
  have HEq := Lib.hid (HE.out.trans hE)
  clear hE HE
  go_wp2_with fail
  refine (ordlives_any _).mono ?_
  rintro e wl ⟨rfl, hEl⟩
  have hE3 := HEq.out.trans hEl
  go_wp2_with fail
  go_ret
  exact ⟨rfl, hE3⟩
end Go.Proofs.Ytgkemmdghmklfaa
