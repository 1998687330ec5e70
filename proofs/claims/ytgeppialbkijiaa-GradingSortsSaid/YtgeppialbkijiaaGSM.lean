/-
  THE WALK of law24.GradingSorts: it returns true, and turns nothing that was there. (Printed by gen_gradsorts.py.)
-/
import Derived.Test.YtgeppialbkijiaaGAwk
import Derived.Test.YtgeppialbkijiaaCE
import Derived.Test.YtgeppialbkijiaaL04
namespace Go.Proofs.Ytgeppialbkijiaa
set_option linter.unusedSimpArgs false
set_option linter.unusedVariables false
open Go.RowKit

theorem size_nil : shapeSize [] = 1 := by rfl
theorem vec_rowsC {l : List Int} (h : rightV (vecV l) = 0) : rowsE (vecV l) = 0 ∧ rowsC (vecV l) = l.map numV := by
  have he : rowsE (vecV l) = 0 := by unfold rowsE; rw [if_neg (by rw [h]; simp)]; rfl
  refine ⟨he, ?_⟩
  have hs : shapeSize [(l.length : Int)] = l.length := ((right_parts h).2.2.2.1 (by decide)).2.symm
  have h1 : rowsC (vecV l) = (List.range (shapeSize [(l.length : Int)]).toNat).map fun i => partV (vecV l) (i * 1) 1 [] := by
    unfold rowsC cellsV vecV
    simp only [Arr.sh]
    have h2 : rightV (.mk 1 [(l.length : Int)] l []) = 0 := h
    rw [if_neg (by rw [h2]; simp)]
    have h3 : (([(l.length : Int)] : List Int).length - (rankV ((([(l.length : Int)] : List Int).length : Int) - 1) (([(l.length : Int)] : List Int).length : Int)).toNat) = 1 := by
      simp [rankV]
    rw [h3]
    rfl
  rw [h1, hs, Int.toNat_natCast]
  apply List.ext_getElem
  · simp
  · intro i h2 h3
    have hi : i < l.length := by simpa using h2
    simp only [List.getElem_map, List.getElem_range]
    show Arr.mk 1 [] (if (1 : Int) = 3 then [] else (l.drop (i * 1)).take 1) (if (1 : Int) = 3 then (([] : List Arr).drop (i * 1)).take 1 else []) = numV l[i]
    rw [if_neg (by decide), if_neg (by decide), Nat.mul_one, List.drop_eq_getElem_cons hi]
    rfl
theorem cmp_num (m : Nat) (a b : Int) : cmpF (m + 1) (numV a) (numV b) = sgn a b := by
  have hA : contA (cmpF m) (.mk 1 [] [a] []) (.mk 1 [] [b] []) = sgn a b := by
    rw [contA, if_neg (by simp)]
    rfl
  have h : cmpF (m + 1) (numV a) (numV b) = if (1 : Int) ≠ 1 then sgn 1 1 else if (0 : Nat) ≠ 0 then sgn 0 0 else
      if contA (cmpF m) (.mk 1 [] [a] []) (.mk 1 [] [b] []) ≠ 0 then contA (cmpF m) (.mk 1 [] [a] []) (.mk 1 [] [b] []) else lexV [] [] := rfl
  rw [h, if_neg (by decide), if_neg (by decide), hA]
  split
  · rfl
  · rename_i h0
    rw [lexV]
    exact (Classical.byContradiction fun hc => h0 (fun e => hc e.symm))
theorem vec_rowsOk {l : List Int} (h : rightV (vecV l) = 0) : RowsOk 2 (vecV l) := fun h0 t ht => by
  refine ⟨?_, rows_right h0 t ht⟩
  rw [(vec_rowsC h).2] at ht
  obtain ⟨a, _, rfl⟩ := List.mem_map.1 ht
  unfold numV
  rw [szA, szL]
  decide
/-- The numbers in order. -/
def sortN (l : List Int) : List Int := (sorted (cmpF 2) (l.map numV)).flatMap Arr.n
theorem flat_num : ∀ (l : List Arr), (∀ t ∈ l, ∃ a, t = numV a) → (l.flatMap Arr.n).map numV = l ∧ l.flatMap Arr.it = []
  | [], _ => ⟨rfl, rfl⟩
  | t :: l, h => by
    obtain ⟨a, rfl⟩ := h t (by simp)
    obtain ⟨h1, h2⟩ := flat_num l fun x hx => h x (by simp [hx])
    constructor
    · show numV a :: (l.flatMap Arr.n).map numV = _
      rw [h1]
    · show ([] : List Arr) ++ l.flatMap Arr.it = []
      rw [h2]; rfl
theorem flat_map_num (l : List Int) : (l.map numV).flatMap Arr.n = l := by
  induction l with
  | nil => rfl
  | cons a r ih => show a :: (r.map numV).flatMap Arr.n = _; rw [ih]
theorem sortN_perm (l : List Int) : (sortN l).Perm l := by
  have h := (sorted_perm (cmpF 2) (l.map numV)).flatMap_right Arr.n
  rw [flat_map_num] at h
  exact h
theorem sorted_nums (l : List Int) : ∀ t ∈ sorted (cmpF 2) (l.map numV), ∃ a, t = numV a := by
  intro t ht
  have := (sorted_perm (cmpF 2) (l.map numV)).mem_iff.1 ht
  obtain ⟨a, _, rfl⟩ := List.mem_map.1 this
  exact ⟨a, rfl⟩
theorem sortN_pw (l : List Int) : (sortN l).Pairwise (fun a b => a ≤ b) := by
  have h := sorted_pw (cmpF_ord 2) (l.map numV)
  rw [← (flat_num _ (sorted_nums l)).1] at h
  refine (List.pairwise_map.1 h).imp fun {a b} hab => ?_
  rw [cmp_num] at hab
  unfold sgn at hab
  split at hab
  · omega
  · split at hab
    · omega
    · omega
theorem sortN_one {l t : List Int} (h : l.Perm t) : sortN l = sortN t := sorted_one (((sortN_perm l).trans h).trans (sortN_perm t).symm) (sortN_pw l) (sortN_pw t)
theorem sortN_self (l : List Int) : sortN (sortN l) = sortN l := sortN_one (sortN_perm l)
theorem sortN_length (l : List Int) : (sortN l).length = l.length := (sortN_perm l).length_eq
theorem sort_vec {l : List Int} (h : rightV (vecV l) = 0) : sortV (cmpF 2) (vecV l) = vecV (sortN l) := by
  obtain ⟨h0, h1⟩ := vec_rowsC h
  unfold sortV
  rw [if_neg (by rw [h0]; simp), h1, (flat_num _ (sorted_nums l)).2]
  show Arr.mk 1 [(l.length : Int)] (sortN l) [] = _
  unfold vecV
  rw [sortN_length]
/-- A vector of numbers in the language's range. -/
theorem vec_ok {l : List Int} (hl : l.length ≤ 65536) (h : ∀ x ∈ l, -4611686018427387903 ≤ x ∧ x ≤ 4611686018427387903) : rightV (vecV l) = 0 := vec_right2 hl h
end Go.Proofs.Ytgeppialbkijiaa

namespace Go.Proofs.Ytgeppialbkijiaa
set_option linter.unusedSimpArgs false
set_option linter.unusedVariables false
open Go.RowKit

/-- An array that reads, wherever its blocks lie. -/
def MProp.rdT (t : Arr) : MProp := ⟨fun X w v => ∃ c0 c1 c2 c3, v = .agg #[c0, c1, c2, c3] ∧ ArrAt (fun _ => True) w t c0 c1 c2 c3, fun X X' w w' v e hX h => by
  obtain ⟨c0, c1, c2, c3, h1, h2⟩ := h
  exact ⟨c0, c1, c2, c3, h1, h2.ext e⟩⟩
/-- An array in blocks of the region's own, and an error. -/
def MProp.tupIn (t : Arr) (n : Int) : MProp := ⟨fun X w v => ∃ c0 c1 c2 c3, v = .tuple #[.agg #[c0, c1, c2, c3], .int .i64 n] ∧ ArrAt X w t c0 c1 c2 c3, fun X X' w w' v e hX h => by
  obtain ⟨c0, c1, c2, c3, h1, h2⟩ := h
  exact ⟨c0, c1, c2, c3, h1, ArrAt.mono (fun b hb hlt => ⟨hX.1 b hb, e.block hlt⟩) _ _ _ _ _ h2⟩⟩
def MProp.rdIn (t : Arr) : MProp := ⟨fun X w v => ∃ c0 c1 c2 c3, v = .agg #[c0, c1, c2, c3] ∧ ArrAt X w t c0 c1 c2 c3, fun X X' w w' v e hX h => by
  obtain ⟨c0, c1, c2, c3, h1, h2⟩ := h
  exact ⟨c0, c1, c2, c3, h1, ArrAt.mono (fun b hb hlt => ⟨hX.1 b hb, e.block hlt⟩) _ _ _ _ _ h2⟩⟩

set_option maxRecDepth 100000 in
set_option maxHeartbeats 16000000 in
theorem gradsorts_any (F : Nat → Prop) (l : List Int) (p : Option Addr) (c n : Nat) (t : Int) (w : World) (hn : l.length = n) (hl : IntsAt F w p l) (hk : SlOk n c) (ht : 0 ≤ t ∧ t ≤ 255) :
    Calls Try.prog 9 #[.slice p n c, .int .u8 t] w fun e w' => e = .returned (.bool true) ∧ Ext w w' := by
  obtain ⟨o1, o1', o1''⟩ := hk
  have HL := Lib.hid hl
  have HN := Lib.hid hn
  clear hl hn
  go_enter Try.func9, Try.ntmps9
  by_cases h60 : 60 < n
  · go_wp2_with fail
    refine (gawake_any _).mono ?_
    rintro e wl ⟨rfl, hEl⟩
    go_wp2_with fail
    go_ret
    exact ⟨rfl, hEl⟩
  have h60' : n ≤ 60 := by omega
  go_wp2_with fail
  go_loopw [5] (fun iv wr => ∃ i : Nat, i ≤ n ∧ iv = .int .i64 (i : Int) ∧ Hid (∀ j, j < i → -4611686018427387903 ≤ l.getD j 0 ∧ l.getD j 0 ≤ 4611686018427387903) ∧ Hid (Ext w wr)) (fun iv _ => n - (intOf iv).toNat)
  case atStart => exact ⟨0, Nat.zero_le _, rfl, fun j hj => by omega, Ext.refl _⟩
  case round =>
    obtain ⟨i, hin, rfl, HB, HE⟩ := hrel
    by_cases hlt : i < n
    · have hlt2 : i < l.length := by rw [HN.out]; exact hlt
      obtain ⟨b, off, rfl, hc, _, _⟩ := (HL.out.ext HE.out).get hlt2
      have HBi : Hid (-4611686018427387903 ≤ l.getD i 0 ∧ l.getD i 0 ≤ 4611686018427387903 → ∀ j, j < i + 1 → -4611686018427387903 ≤ l.getD j 0 ∧ l.getD j 0 ≤ 4611686018427387903) := fun h j hj => by
        by_cases hji : j = i
        · rw [hji]; exact h
        · exact HB.out j (by omega)
      generalize l.getD i 0 = d at *
      clear HB hlt2
      by_cases h1 : d < -4611686018427387903
      · go_wp2_with fail
        refine (gawake_any _).mono ?_
        rintro e wl ⟨rfl, hEl⟩
        go_wp2_with fail
        go_ret
        exact ⟨rfl, HE.out.trans hEl⟩
      by_cases h2 : 4611686018427387903 < d
      · go_wp2_with fail
        refine (gawake_any _).mono ?_
        rintro e wl ⟨rfl, hEl⟩
        go_wp2_with fail
        go_ret
        exact ⟨rfl, HE.out.trans hEl⟩
      have HB2 := Lib.hid (HBi.out ⟨by omega, by omega⟩)
      clear HBi
      go_wp2_with fail
      go_roundw
      case rel => exact ⟨i + 1, by omega, by go_num, HB2, HE⟩
      case measure => simp [intOf]; omega
    have hin2 : i = n := by omega
    subst hin2
    have hb : ∀ x ∈ l, -4611686018427387903 ≤ x ∧ x ≤ 4611686018427387903 := fun x hx => by
      obtain ⟨j, hj, e⟩ := List.mem_iff_getElem.1 hx
      have := HB.out j (by rw [← HN.out]; exact hj)
      have e2 : l.getD j 0 = x := by rw [← e]; simp [List.getD, hj]
      rw [e2] at this
      exact this
    obtain ⟨k, hk⟩ : ∃ k : Nat, Int.tmod t ((i : Int) + 1) = (k : Int) := ⟨(Int.tmod t ((i : Int) + 1)).toNat, by
      have := Int.tmod_nonneg ((i : Int) + 1) ht.1
      omega⟩
    have hki : k ≤ i := by
      have := Int.tmod_lt_of_pos t (show 0 < (i : Int) + 1 by omega)
      omega
    have hwn : IntKind.i64.wrap ((i : Int) + 1) = (i : Int) + 1 := IntWalk.i64_in _ (by omega)
    have hwt : IntKind.i64.wrap t = t := IntWalk.i64_in _ (by omega)
    have hwk : IntKind.i64.wrap (k : Int) = (k : Int) := IntWalk.i64_in _ (by omega)
    have hnz : ((i : Int) + 1 == 0) = false := by simp; omega
    obtain ⟨n, hni⟩ : ∃ n, i = n := ⟨_, rfl⟩
    subst hni
    have hr1 := vec_ok (l := l) (by rw [HN.out]; omega) hb
    have HTK : Hid ((l.take k).length = k) := by unfold Hid; rw [List.length_take, HN.out]; omega
    have HDK : Hid ((l.drop k).length = i - k) := by unfold Hid; rw [List.length_drop, HN.out]
    have hp2 : (l.drop k ++ l.take k).Perm l := List.perm_append_comm.trans (by rw [List.take_append_drop])
    have hl2 : (l.drop k ++ l.take k).length = i := by rw [hp2.length_eq]; exact HN.out
    have hr2 := vec_ok (l := l.drop k ++ l.take k) (by rw [hl2]; omega) (fun x hx => hb x (hp2.mem_iff.1 hx))
    have hr3 := vec_ok (l := sortN l) (by rw [sortN_length, HN.out]; omega) (fun x hx => hb x ((sortN_perm l).mem_iff.1 hx))
    have H1 := Lib.hid (And.intro (vec_rowsC hr1).1 (And.intro (vec_rowsOk hr1) (sort_vec hr1)))
    have H2 := Lib.hid (And.intro (vec_rowsC hr2).1 (And.intro (vec_rowsOk hr2) (sort_vec hr2)))
    have H3 := Lib.hid (And.intro (vec_rowsC hr3).1 (And.intro (vec_rowsOk hr3) (sort_vec hr3)))
    rw [sortN_one hp2] at H2
    rw [sortN_self] at H3
    have HL2 := Lib.hid hl2
    have HSL : Hid ((sortN l).length = i) := by unfold Hid; rw [sortN_length]; exact HN.out
    have HLi := Lib.hid (HL.out.ext HE.out)
    clear hb hr1 hr2 hr3 hp2 hl2 HB HL
    generalize hsl : sortN l = sl at *
    clear hsl
    go_wp2_with fail
    rw [← HN.out]
    refine (vec_any F p c l wr HLi.out (by rw [HN.out]; exact ⟨by omega, by omega, by omega⟩)).mono ?_
    rintro e w1 ⟨v0, v1, v2, v3, rfl, hV, hE1⟩
    have HEv := Lib.hid (HE.out.trans hE1)
    have HE1r := Lib.hid hE1
    have HV := Lib.hid hV
    clear hE1 hV
    go_wp2_with fail
    refine (gsort_any 2 _ _ _ _ _ _ w1 HV.out H1.out.2.1).mono ?_
    rintro e wf1 ⟨d0, d1, d2, d3, rfl, hA, hE⟩
    rw [show rowsE (.mk 1 [(l.length : Int)] l []) = 0 from H1.out.1, show sortV (cmpF 2) (.mk 1 [(l.length : Int)] l []) = vecV sl from H1.out.2.2] at *
    obtain ⟨ka, a1, b1, e1, a2, b2, e2, a3, b3, e3, rfl, rfl, rfl, rfl⟩ := hA.form
    have hb2 : i = b2 := by
      have h := hA
      unfold vecV ArrAt at h
      obtain ⟨_, _, _, ⟨q, r, e, _⟩, _⟩ := h
      simp only [Value.slice.injEq] at e
      rw [e.2.1]; exact HSL.out.symm
    subst hb2
    have hEn : Ext w1 (wf1.alloc (.cells #[.int .i64 ka, .slice a1 b1 e1, .slice a2 i e2, .slice a3 b3 e3] 26)) := hE.alloc _
    have hBn := box_new wf1 (.int .i64 ka) (.slice a1 b1 e1) (.slice a2 i e2) (.slice a3 b3 e3)
    have hAn := hA.ext ((Ext.refl _).alloc (.cells #[.int .i64 ka, .slice a1 b1 e1, .slice a2 i e2, .slice a3 b3 e3] 26))
    have HE3 := Lib.hid (HEv.out.trans hEn)
    have HBa := Lib.hid hBn
    have HAa := Lib.hid hAn
    have HEn := Lib.hid hEn
    clear hA hE hEn hBn hAn HV HEv
    rw [HN.out]
    have HLw := Lib.hid (HLi.out.ext (HE1r.out.trans HEn.out))
    have HBLT := Lib.hid HBa.out.lt
    clear HLi HE1r HEn
    go_upto_region 10 with (fail)
    generalize hbz : wf1.heap.size = ba at *
    clear hbz
    generalize wf1.alloc (.cells #[.int .i64 ka, .slice a1 b1 e1, .slice a2 i e2, .slice a3 b3 e3] 26) = w3 at *
    have hs1 := fun w => slice_l p i c w k hki
    have hs2 := fun w => slice_h p i c w k (by omega)
    have hi1 := HLw.out.cut (n := i - k) k c (by rw [HN.out]; omega)
    rw [List.take_of_length_le (by rw [HDK.out]; omega)] at hi1
    have hi2 := HLw.out.cut (n := k) 0 c (by rw [HN.out]; omega)
    rw [List.drop_zero] at hi2
    generalize cutAt p k c 1 = p1 at *
    generalize cutAt p 0 c 1 = p2 at *
    have HI1 := Lib.hid hi1
    have HI2 := Lib.hid hi2
    obtain ⟨L1, hL1⟩ : ∃ L1, l.drop k = L1 := ⟨_, rfl⟩
    obtain ⟨L2, hL2⟩ : ∃ L2, l.take k = L2 := ⟨_, rfl⟩
    rw [hL1] at HDK HI1
    rw [hL2] at HTK HI2
    rw [hL1, hL2] at H2 HL2
    obtain ⟨LL, hLL⟩ : ∃ LL, L1 ++ L2 = LL := ⟨_, rfl⟩
    rw [hLL] at H2 HL2
    have HLL := Lib.hid hLL
    have hsum : i - k ≤ 60 ∧ k ≤ 60 := by omega
    obtain ⟨hik, hk60⟩ := hsum
    clear hi1 hi2 hL1 hL2 HLw hLL
    refine wp_region_e2 [MProp.row w3.heap.size 0 [], MProp.is (.slice p i c), MProp.is (.int .i64 (k : Int)), MProp.rdi (L1), MProp.chain w3.heap.size (L1), MProp.is (.slice p i c), MProp.is (.int .i64 (k : Int)), MProp.rdi (L2), MProp.chain w3.heap.size (LL), MProp.rdT (vecV (LL)), MProp.tupIn (vecV sl) 0, MProp.tupIn (vecV sl) 0, MProp.rdIn (vecV sl), MProp.is (.int .i64 0), MProp.boxo w3.heap.size] [0, 1, 2, 3, 5, 6, 7, 14] [4, 8, 9, 10, 11] [12, 13] [49, 50, 51, 52, 54, 55, 56, 9, 53, 57, 58, 59, 48, 60, 61] 15 16 (by kernel_rfl) (by kernel_rfl) (by kernel_rfl) (by kernel_rfl) (by kernel_rfl) rfl rfl ?_ ?_ ?_ ?_ ?_
    · exact mem_cons_m (zst_row _ _ _) (mem_cons_m (zst_is _) (mem_cons_m (zst_is _) (mem_cons_m (zst_rdi _) (mem_cons_m (zst_is _) (mem_cons_m (zst_is _) (mem_cons_m (zst_rdi _) (mem_cons_m (zst_boxo _) (mem_nil_m))))))))
    · refine mem_cons_m ?_ (mem_cons_m ?_ (mem_cons_m ?_ (mem_cons_m ?_ (mem_cons_m ?_ (mem_cons_m ?_ (mem_cons_m ?_ (mem_cons_m ?_ (mem_nil_m))))))))
      · refine ⟨_, 49, rfl, by kernel_rfl, ?_⟩
        intro u w9 X hE hX hd K hK
        clear hd
        simp only [overlay, List.setIfInBounds_toArray, List.set] at hK ⊢
        have hlt' : w3.heap.size ≤ w9.heap.size := hE.lt
        go_wp2_with fail
        exact hK _ _ X ((Ext.refl _).alloc _) kept_m (hX.ext ((Ext.refl _).alloc _)) ⟨_, rfl, rowI_new' w9 [], hlt', fun hx => by have := (hX _ hx).2; omega⟩
      · refine ⟨_, 50, rfl, by kernel_rfl, ?_⟩
        intro u w9 X hE hX hd K hK
        clear hd
        simp only [overlay, List.setIfInBounds_toArray, List.set] at hK ⊢
        go_wp2_with fail
        exact hK _ _ X (Ext.refl _) kept_m hX rfl
      · refine ⟨_, 51, rfl, by kernel_rfl, ?_⟩
        intro u w9 X hE hX hd K hK
        clear hd
        simp only [overlay, List.setIfInBounds_toArray, List.set] at hK ⊢
        go_wp2_with fail
        exact hK _ _ X (Ext.refl _) kept_m hX rfl
      · refine ⟨_, 52, rfl, by kernel_rfl, ?_⟩
        intro u w9 X hE hX hd K hK
        have d1 : u 50 = .slice p i c := hd 1 (by kernel_rfl)
        have d2 : u 51 = .int .i64 (k : Int) := hd 2 (by kernel_rfl)
        clear hd
        simp only [overlay, List.setIfInBounds_toArray, List.set, d1, d2] at hK ⊢
        have e9 : Ext w3 w9 := (Ext.refl w3).drew.trans hE
        go_wp2_with fail
        have hh := RdIX.old HI1.out (c := c - k) (by rw [HDK.out]; exact ⟨by omega, by omega, by omega⟩) e9 hX.lo
        rw [HDK.out] at hh
        exact hK _ _ X (Ext.refl _) kept_m hX hh
      · refine ⟨_, 54, rfl, by kernel_rfl, ?_⟩
        intro u w9 X hE hX hd K hK
        clear hd
        simp only [overlay, List.setIfInBounds_toArray, List.set] at hK ⊢
        go_wp2_with fail
        exact hK _ _ X (Ext.refl _) kept_m hX rfl
      · refine ⟨_, 55, rfl, by kernel_rfl, ?_⟩
        intro u w9 X hE hX hd K hK
        clear hd
        simp only [overlay, List.setIfInBounds_toArray, List.set] at hK ⊢
        go_wp2_with fail
        exact hK _ _ X (Ext.refl _) kept_m hX rfl
      · refine ⟨_, 56, rfl, by kernel_rfl, ?_⟩
        intro u w9 X hE hX hd K hK
        have d5 : u 54 = .slice p i c := hd 5 (by kernel_rfl)
        have d6 : u 55 = .int .i64 (k : Int) := hd 6 (by kernel_rfl)
        clear hd
        simp only [overlay, List.setIfInBounds_toArray, List.set, d5, d6] at hK ⊢
        have e9 : Ext w3 w9 := (Ext.refl w3).drew.trans hE
        go_wp2_with fail
        have hh := RdIX.old HI2.out (c := c) (by rw [HTK.out]; exact ⟨by omega, by omega, by omega⟩) e9 hX.lo
        rw [HTK.out] at hh
        exact hK _ _ X (Ext.refl _) kept_m hX hh
      · refine ⟨_, 9, rfl, by kernel_rfl, ?_⟩
        intro u w9 X hE hX hd K hK
        clear hd
        simp only [overlay, List.setIfInBounds_toArray, List.set] at hK ⊢
        have hlt' : w3.heap.size ≤ w9.heap.size := hE.lt
        go_wp2_with fail
        exact hK _ _ X ((Ext.refl _).alloc _) kept_m (hX.ext ((Ext.refl _).alloc _)) ⟨_, rfl, box_new _ _ _ _ _, hlt', fun hx => by have := (hX _ hx).2; omega⟩
    · refine mem_cons_m ?_ (mem_cons_m ?_ (mem_cons_m ?_ (mem_cons_m ?_ (mem_cons_m ?_ (mem_nil_m)))))
      · refine ⟨_, 53, rfl, by kernel_rfl, ?_⟩
        intro u w9 X hE hX hd K hK
        have d0 : ∃ g, u 49 = .slice (some ⟨g, 0, none⟩) 0 0 ∧ RowI w9 g [] ∧ w3.heap.size ≤ g ∧ ¬ X g := hd 0 (by kernel_rfl)
        have d3 : RdIX X w9 (L1) (u 52) := hd 3 (by kernel_rfl)
        clear hd
        simp only [overlay, List.setIfInBounds_toArray, List.set] at hK ⊢
        obtain ⟨g, hv0, hr0, hb0, hx0⟩ := d0
        obtain ⟨p3, c3, hv3, hk3, hi3⟩ := d3
        simp only [hv0, hv3] at hK ⊢
        refine wpList_chain rfl _ _ rfl w3.drew X _ 0 [] p3 c3 (L1) rfl (.inl ⟨rfl, rfl, g, rfl, hr0, hb0, hx0⟩) rfl hi3 hE hX (by have := HTK.out; have := HDK.out; omega) ?_
        intro v' w' X' f0 f1 f2 f3 f4
        rw [Nat.zero_add, List.nil_append] at f4
        obtain ⟨pv, cv, rfl, _⟩ := f4.own.1.form
        exact hK _ _ X' f0 f1 f2 f3 ⟨pv, cv, rfl, f4⟩
      · refine ⟨_, 57, rfl, by kernel_rfl, ?_⟩
        intro u w9 X hE hX hd K hK
        have d4 : ∃ p c, u 53 = .slice p (L1).length c ∧ ChainRow w3.heap.size X w9 (.slice p (L1).length c) (L1).length (L1) := hd 4 (by kernel_rfl)
        have d7 : RdIX X w9 (L2) (u 56) := hd 7 (by kernel_rfl)
        clear hd
        simp only [overlay, List.setIfInBounds_toArray, List.set] at hK ⊢
        obtain ⟨p0, c0, hv0, hc0⟩ := d4
        obtain ⟨p3, c3, hv3, hk3, hi3⟩ := d7
        simp only [hv0, hv3] at hK ⊢
        refine wpList_chain rfl _ _ rfl w3.drew X _ L1.length (L1) p3 c3 (L2) rfl hc0 rfl hi3 hE hX (by have := HTK.out; have := HDK.out; omega) ?_
        intro v' w' X' f0 f1 f2 f3 f4
        rw [← List.length_append, HLL.out] at f4
        obtain ⟨pv, cv, rfl, _⟩ := f4.own.1.form
        exact hK _ _ X' f0 f1 f2 f3 ⟨pv, cv, rfl, f4⟩
      · refine ⟨_, 58, rfl, by kernel_rfl, ?_⟩
        intro u w9 X hE hX hd K hK
        have d8 : ∃ p c, u 57 = .slice p (LL).length c ∧ ChainRow w3.heap.size X w9 (.slice p (LL).length c) (LL).length (LL) := hd 8 (by kernel_rfl)
        clear hd
        simp only [overlay, List.setIfInBounds_toArray, List.set] at hK ⊢
        obtain ⟨p0, c0, hv0, hc0⟩ := d8
        simp only [hv0] at hK ⊢
        have hof := (ChainRow.own hc0).1
        obtain ⟨p8, c8, hv8, hk8, hi8⟩ := hof.ints
        simp only [Value.slice.injEq] at hv8
        obtain ⟨rfl, _, rfl⟩ := hv8
        go_wp2_with fail
        refine (vec_any _ p0 c0 LL w9 hi8 hk8).mono ?_
        rintro e w8 ⟨e0, e1, e2, e3, rfl, hV, hE8⟩
        go_wp2_with fail
        exact hK _ _ X (hE.trans hE8) (Chg.of_ext hE8) kept_m (hX.ext hE8) ⟨_, _, _, _, rfl, ArrAt.mono (fun _ _ _ => ⟨trivial, rfl⟩) _ _ _ _ _ hV⟩
      · refine ⟨_, 59, rfl, by kernel_rfl, ?_⟩
        intro u w9 X hE hX hd K hK
        have d9 : ∃ c0 c1 c2 c3, u 58 = .agg #[c0, c1, c2, c3] ∧ ArrAt (fun _ => True) w9 (vecV (LL)) c0 c1 c2 c3 := hd 9 (by kernel_rfl)
        clear hd
        simp only [overlay, List.setIfInBounds_toArray, List.set] at hK ⊢
        obtain ⟨c0, c1, c2, c3, hv0, hA0⟩ := d9
        simp only [hv0] at hK ⊢
        go_wp2_with fail
        refine (gsort_any 2 _ _ _ _ _ _ w9 hA0 H2.out.2.1).mono ?_
        rintro e w8 ⟨d0', d1', d2', d3', rfl, hR8, hE8⟩
        rw [H2.out.2.2] at hR8
        rw [H2.out.1]
        go_wp2_with fail
        exact hK _ _ (fun b => X b ∨ (w9.heap.size ≤ b ∧ b < w8.heap.size)) (hE.trans hE8) (Chg.of_ext hE8) ⟨fun b hb => .inl hb, fun b hb => hb.imp id (fun h => h.1)⟩ (fun b hb => by rcases hb with hb | hb; exact (hX.ext hE8) b hb; exact ⟨Nat.le_trans hE.lt hb.1, hb.2⟩) ⟨_, _, _, _, rfl, ArrAt.mono (fun b hb hlt => ⟨.inr ⟨hb, hlt⟩, rfl⟩) _ _ _ _ _ hR8⟩
      · refine ⟨_, 48, rfl, by kernel_rfl, ?_⟩
        intro u w9 X hE hX hd K hK
        have d10 : ∃ c0 c1 c2 c3, u 59 = .tuple #[.agg #[c0, c1, c2, c3], .int .i64 0] ∧ ArrAt X w9 (vecV sl) c0 c1 c2 c3 := hd 10 (by kernel_rfl)
        clear hd
        simp only [overlay, List.setIfInBounds_toArray, List.set] at hK ⊢
        obtain ⟨c0, c1, c2, c3, hv0, hA0⟩ := d10
        simp only [hv0] at hK ⊢
        go_wp2_with fail
        exact hK _ _ X hE (Chg.of_ext (Ext.refl _)) kept_m hX ⟨_, _, _, _, rfl, hA0⟩
    · refine mem_cons_m ?_ (mem_cons_m ?_ (mem_nil_m))
      · refine ⟨_, 60, rfl, rfl, ?_⟩
        intro u w9 X hc
        replace hc : ∃ c0 c1 c2 c3, u 48 = .tuple #[.agg #[c0, c1, c2, c3], .int .i64 0] ∧ ArrAt X w9 (vecV sl) c0 c1 c2 c3 := hc
        obtain ⟨c0, c1, c2, c3, hv0, hA0⟩ := hc
        simp only [overlay, List.setIfInBounds_toArray, List.set, hv0]
        exact ⟨.agg #[c0, c1, c2, c3], .inl ⟨by kernel_rfl, fun w8 => by go_simp⟩, c0, c1, c2, c3, rfl, hA0⟩
      · refine ⟨_, 61, rfl, rfl, ?_⟩
        intro u w9 X hc
        replace hc : ∃ c0 c1 c2 c3, u 48 = .tuple #[.agg #[c0, c1, c2, c3], .int .i64 0] ∧ ArrAt X w9 (vecV sl) c0 c1 c2 c3 := hc
        obtain ⟨c0, c1, c2, c3, hv0, hA0⟩ := hc
        simp only [overlay, List.setIfInBounds_toArray, List.set, hv0]
        exact ⟨.int .i64 0, .inl ⟨by kernel_rfl, fun w8 => by go_simp⟩, rfl⟩
    intro u w9 X hE hX hd hde hdc
    have d0 : ∃ g, u 49 = .slice (some ⟨g, 0, none⟩) 0 0 ∧ RowI w9 g [] ∧ w3.heap.size ≤ g ∧ ¬ X g := hd 0 (by decide)
    have d1 : u 50 = .slice p i c := hd 1 (by decide)
    have d2 : u 51 = .int .i64 (k : Int) := hd 2 (by decide)
    have d3 : RdIX X w9 (L1) (u 52) := hd 3 (by decide)
    have d5 : u 54 = .slice p i c := hd 5 (by decide)
    have d6 : u 55 = .int .i64 (k : Int) := hd 6 (by decide)
    have d7 : RdIX X w9 (L2) (u 56) := hd 7 (by decide)
    have d14 : ∃ b, u 9 = .pointer (some ⟨b, 0, none⟩) ∧ Box4 w9 b (.int .i64 0) (.slice none 0 0) (.slice none 0 0) (.slice none 0 0) ∧ w3.heap.size ≤ b ∧ ¬ X b := hd 14 (by decide)
    have d12 : ∃ c0 c1 c2 c3, u 60 = .agg #[c0, c1, c2, c3] ∧ ArrAt X w9 (vecV sl) c0 c1 c2 c3 := hde 12 (by decide)
    have d13 : u 61 = .int .i64 0 := hde 13 (by decide)
    have d11 : ∃ c0 c1 c2 c3, u 48 = .tuple #[.agg #[c0, c1, c2, c3], .int .i64 0] ∧ ArrAt X w9 (vecV sl) c0 c1 c2 c3 := hdc 4 rfl
    clear hd hde hdc
    simp only [overlay, List.setIfInBounds_toArray, List.set, d1, d2, d5, d6, d13]
    obtain ⟨bb, hvb, hbox, hbb, hxb⟩ := d14
    obtain ⟨y0, y1, y2, y3, hva, hAb⟩ := d12
    obtain ⟨kb, h1, i1, j1, h2, i2, j2, h3, i3, j3, rfl, rfl, rfl, rfl⟩ := hAb.form
    simp only [hvb, hva]
    obtain ⟨q0, q1, q2, q3⟩ := hbox.cell
    have f0 := hbox.free 0
    have f1 := hbox.free 1
    have f2 := hbox.free 2
    have f3 := hbox.free 3
    have e9 : Ext w3 w9 := (Ext.refl w3).drew.trans hE
    obtain ⟨gg1, gg2, gg3⟩ := hbox.put4 e9 hbb (.int .i64 kb) (.slice h1 i1 j1) (.slice h2 i2 j2) (.slice h3 i3 j3)
    have hA2 := ArrAt.mono (G := fun _ => True) (w' := (((w9.setCell ⟨bb, 0, none⟩ (.int .i64 kb)).setCell ⟨bb, 1, none⟩ (.slice h1 i1 j1)).setCell ⟨bb, 2, none⟩ (.slice h2 i2 j2)).setCell ⟨bb, 3, none⟩ (.slice h3 i3 j3)) (fun q hq _ => ⟨trivial, gg3 q (fun e => hxb (by rw [← e]; exact hq))⟩) _ _ _ _ _ hAb
    have HG := Lib.hid (And.intro gg1 (And.intro gg2 hA2))
    clear d0 d1 d2 d3 d5 d6 d7 d11 d13 gg1 gg2 gg3 hA2 hAb hbox hxb e9 hX hE
    generalize u 49 = z49 at *
    generalize u 52 = z52 at *
    generalize u 53 = z53 at *
    generalize u 56 = z56 at *
    generalize u 57 = z57 at *
    generalize u 58 = z58 at *
    generalize u 59 = z59 at *
    generalize u 48 = z48 at *
    clear hvb hva
    clear u
    go_wp2_with fail
    refine OnlyN.mk ?_
    obtain ⟨gg1, gg2, hAb⟩ := HG.out
    clear HG q0 q1 q2 q3 f0 f1 f2 f3 HI1 HI2 HTK HDK H2 HL2 H1 hs1 hs2
    generalize (((w9.setCell ⟨bb, 0, none⟩ (.int .i64 kb)).setCell ⟨bb, 1, none⟩ (.slice h1 i1 j1)).setCell ⟨bb, 2, none⟩ (.slice h2 i2 j2)).setCell ⟨bb, 3, none⟩ (.slice h3 i3 j3) = w4 at *
    have HEa := Lib.hid (HE3.out.trans gg1)
    have HB4 := Lib.hid (HBa.out.ext gg1)
    have HA4 := Lib.hid (HAa.out.ext gg1)
    have HBb := Lib.hid gg2
    have HAb := Lib.hid hAb
    clear gg1 gg2 hAb HE3 HBa HAa
    obtain ⟨sa0, sa1, sa2, sa3⟩ := HB4.out.cell
    go_wp2_with fail
    refine (gsort_any 2 _ (vecV sl) _ _ _ _ w4 HA4.out H3.out.2.1).mono ?_
    rintro e wf2 ⟨d0, d1, d2, d3, rfl, hA, hE⟩
    rw [H3.out.2.2] at hA
    rw [H3.out.1]
    obtain ⟨kc, u1, r1, s1, u2, r2, s2, u3, r3, s3, rfl, rfl, rfl, rfl⟩ := hA.form
    have hEn : Ext w4 (wf2.alloc (.cells #[.int .i64 kc, .slice u1 r1 s1, .slice u2 r2 s2, .slice u3 r3 s3] 26)) := hE.alloc _
    have hBn := box_new wf2 (.int .i64 kc) (.slice u1 r1 s1) (.slice u2 r2 s2) (.slice u3 r3 s3)
    have hAn := hA.ext ((Ext.refl _).alloc (.cells #[.int .i64 kc, .slice u1 r1 s1, .slice u2 r2 s2, .slice u3 r3 s3] 26))
    have HE5 := Lib.hid (HEa.out.trans hEn)
    have HB5 := Lib.hid (HB4.out.ext hEn)
    have HA5 := Lib.hid (HA4.out.ext hEn)
    have HBb5 := Lib.hid (HBb.out.ext hEn)
    have HAb5 := Lib.hid (HAb.out.ext hEn)
    have HBc := Lib.hid hBn
    have HAc := Lib.hid hAn
    clear hA hE hEn hBn hAn HEa HB4 HA4 HBb HAb sa0 sa1 sa2 sa3
    go_upto_region 12 with (fail)
    generalize hbz : wf2.heap.size = bc at *
    clear hbz
    generalize wf2.alloc (.cells #[.int .i64 kc, .slice u1 r1 s1, .slice u2 r2 s2, .slice u3 r3 s3] 26) = w5 at *
    obtain ⟨sa0, sa1, sa2, sa3⟩ := HB5.out.cell
    obtain ⟨sb0, sb1, sb2, sb3⟩ := HBb5.out.cell
    obtain ⟨sc0, sc1, sc2, sc3⟩ := HBc.out.cell
    go_wp2_with fail
    refine (same_true (Rd.mk HA5.out) (Rd.mk HAb5.out) rfl rfl).mono ?_
    rintro e w6 ⟨rfl, hE6⟩
    replace sa0 := hE6.cell sa0
    replace sa1 := hE6.cell sa1
    replace sa2 := hE6.cell sa2
    replace sa3 := hE6.cell sa3
    replace sc0 := hE6.cell sc0
    replace sc1 := hE6.cell sc1
    replace sc2 := hE6.cell sc2
    replace sc3 := hE6.cell sc3
    clear sb0 sb1 sb2 sb3
    go_wp2_with fail
    refine (same_true (Rd.mk (HA5.out.ext hE6)) (Rd.mk (HAc.out.ext hE6)) rfl rfl).mono ?_
    rintro e w7 ⟨rfl, hE7⟩
    go_wp2_with fail
    refine (gawake_any _).mono ?_
    rintro e wl ⟨rfl, hEl⟩
    go_wp2_with fail
    go_ret
    exact ⟨rfl, ((HE5.out.trans hE6).trans hE7).trans hEl⟩
end Go.Proofs.Ytgeppialbkijiaa
