/-
  THE WALK of ref25.Find. (Printed by gen_rfind.py.) (Merged: RPlace, RFind.)
-/
import Derived.Test.YtgkemmdghmklfaaM25A
import Derived.Test.YtgkemmdghmklfaaSame
import Derived.Test.YtgkemmdghmklfaaRegY
import Derived.Test.YtgkemmdghmklfaaM25R
import Derived.Test.YtgkemmdghmklfaaM25C
import Derived.Test.YtgkemmdghmklfaaRRight
namespace Go.Proofs.Ytgkemmdghmklfaa
set_option linter.unusedSimpArgs false
set_option linter.unusedVariables false
open Go.RowKit

def alikeV (L Q : List Arr) : Bool := decide (0 < L.length) && decide (0 < Q.length) && ((L.getD 0 default).k == (Q.getD 0 default).k) && ((L.getD 0 default).sh == (Q.getD 0 default).sh)

set_option maxRecDepth 1000000 in
set_option maxHeartbeats 8000000 in
theorem queries_any (F : Nat → Prop) (t : Arr) (c0 c1 c2 c3 : Value) (w : World) (h : ArrAt F w t c0 c1 c2 c3) :
    Calls Try.prog 107 #[.agg #[c0, c1, c2, c3]] w fun e w' => e = .returned (.int .i64 (rankQ t : Int)) ∧ Ext w w' := by
  obtain ⟨k, s, n, it⟩ := t
  unfold ArrAt at h
  obtain ⟨rfl, hk, ⟨p1, k1, rfl, ⟨o1, o1', o1''⟩, i1⟩, ⟨p2, k2, rfl, ⟨o2, o2', o2''⟩, i2⟩, ⟨p3, k3, rfl, ⟨o3, o3', o3''⟩, i3⟩⟩ := h
  have hrq : (rankQ (.mk k s n it) : Int) = if (0 : Int) < (s.length : Int) - 1 then (s.length : Int) - 1 else 0 := by unfold rankQ; simp only [Arr.sh]; split <;> omega
  have hrq2 : (rankQ (.mk k s n it) : Int) = if (s.length : Int) - 1 < 0 then 0 else (s.length : Int) - 1 := by unfold rankQ; simp only [Arr.sh]; split <;> omega
  generalize rankQ (.mk k s n it) = rq at *
  have HQ := Lib.hid hrq
  have HQ2 := Lib.hid hrq2
  clear i1 i2 i3 hrq hrq2
  go_enter Try.func107, Try.ntmps107
  have hE0 : Ext w (w.alloc (.cells #[.int .i64 k, .slice p1 s.length k1, .slice p2 n.length k2, .slice p3 it.length k3] 26)) := (Ext.refl _).alloc _
  go_wp2_with fail
  all_goals (go_ret; exact ⟨ret_int (by have := HQ.out; split at this <;> omega), hE0⟩)

set_option maxRecDepth 1000000 in
set_option maxHeartbeats 8000000 in
theorem place_any (F G : Nat → Prop) (L : List Arr) (a : Arr) (pL : Option Addr) (cL nl : Nat) (c0 c1 c2 c3 : Value) (w : World) (h : ItemsAt F w pL 0 L) (ha : ArrAt G w a c0 c1 c2 c3) (hn : L.length = nl) (hl : nl ≤ 65536) :
    Calls Try.prog 110 #[.slice pL nl cL, .agg #[c0, c1, c2, c3]] w fun e w' => e = .returned (.int .i64 (placeV L a : Int)) ∧ Ext w w' := by
  obtain ⟨qk, qa, qla, qma, qb, qlb, qmb, qc, qlc, qmc, rfl, rfl, rfl, rfl⟩ := ha.form
  have HN := Lib.hid hn
  have H := Lib.hid h
  have HA := Lib.hid ha
  have HPV : Hid (placeV L a = L.findIdx fun t => sameV t a) := rfl
  generalize placeV L a = pv at *
  have hE0 : Ext w (w.alloc (.cells #[.int .i64 qk, .slice qa qla qma, .slice qb qlb qmb, .slice qc qlc qmc] 26)) := (Ext.refl _).alloc _
  have hB := box_new w (.int .i64 qk) (.slice qa qla qma) (.slice qb qlb qmb) (.slice qc qlc qmc)
  have HE0 := Lib.hid hE0
  have HB := Lib.hid hB
  clear h ha hn hE0 hB
  go_enter Try.func110, Try.ntmps110
  go_wp2_with fail
  generalize w.alloc (.cells #[.int .i64 qk, .slice qa qla qma, .slice qb qlb qmb, .slice qc qlc qmc] 26) = w1 at *
  go_loopw [5] (fun iv wr => ∃ (i : Nat), i ≤ nl ∧ iv = .int .i64 (i : Int) ∧ Hid (∀ j, j < i → sameV (L.getD j default) a = false) ∧ Ext w1 wr) (fun iv _ => nl - (intOf iv).toNat)
  case atStart => exact ⟨0, Nat.zero_le _, rfl, fun j hj => by omega, Ext.refl _⟩
  case round =>
  obtain ⟨i, hin, rfl, HNO, hE⟩ := hrel
  have HER := Lib.hid hE
  clear hE
  by_cases hlt : i < nl
  · have hiL : i < L.length := by rw [HN.out]; exact hlt
    obtain ⟨bi, oi, x0, x1, x2, x3, rfl, g0, g1, g2, g3, hX⟩ := (H.out.ext (HE0.out.trans HER.out)).getD hiL
    obtain ⟨kx, a1, l1, m1, a2, l2, m2, a3, l3, m3, rfl, rfl, rfl, rfl⟩ := hX.form
    have HS := Lib.hid (fun (w' : World) (e : Ext wr w') => same_any F G _ (L.getD i default) a _ _ _ _ _ _ _ _ w' (Nat.lt_succ_self _) (hX.ext e) (HA.out.ext (HE0.out.trans (HER.out.trans e))))
    have HFI := Lib.hid (fun (h : sameV (L.getD i default) a = true) => show L.findIdx (fun t => sameV t a) = i from by
      rw [List.findIdx_eq hiL]
      refine ⟨by have : L[i] = L.getD i default := by simp [List.getD, hiL]
                 rw [this]; exact h, fun j hj => ?_⟩
      have : L[j] = L.getD j default := by simp [List.getD, show j < L.length by omega]
      rw [this]; exact HNO.out j hj)
    have HN2 := Lib.hid (fun (h : sameV (L.getD i default) a = false) (j : Nat) (hj : j < i + 1) => show sameV (L.getD j default) a = false from by
      by_cases e : j = i
      · rw [e]; exact h
      · exact HNO.out j (by omega))
    generalize sameV (L.getD i default) a = sb at *
    have HC := Lib.hid (And.intro g0 (And.intro g1 (And.intro g2 g3)))
    clear hX g0 g1 g2 g3 hiL
    go_wp2_with fail
    refine wp_region_x0 [MProp.is (.slice (some ⟨bi, oi, none⟩) nl cL), MProp.is (.int .i64 (i : Int)), MProp.is (.pointer (some ⟨bi, oi + i * 4, none⟩)), MProp.is (.agg #[.int .i64 kx, .slice a1 l1 m1, .slice a2 l2 m2, .slice a3 l3 m3]), MProp.is (.agg #[.int .i64 qk, .slice qa qla qma, .slice qb qlb qmb, .slice qc qlc qmc]), MProp.is (.bool sb)] [0, 1, 2, 3, 4, 5] [] [12, 13, 14, 15, 16, 17] (by kernel_rfl) (by kernel_rfl) (by kernel_rfl) ?_ ?_ ?_
    · refine mem_cons_m ?_ (mem_cons_m ?_ (mem_cons_m ?_ (mem_cons_m ?_ (mem_cons_m ?_ (mem_cons_m ?_ (mem_nil_m))))))
      · refine ⟨_, 12, rfl, by kernel_rfl, ?_⟩
        intro u w9 X hE hX hd K hK
        clear hd
        simp only [overlay, List.setIfInBounds_toArray, List.set] at hK ⊢
        go_wp2_with fail
        exact hK _ _ X (Ext.refl _) kept_m hX rfl
      · refine ⟨_, 13, rfl, by kernel_rfl, ?_⟩
        intro u w9 X hE hX hd K hK
        clear hd
        simp only [overlay, List.setIfInBounds_toArray, List.set] at hK ⊢
        go_wp2_with fail
        exact hK _ _ X (Ext.refl _) kept_m hX rfl
      · refine ⟨_, 14, rfl, by kernel_rfl, ?_⟩
        intro u w9 X hE hX hd K hK
        have d0 : u 12 = .slice (some ⟨bi, oi, none⟩) nl cL := hd 0 (by kernel_rfl)
        have d1 : u 13 = .int .i64 (i : Int) := hd 1 (by kernel_rfl)
        clear hd
        simp only [overlay, List.setIfInBounds_toArray, List.set, d0, d1] at hK ⊢
        go_wp2_with fail
        exact hK _ _ X (Ext.refl _) kept_m hX rfl
      · refine ⟨_, 15, rfl, by kernel_rfl, ?_⟩
        intro u w9 X hE hX hd K hK
        have d2 : u 14 = .pointer (some ⟨bi, oi + i * 4, none⟩) := hd 2 (by kernel_rfl)
        clear hd
        simp only [overlay, List.setIfInBounds_toArray, List.set, d2] at hK ⊢
        have e9 : Ext wr w9 := (Ext.refl wr).drew.trans hE
        have a0 := e9.cell HC.out.1
        have a1 := e9.cell HC.out.2.1
        have a2 := e9.cell HC.out.2.2.1
        have a3 := e9.cell HC.out.2.2.2
        go_wp2_with fail
        exact hK _ _ X (Ext.refl _) kept_m hX rfl
      · refine ⟨_, 16, rfl, by kernel_rfl, ?_⟩
        intro u w9 X hE hX hd K hK
        clear hd
        simp only [overlay, List.setIfInBounds_toArray, List.set] at hK ⊢
        have e9 : Ext wr w9 := (Ext.refl wr).drew.trans hE
        obtain ⟨s0, s1, s2, s3⟩ := ((HB.out.ext HER.out).ext e9).cell
        go_wp2_with fail
        exact hK _ _ X (Ext.refl _) kept_m hX rfl
      · refine ⟨_, 17, rfl, by kernel_rfl, ?_⟩
        intro u w9 X hE hX hd K hK
        have d3 : u 15 = .agg #[.int .i64 kx, .slice a1 l1 m1, .slice a2 l2 m2, .slice a3 l3 m3] := hd 3 (by kernel_rfl)
        have d4 : u 16 = .agg #[.int .i64 qk, .slice qa qla qma, .slice qb qlb qmb, .slice qc qlc qmc] := hd 4 (by kernel_rfl)
        clear hd
        simp only [overlay, List.setIfInBounds_toArray, List.set, d3, d4] at hK ⊢
        have e9 : Ext wr w9 := (Ext.refl wr).drew.trans hE
        go_wp2_with fail
        refine (HS.out w9 e9).mono ?_
        rintro e w8 ⟨rfl, hE8⟩
        go_wp2_with fail
        exact hK _ _ X hE8 kept_m (hX.ext hE8) rfl
    · exact mem_nil_m
    intro u w9 X hE hX hd
    have d0 : u 12 = .slice (some ⟨bi, oi, none⟩) nl cL := hd 0 (by decide)
    have d1 : u 13 = .int .i64 (i : Int) := hd 1 (by decide)
    have d2 : u 14 = .pointer (some ⟨bi, oi + i * 4, none⟩) := hd 2 (by decide)
    have d3 : u 15 = .agg #[.int .i64 kx, .slice a1 l1 m1, .slice a2 l2 m2, .slice a3 l3 m3] := hd 3 (by decide)
    have d4 : u 16 = .agg #[.int .i64 qk, .slice qa qla qma, .slice qb qlb qmb, .slice qc qlc qmc] := hd 4 (by decide)
    have d5 : u 17 = .bool sb := hd 5 (by decide)
    clear hd
    simp only [overlay, List.setIfInBounds_toArray, List.set, d0, d1, d2, d3, d4, d5]
    have e9 : Ext wr w9 := (Ext.refl wr).drew.trans hE
    clear d0 d1 d2 d3 d4 d5
    clear hX hE
    generalize u 15 = t15z1
    generalize u 16 = t16z1
    clear u
    obtain ⟨wk2, rfl⟩ : ∃ wx : World, wx = w9 := ⟨_, rfl⟩
    have HEN2 := Lib.hid (HER.out.trans e9)
    have HEN := Lib.hid (HE0.out.trans (HER.out.trans e9))
    clear e9
    cases sb with
    | true =>
      have hfi := HFI.out rfl
      rw [← HPV.out] at hfi
      subst hfi
      clear HC HS HFI HN2
      go_wp2_with fail
      go_ret
      exact ⟨rfl, HEN.out⟩
    | false =>
      have HN3 := Lib.hid (HN2.out rfl)
      clear HC HS HFI HN2
      go_wp2_with fail
      go_roundw
      case rel => exact ⟨i + 1, by omega, by go_num, HN3, HEN2.out⟩
      case measure => simp [intOf]; omega
  have hi2 : nl = i := by omega
  subst hi2
  have hpl : pv = nl := by
    rw [HPV.out, ← HN.out, List.findIdx_eq_length]
    intro t ht
    obtain ⟨j, hj, rfl⟩ := List.getElem_of_mem ht
    have : L[j] = L.getD j default := by simp [List.getD, hj]
    rw [this]; exact HNO.out j (by rw [← HN.out]; exact hj)
  subst hpl
  have hEF := HE0.out.trans HER.out
  go_wp2_with fail
  go_ret
  exact ⟨rfl, hEF⟩

set_option maxRecDepth 1000000 in
set_option maxHeartbeats 8000000 in
theorem alike_any (F G : Nat → Prop) (L Q : List Arr) (pL pQ : Option Addr) (cL nl cQ nq : Nat) (w : World) (h : ItemsAt F w pL 0 L) (hq : ItemsAt G w pQ 0 Q) (hn : L.length = nl) (hl : nl ≤ 65536) (hnq : Q.length = nq) (hlq : nq ≤ 65536) :
    Calls Try.prog 109 #[.slice pL nl cL, .slice pQ nq cQ] w fun e w' => e = .returned (.bool (alikeV L Q)) ∧ Ext w w' := by
  have HV : Hid (alikeV L Q = (decide (0 < nl) && decide (0 < nq) && ((L.getD 0 default).k == (Q.getD 0 default).k) && ((L.getD 0 default).sh == (Q.getD 0 default).sh))) := by rw [← hn, ← hnq]; rfl
  generalize alikeV L Q = av at *
  by_cases h1 : 0 < nl
  rotate_left
  · have h1I : decide ((0 : Int) < (nl : Int)) = false := by simp; omega
    have HV2 : Hid (av = false) := by unfold Hid; rw [HV.out]; simp [h1]
    clear h hq HV hn hnq
    go_enter Try.func109, Try.ntmps109
    go_wp2_with fail
    refine wp_region_x1 (MProp.is (.slice pL nl cL) :: MProp.is (.int .i64 (nl : Int)) :: MProp.is (.bool false) :: MProp.is (.bool false) :: MProp.is (undef) :: MProp.is (undef) :: MProp.is (undef) :: MProp.is (.bool false) :: MProp.is (.bool false) :: MProp.is (undef) :: MProp.is (undef) :: MProp.is (undef) :: MProp.is (undef) :: MProp.is (undef) :: MProp.is (undef) :: MProp.is (undef) :: MProp.is (undef) :: MProp.is (undef) :: MProp.is (.bool false) :: MProp.is (.bool false) :: MProp.is (undef) :: MProp.is (undef) :: MProp.is (undef) :: MProp.is (undef) :: MProp.is (undef) :: MProp.is (undef) :: MProp.is (undef) :: MProp.is (undef) :: MProp.is (undef) :: MProp.is (.bool false) :: []) (0 :: 1 :: 2 :: 3 :: 4 :: 5 :: 6 :: 7 :: 8 :: 9 :: 10 :: 11 :: 12 :: 13 :: 14 :: 15 :: 16 :: 17 :: 18 :: 19 :: 20 :: 21 :: 22 :: 23 :: 24 :: 25 :: 26 :: 27 :: 28 :: 29 :: []) [] (5 :: 6 :: 7 :: 8 :: 9 :: 10 :: 11 :: 12 :: 13 :: 14 :: 15 :: 16 :: 17 :: 18 :: 19 :: 20 :: 21 :: 22 :: 23 :: 24 :: 25 :: 26 :: 27 :: 28 :: 29 :: 30 :: 31 :: 32 :: 33 :: 34 :: []) 30 (by kernel_rfl) (by kernel_rfl) (by kernel_rfl) rfl ?_ ?_ ?_
    · refine mem_cons_m ?_ (mem_cons_m ?_ (mem_cons_m ?_ (mem_cons_m ?_ (mem_cons_m ?_ (mem_cons_m ?_ (mem_cons_m ?_ (mem_cons_m ?_ (mem_cons_m ?_ (mem_cons_m ?_ (mem_cons_m ?_ (mem_cons_m ?_ (mem_cons_m ?_ (mem_cons_m ?_ (mem_cons_m ?_ (mem_cons_m ?_ (mem_cons_m ?_ (mem_cons_m ?_ (mem_cons_m ?_ (mem_cons_m ?_ (mem_cons_m ?_ (mem_cons_m ?_ (mem_cons_m ?_ (mem_cons_m ?_ (mem_cons_m ?_ (mem_cons_m ?_ (mem_cons_m ?_ (mem_cons_m ?_ (mem_cons_m ?_ (mem_cons_m ?_ (mem_nil_m))))))))))))))))))))))))))))))
      · refine ⟨_, 5, rfl, by kernel_rfl, ?_⟩
        intro u w9 X hE hX hd K hK
        clear hd
        simp only [overlay, List.setIfInBounds_toArray, List.set] at hK ⊢
        go_wp2_with fail
        exact hK _ _ X (Ext.refl _) kept_m hX rfl
      · refine ⟨_, 6, rfl, by kernel_rfl, ?_⟩
        intro u w9 X hE hX hd K hK
        have d0 : u 5 = .slice pL nl cL := hd 0 (by kernel_rfl)
        clear hd
        simp only [overlay, List.setIfInBounds_toArray, List.set, d0] at hK ⊢
        go_wp2_with fail
        exact hK _ _ X (Ext.refl _) kept_m hX rfl
      · refine ⟨_, 7, rfl, by kernel_rfl, ?_⟩
        intro u w9 X hE hX hd K hK
        have d1 : u 6 = .int .i64 (nl : Int) := hd 1 (by kernel_rfl)
        clear hd
        simp only [overlay, List.setIfInBounds_toArray, List.set, d1] at hK ⊢
        go_wp2_with fail
        exact hK _ _ X (Ext.refl _) kept_m hX rfl
      · refine ⟨_, 8, rfl, by kernel_rfl, ?_⟩
        intro u w9 X hE hX hd K hK
        have d2 : u 7 = .bool false := hd 2 (by kernel_rfl)
        clear hd
        simp only [overlay, List.setIfInBounds_toArray, List.set, d2] at hK ⊢
        go_wp2_with fail
        exact hK _ _ X (Ext.refl _) kept_m hX rfl
      · refine ⟨_, 9, rfl, by kernel_rfl, ?_⟩
        intro u w9 X hE hX hd K hK
        have d3 : u 8 = .bool false := hd 3 (by kernel_rfl)
        clear hd
        simp only [overlay, List.setIfInBounds_toArray, List.set, d3] at hK ⊢
        go_wp2_with fail
        exact hK _ _ X (Ext.refl _) kept_m hX rfl
      · refine ⟨_, 10, rfl, by kernel_rfl, ?_⟩
        intro u w9 X hE hX hd K hK
        have d4 : u 9 = undef := hd 4 (by kernel_rfl)
        have d3 : u 8 = .bool false := hd 3 (by kernel_rfl)
        clear hd
        simp only [overlay, List.setIfInBounds_toArray, List.set, d4, d3] at hK ⊢
        go_wp2_with fail
        exact hK _ _ X (Ext.refl _) kept_m hX rfl
      · refine ⟨_, 11, rfl, by kernel_rfl, ?_⟩
        intro u w9 X hE hX hd K hK
        have d5 : u 10 = undef := hd 5 (by kernel_rfl)
        have d3 : u 8 = .bool false := hd 3 (by kernel_rfl)
        clear hd
        simp only [overlay, List.setIfInBounds_toArray, List.set, d5, d3] at hK ⊢
        go_wp2_with fail
        exact hK _ _ X (Ext.refl _) kept_m hX rfl
      · refine ⟨_, 12, rfl, by kernel_rfl, ?_⟩
        intro u w9 X hE hX hd K hK
        have d3 : u 8 = .bool false := hd 3 (by kernel_rfl)
        have d6 : u 11 = undef := hd 6 (by kernel_rfl)
        clear hd
        simp only [overlay, List.setIfInBounds_toArray, List.set, d3, d6] at hK ⊢
        go_wp2_with fail
        exact hK _ _ X (Ext.refl _) kept_m hX rfl
      · refine ⟨_, 13, rfl, by kernel_rfl, ?_⟩
        intro u w9 X hE hX hd K hK
        have d7 : u 12 = .bool false := hd 7 (by kernel_rfl)
        clear hd
        simp only [overlay, List.setIfInBounds_toArray, List.set, d7] at hK ⊢
        go_wp2_with fail
        exact hK _ _ X (Ext.refl _) kept_m hX rfl
      · refine ⟨_, 14, rfl, by kernel_rfl, ?_⟩
        intro u w9 X hE hX hd K hK
        have d8 : u 13 = .bool false := hd 8 (by kernel_rfl)
        clear hd
        simp only [overlay, List.setIfInBounds_toArray, List.set, d8] at hK ⊢
        go_wp2_with fail
        exact hK _ _ X (Ext.refl _) kept_m hX rfl
      · refine ⟨_, 15, rfl, by kernel_rfl, ?_⟩
        intro u w9 X hE hX hd K hK
        have d9 : u 14 = undef := hd 9 (by kernel_rfl)
        have d8 : u 13 = .bool false := hd 8 (by kernel_rfl)
        clear hd
        simp only [overlay, List.setIfInBounds_toArray, List.set, d9, d8] at hK ⊢
        go_wp2_with fail
        exact hK _ _ X (Ext.refl _) kept_m hX rfl
      · refine ⟨_, 16, rfl, by kernel_rfl, ?_⟩
        intro u w9 X hE hX hd K hK
        have d10 : u 15 = undef := hd 10 (by kernel_rfl)
        have d8 : u 13 = .bool false := hd 8 (by kernel_rfl)
        clear hd
        simp only [overlay, List.setIfInBounds_toArray, List.set, d10, d8] at hK ⊢
        go_wp2_with fail
        exact hK _ _ X (Ext.refl _) kept_m hX rfl
      · refine ⟨_, 17, rfl, by kernel_rfl, ?_⟩
        intro u w9 X hE hX hd K hK
        have d11 : u 16 = undef := hd 11 (by kernel_rfl)
        have d8 : u 13 = .bool false := hd 8 (by kernel_rfl)
        clear hd
        simp only [overlay, List.setIfInBounds_toArray, List.set, d11, d8] at hK ⊢
        go_wp2_with fail
        exact hK _ _ X (Ext.refl _) kept_m hX rfl
      · refine ⟨_, 18, rfl, by kernel_rfl, ?_⟩
        intro u w9 X hE hX hd K hK
        have d8 : u 13 = .bool false := hd 8 (by kernel_rfl)
        clear hd
        simp only [overlay, List.setIfInBounds_toArray, List.set, d8] at hK ⊢
        go_wp2_with fail
        exact hK _ _ X (Ext.refl _) kept_m hX rfl
      · refine ⟨_, 19, rfl, by kernel_rfl, ?_⟩
        intro u w9 X hE hX hd K hK
        have d13 : u 18 = undef := hd 13 (by kernel_rfl)
        have d8 : u 13 = .bool false := hd 8 (by kernel_rfl)
        clear hd
        simp only [overlay, List.setIfInBounds_toArray, List.set, d13, d8] at hK ⊢
        go_wp2_with fail
        exact hK _ _ X (Ext.refl _) kept_m hX rfl
      · refine ⟨_, 20, rfl, by kernel_rfl, ?_⟩
        intro u w9 X hE hX hd K hK
        have d14 : u 19 = undef := hd 14 (by kernel_rfl)
        have d8 : u 13 = .bool false := hd 8 (by kernel_rfl)
        clear hd
        simp only [overlay, List.setIfInBounds_toArray, List.set, d14, d8] at hK ⊢
        go_wp2_with fail
        exact hK _ _ X (Ext.refl _) kept_m hX rfl
      · refine ⟨_, 21, rfl, by kernel_rfl, ?_⟩
        intro u w9 X hE hX hd K hK
        have d15 : u 20 = undef := hd 15 (by kernel_rfl)
        have d8 : u 13 = .bool false := hd 8 (by kernel_rfl)
        clear hd
        simp only [overlay, List.setIfInBounds_toArray, List.set, d15, d8] at hK ⊢
        go_wp2_with fail
        exact hK _ _ X (Ext.refl _) kept_m hX rfl
      · refine ⟨_, 22, rfl, by kernel_rfl, ?_⟩
        intro u w9 X hE hX hd K hK
        have d12 : u 17 = undef := hd 12 (by kernel_rfl)
        have d16 : u 21 = undef := hd 16 (by kernel_rfl)
        have d8 : u 13 = .bool false := hd 8 (by kernel_rfl)
        clear hd
        simp only [overlay, List.setIfInBounds_toArray, List.set, d12, d16, d8] at hK ⊢
        go_wp2_with fail
        exact hK _ _ X (Ext.refl _) kept_m hX rfl
      · refine ⟨_, 23, rfl, by kernel_rfl, ?_⟩
        intro u w9 X hE hX hd K hK
        have d8 : u 13 = .bool false := hd 8 (by kernel_rfl)
        have d17 : u 22 = undef := hd 17 (by kernel_rfl)
        clear hd
        simp only [overlay, List.setIfInBounds_toArray, List.set, d8, d17] at hK ⊢
        go_wp2_with fail
        exact hK _ _ X (Ext.refl _) kept_m hX rfl
      · refine ⟨_, 24, rfl, by kernel_rfl, ?_⟩
        intro u w9 X hE hX hd K hK
        have d18 : u 23 = .bool false := hd 18 (by kernel_rfl)
        clear hd
        simp only [overlay, List.setIfInBounds_toArray, List.set, d18] at hK ⊢
        go_wp2_with fail
        exact hK _ _ X (Ext.refl _) kept_m hX rfl
      · refine ⟨_, 25, rfl, by kernel_rfl, ?_⟩
        intro u w9 X hE hX hd K hK
        have d19 : u 24 = .bool false := hd 19 (by kernel_rfl)
        clear hd
        simp only [overlay, List.setIfInBounds_toArray, List.set, d19] at hK ⊢
        go_wp2_with fail
        exact hK _ _ X (Ext.refl _) kept_m hX rfl
      · refine ⟨_, 26, rfl, by kernel_rfl, ?_⟩
        intro u w9 X hE hX hd K hK
        have d20 : u 25 = undef := hd 20 (by kernel_rfl)
        have d19 : u 24 = .bool false := hd 19 (by kernel_rfl)
        clear hd
        simp only [overlay, List.setIfInBounds_toArray, List.set, d20, d19] at hK ⊢
        go_wp2_with fail
        exact hK _ _ X (Ext.refl _) kept_m hX rfl
      · refine ⟨_, 27, rfl, by kernel_rfl, ?_⟩
        intro u w9 X hE hX hd K hK
        have d21 : u 26 = undef := hd 21 (by kernel_rfl)
        have d19 : u 24 = .bool false := hd 19 (by kernel_rfl)
        clear hd
        simp only [overlay, List.setIfInBounds_toArray, List.set, d21, d19] at hK ⊢
        go_wp2_with fail
        exact hK _ _ X (Ext.refl _) kept_m hX rfl
      · refine ⟨_, 28, rfl, by kernel_rfl, ?_⟩
        intro u w9 X hE hX hd K hK
        have d22 : u 27 = undef := hd 22 (by kernel_rfl)
        have d19 : u 24 = .bool false := hd 19 (by kernel_rfl)
        clear hd
        simp only [overlay, List.setIfInBounds_toArray, List.set, d22, d19] at hK ⊢
        go_wp2_with fail
        exact hK _ _ X (Ext.refl _) kept_m hX rfl
      · refine ⟨_, 29, rfl, by kernel_rfl, ?_⟩
        intro u w9 X hE hX hd K hK
        have d19 : u 24 = .bool false := hd 19 (by kernel_rfl)
        clear hd
        simp only [overlay, List.setIfInBounds_toArray, List.set, d19] at hK ⊢
        go_wp2_with fail
        exact hK _ _ X (Ext.refl _) kept_m hX rfl
      · refine ⟨_, 30, rfl, by kernel_rfl, ?_⟩
        intro u w9 X hE hX hd K hK
        have d24 : u 29 = undef := hd 24 (by kernel_rfl)
        have d19 : u 24 = .bool false := hd 19 (by kernel_rfl)
        clear hd
        simp only [overlay, List.setIfInBounds_toArray, List.set, d24, d19] at hK ⊢
        go_wp2_with fail
        exact hK _ _ X (Ext.refl _) kept_m hX rfl
      · refine ⟨_, 31, rfl, by kernel_rfl, ?_⟩
        intro u w9 X hE hX hd K hK
        have d25 : u 30 = undef := hd 25 (by kernel_rfl)
        have d19 : u 24 = .bool false := hd 19 (by kernel_rfl)
        clear hd
        simp only [overlay, List.setIfInBounds_toArray, List.set, d25, d19] at hK ⊢
        go_wp2_with fail
        exact hK _ _ X (Ext.refl _) kept_m hX rfl
      · refine ⟨_, 32, rfl, by kernel_rfl, ?_⟩
        intro u w9 X hE hX hd K hK
        have d26 : u 31 = undef := hd 26 (by kernel_rfl)
        have d19 : u 24 = .bool false := hd 19 (by kernel_rfl)
        clear hd
        simp only [overlay, List.setIfInBounds_toArray, List.set, d26, d19] at hK ⊢
        go_wp2_with fail
        exact hK _ _ X (Ext.refl _) kept_m hX rfl
      · refine ⟨_, 33, rfl, by kernel_rfl, ?_⟩
        intro u w9 X hE hX hd K hK
        have d23 : u 28 = undef := hd 23 (by kernel_rfl)
        have d27 : u 32 = undef := hd 27 (by kernel_rfl)
        have d19 : u 24 = .bool false := hd 19 (by kernel_rfl)
        clear hd
        simp only [overlay, List.setIfInBounds_toArray, List.set, d23, d27, d19] at hK ⊢
        go_wp2_with fail
        exact hK _ _ X (Ext.refl _) kept_m hX rfl
      · refine ⟨_, 34, rfl, by kernel_rfl, ?_⟩
        intro u w9 X hE hX hd K hK
        have d19 : u 24 = .bool false := hd 19 (by kernel_rfl)
        have d28 : u 33 = undef := hd 28 (by kernel_rfl)
        clear hd
        simp only [overlay, List.setIfInBounds_toArray, List.set, d19, d28] at hK ⊢
        go_wp2_with fail
        exact hK _ _ X (Ext.refl _) kept_m hX rfl
    · exact mem_nil_m
    intro u w9 X hE hX hd
    have d0 : u 5 = .slice pL nl cL := hd 0 (by decide)
    have d1 : u 6 = .int .i64 (nl : Int) := hd 1 (by decide)
    have d2 : u 7 = .bool false := hd 2 (by decide)
    have d3 : u 8 = .bool false := hd 3 (by decide)
    have d4 : u 9 = undef := hd 4 (by decide)
    have d5 : u 10 = undef := hd 5 (by decide)
    have d6 : u 11 = undef := hd 6 (by decide)
    have d7 : u 12 = .bool false := hd 7 (by decide)
    have d8 : u 13 = .bool false := hd 8 (by decide)
    have d9 : u 14 = undef := hd 9 (by decide)
    have d10 : u 15 = undef := hd 10 (by decide)
    have d11 : u 16 = undef := hd 11 (by decide)
    have d12 : u 17 = undef := hd 12 (by decide)
    have d13 : u 18 = undef := hd 13 (by decide)
    have d14 : u 19 = undef := hd 14 (by decide)
    have d15 : u 20 = undef := hd 15 (by decide)
    have d16 : u 21 = undef := hd 16 (by decide)
    have d17 : u 22 = undef := hd 17 (by decide)
    have d18 : u 23 = .bool false := hd 18 (by decide)
    have d19 : u 24 = .bool false := hd 19 (by decide)
    have d20 : u 25 = undef := hd 20 (by decide)
    have d21 : u 26 = undef := hd 21 (by decide)
    have d22 : u 27 = undef := hd 22 (by decide)
    have d23 : u 28 = undef := hd 23 (by decide)
    have d24 : u 29 = undef := hd 24 (by decide)
    have d25 : u 30 = undef := hd 25 (by decide)
    have d26 : u 31 = undef := hd 26 (by decide)
    have d27 : u 32 = undef := hd 27 (by decide)
    have d28 : u 33 = undef := hd 28 (by decide)
    have d29 : u 34 = .bool false := hd 29 (by decide)
    clear hd
    simp only [overlay, List.setIfInBounds_toArray, List.set, d0, d1, d2, d3, d4, d5, d6, d7, d8, d9, d10, d11, d12, d13, d14, d15, d16, d17, d18, d19, d20, d21, d22, d23, d24, d25, d26, d27, d28, d29]
    have e9 : Ext w w9 := (Ext.refl w).drew.trans hE
    clear d0 d1 d2 d3 d4 d5 d6 d7 d8 d9 d10 d11 d12 d13 d14 d15 d16 d17 d18 d19 d20 d21 d22 d23 d24 d25 d26 d27 d28 d29
    clear hX hE
    clear u
    obtain ⟨wk2, rfl⟩ : ∃ wx : World, wx = w9 := ⟨_, rfl⟩
    have hEF : Ext w wk2 := e9
    clear e9
    go_wp2_with fail
    refine OnlyN.mk ?_
    (try simp only [Exit.inBlock, Exit.then])
    go_wp2_with fail
    go_ret
    exact ⟨ret_bool (by rw [HV2.out]), hEF⟩
  have h1I : decide ((0 : Int) < (nl : Int)) = true := by simp; omega
  by_cases h2 : 0 < nq
  rotate_left
  · have h2I : decide ((0 : Int) < (nq : Int)) = false := by simp; omega
    have HV2 : Hid (av = false) := by unfold Hid; rw [HV.out]; simp [h2]
    clear h hq HV hn hnq
    go_enter Try.func109, Try.ntmps109
    go_wp2_with fail
    refine wp_region_x1 (MProp.is (.slice pL nl cL) :: MProp.is (.int .i64 (nl : Int)) :: MProp.is (.bool true) :: MProp.is (.bool true) :: MProp.is (.slice pQ nq cQ) :: MProp.is (.int .i64 (nq : Int)) :: MProp.is (.bool false) :: MProp.is (.bool false) :: MProp.is (.bool false) :: MProp.is (undef) :: MProp.is (undef) :: MProp.is (undef) :: MProp.is (undef) :: MProp.is (undef) :: MProp.is (undef) :: MProp.is (undef) :: MProp.is (undef) :: MProp.is (undef) :: MProp.is (.bool false) :: MProp.is (.bool false) :: MProp.is (undef) :: MProp.is (undef) :: MProp.is (undef) :: MProp.is (undef) :: MProp.is (undef) :: MProp.is (undef) :: MProp.is (undef) :: MProp.is (undef) :: MProp.is (undef) :: MProp.is (.bool false) :: []) (0 :: 1 :: 2 :: 3 :: 4 :: 5 :: 6 :: 7 :: 8 :: 9 :: 10 :: 11 :: 12 :: 13 :: 14 :: 15 :: 16 :: 17 :: 18 :: 19 :: 20 :: 21 :: 22 :: 23 :: 24 :: 25 :: 26 :: 27 :: 28 :: 29 :: []) [] (5 :: 6 :: 7 :: 8 :: 9 :: 10 :: 11 :: 12 :: 13 :: 14 :: 15 :: 16 :: 17 :: 18 :: 19 :: 20 :: 21 :: 22 :: 23 :: 24 :: 25 :: 26 :: 27 :: 28 :: 29 :: 30 :: 31 :: 32 :: 33 :: 34 :: []) 30 (by kernel_rfl) (by kernel_rfl) (by kernel_rfl) rfl ?_ ?_ ?_
    · refine mem_cons_m ?_ (mem_cons_m ?_ (mem_cons_m ?_ (mem_cons_m ?_ (mem_cons_m ?_ (mem_cons_m ?_ (mem_cons_m ?_ (mem_cons_m ?_ (mem_cons_m ?_ (mem_cons_m ?_ (mem_cons_m ?_ (mem_cons_m ?_ (mem_cons_m ?_ (mem_cons_m ?_ (mem_cons_m ?_ (mem_cons_m ?_ (mem_cons_m ?_ (mem_cons_m ?_ (mem_cons_m ?_ (mem_cons_m ?_ (mem_cons_m ?_ (mem_cons_m ?_ (mem_cons_m ?_ (mem_cons_m ?_ (mem_cons_m ?_ (mem_cons_m ?_ (mem_cons_m ?_ (mem_cons_m ?_ (mem_cons_m ?_ (mem_cons_m ?_ (mem_nil_m))))))))))))))))))))))))))))))
      · refine ⟨_, 5, rfl, by kernel_rfl, ?_⟩
        intro u w9 X hE hX hd K hK
        clear hd
        simp only [overlay, List.setIfInBounds_toArray, List.set] at hK ⊢
        go_wp2_with fail
        exact hK _ _ X (Ext.refl _) kept_m hX rfl
      · refine ⟨_, 6, rfl, by kernel_rfl, ?_⟩
        intro u w9 X hE hX hd K hK
        have d0 : u 5 = .slice pL nl cL := hd 0 (by kernel_rfl)
        clear hd
        simp only [overlay, List.setIfInBounds_toArray, List.set, d0] at hK ⊢
        go_wp2_with fail
        exact hK _ _ X (Ext.refl _) kept_m hX rfl
      · refine ⟨_, 7, rfl, by kernel_rfl, ?_⟩
        intro u w9 X hE hX hd K hK
        have d1 : u 6 = .int .i64 (nl : Int) := hd 1 (by kernel_rfl)
        clear hd
        simp only [overlay, List.setIfInBounds_toArray, List.set, d1] at hK ⊢
        go_wp2_with fail
        exact hK _ _ X (Ext.refl _) kept_m hX rfl
      · refine ⟨_, 8, rfl, by kernel_rfl, ?_⟩
        intro u w9 X hE hX hd K hK
        have d2 : u 7 = .bool true := hd 2 (by kernel_rfl)
        clear hd
        simp only [overlay, List.setIfInBounds_toArray, List.set, d2] at hK ⊢
        go_wp2_with fail
        exact hK _ _ X (Ext.refl _) kept_m hX rfl
      · refine ⟨_, 9, rfl, by kernel_rfl, ?_⟩
        intro u w9 X hE hX hd K hK
        have d3 : u 8 = .bool true := hd 3 (by kernel_rfl)
        clear hd
        simp only [overlay, List.setIfInBounds_toArray, List.set, d3] at hK ⊢
        go_wp2_with fail
        exact hK _ _ X (Ext.refl _) kept_m hX rfl
      · refine ⟨_, 10, rfl, by kernel_rfl, ?_⟩
        intro u w9 X hE hX hd K hK
        have d4 : u 9 = .slice pQ nq cQ := hd 4 (by kernel_rfl)
        have d3 : u 8 = .bool true := hd 3 (by kernel_rfl)
        clear hd
        simp only [overlay, List.setIfInBounds_toArray, List.set, d4, d3] at hK ⊢
        go_wp2_with fail
        exact hK _ _ X (Ext.refl _) kept_m hX rfl
      · refine ⟨_, 11, rfl, by kernel_rfl, ?_⟩
        intro u w9 X hE hX hd K hK
        have d5 : u 10 = .int .i64 (nq : Int) := hd 5 (by kernel_rfl)
        have d3 : u 8 = .bool true := hd 3 (by kernel_rfl)
        clear hd
        simp only [overlay, List.setIfInBounds_toArray, List.set, d5, d3] at hK ⊢
        go_wp2_with fail
        exact hK _ _ X (Ext.refl _) kept_m hX rfl
      · refine ⟨_, 12, rfl, by kernel_rfl, ?_⟩
        intro u w9 X hE hX hd K hK
        have d3 : u 8 = .bool true := hd 3 (by kernel_rfl)
        have d6 : u 11 = .bool false := hd 6 (by kernel_rfl)
        clear hd
        simp only [overlay, List.setIfInBounds_toArray, List.set, d3, d6] at hK ⊢
        go_wp2_with fail
        exact hK _ _ X (Ext.refl _) kept_m hX rfl
      · refine ⟨_, 13, rfl, by kernel_rfl, ?_⟩
        intro u w9 X hE hX hd K hK
        have d7 : u 12 = .bool false := hd 7 (by kernel_rfl)
        clear hd
        simp only [overlay, List.setIfInBounds_toArray, List.set, d7] at hK ⊢
        go_wp2_with fail
        exact hK _ _ X (Ext.refl _) kept_m hX rfl
      · refine ⟨_, 14, rfl, by kernel_rfl, ?_⟩
        intro u w9 X hE hX hd K hK
        have d8 : u 13 = .bool false := hd 8 (by kernel_rfl)
        clear hd
        simp only [overlay, List.setIfInBounds_toArray, List.set, d8] at hK ⊢
        go_wp2_with fail
        exact hK _ _ X (Ext.refl _) kept_m hX rfl
      · refine ⟨_, 15, rfl, by kernel_rfl, ?_⟩
        intro u w9 X hE hX hd K hK
        have d9 : u 14 = undef := hd 9 (by kernel_rfl)
        have d8 : u 13 = .bool false := hd 8 (by kernel_rfl)
        clear hd
        simp only [overlay, List.setIfInBounds_toArray, List.set, d9, d8] at hK ⊢
        go_wp2_with fail
        exact hK _ _ X (Ext.refl _) kept_m hX rfl
      · refine ⟨_, 16, rfl, by kernel_rfl, ?_⟩
        intro u w9 X hE hX hd K hK
        have d10 : u 15 = undef := hd 10 (by kernel_rfl)
        have d8 : u 13 = .bool false := hd 8 (by kernel_rfl)
        clear hd
        simp only [overlay, List.setIfInBounds_toArray, List.set, d10, d8] at hK ⊢
        go_wp2_with fail
        exact hK _ _ X (Ext.refl _) kept_m hX rfl
      · refine ⟨_, 17, rfl, by kernel_rfl, ?_⟩
        intro u w9 X hE hX hd K hK
        have d11 : u 16 = undef := hd 11 (by kernel_rfl)
        have d8 : u 13 = .bool false := hd 8 (by kernel_rfl)
        clear hd
        simp only [overlay, List.setIfInBounds_toArray, List.set, d11, d8] at hK ⊢
        go_wp2_with fail
        exact hK _ _ X (Ext.refl _) kept_m hX rfl
      · refine ⟨_, 18, rfl, by kernel_rfl, ?_⟩
        intro u w9 X hE hX hd K hK
        have d8 : u 13 = .bool false := hd 8 (by kernel_rfl)
        clear hd
        simp only [overlay, List.setIfInBounds_toArray, List.set, d8] at hK ⊢
        go_wp2_with fail
        exact hK _ _ X (Ext.refl _) kept_m hX rfl
      · refine ⟨_, 19, rfl, by kernel_rfl, ?_⟩
        intro u w9 X hE hX hd K hK
        have d13 : u 18 = undef := hd 13 (by kernel_rfl)
        have d8 : u 13 = .bool false := hd 8 (by kernel_rfl)
        clear hd
        simp only [overlay, List.setIfInBounds_toArray, List.set, d13, d8] at hK ⊢
        go_wp2_with fail
        exact hK _ _ X (Ext.refl _) kept_m hX rfl
      · refine ⟨_, 20, rfl, by kernel_rfl, ?_⟩
        intro u w9 X hE hX hd K hK
        have d14 : u 19 = undef := hd 14 (by kernel_rfl)
        have d8 : u 13 = .bool false := hd 8 (by kernel_rfl)
        clear hd
        simp only [overlay, List.setIfInBounds_toArray, List.set, d14, d8] at hK ⊢
        go_wp2_with fail
        exact hK _ _ X (Ext.refl _) kept_m hX rfl
      · refine ⟨_, 21, rfl, by kernel_rfl, ?_⟩
        intro u w9 X hE hX hd K hK
        have d15 : u 20 = undef := hd 15 (by kernel_rfl)
        have d8 : u 13 = .bool false := hd 8 (by kernel_rfl)
        clear hd
        simp only [overlay, List.setIfInBounds_toArray, List.set, d15, d8] at hK ⊢
        go_wp2_with fail
        exact hK _ _ X (Ext.refl _) kept_m hX rfl
      · refine ⟨_, 22, rfl, by kernel_rfl, ?_⟩
        intro u w9 X hE hX hd K hK
        have d12 : u 17 = undef := hd 12 (by kernel_rfl)
        have d16 : u 21 = undef := hd 16 (by kernel_rfl)
        have d8 : u 13 = .bool false := hd 8 (by kernel_rfl)
        clear hd
        simp only [overlay, List.setIfInBounds_toArray, List.set, d12, d16, d8] at hK ⊢
        go_wp2_with fail
        exact hK _ _ X (Ext.refl _) kept_m hX rfl
      · refine ⟨_, 23, rfl, by kernel_rfl, ?_⟩
        intro u w9 X hE hX hd K hK
        have d8 : u 13 = .bool false := hd 8 (by kernel_rfl)
        have d17 : u 22 = undef := hd 17 (by kernel_rfl)
        clear hd
        simp only [overlay, List.setIfInBounds_toArray, List.set, d8, d17] at hK ⊢
        go_wp2_with fail
        exact hK _ _ X (Ext.refl _) kept_m hX rfl
      · refine ⟨_, 24, rfl, by kernel_rfl, ?_⟩
        intro u w9 X hE hX hd K hK
        have d18 : u 23 = .bool false := hd 18 (by kernel_rfl)
        clear hd
        simp only [overlay, List.setIfInBounds_toArray, List.set, d18] at hK ⊢
        go_wp2_with fail
        exact hK _ _ X (Ext.refl _) kept_m hX rfl
      · refine ⟨_, 25, rfl, by kernel_rfl, ?_⟩
        intro u w9 X hE hX hd K hK
        have d19 : u 24 = .bool false := hd 19 (by kernel_rfl)
        clear hd
        simp only [overlay, List.setIfInBounds_toArray, List.set, d19] at hK ⊢
        go_wp2_with fail
        exact hK _ _ X (Ext.refl _) kept_m hX rfl
      · refine ⟨_, 26, rfl, by kernel_rfl, ?_⟩
        intro u w9 X hE hX hd K hK
        have d20 : u 25 = undef := hd 20 (by kernel_rfl)
        have d19 : u 24 = .bool false := hd 19 (by kernel_rfl)
        clear hd
        simp only [overlay, List.setIfInBounds_toArray, List.set, d20, d19] at hK ⊢
        go_wp2_with fail
        exact hK _ _ X (Ext.refl _) kept_m hX rfl
      · refine ⟨_, 27, rfl, by kernel_rfl, ?_⟩
        intro u w9 X hE hX hd K hK
        have d21 : u 26 = undef := hd 21 (by kernel_rfl)
        have d19 : u 24 = .bool false := hd 19 (by kernel_rfl)
        clear hd
        simp only [overlay, List.setIfInBounds_toArray, List.set, d21, d19] at hK ⊢
        go_wp2_with fail
        exact hK _ _ X (Ext.refl _) kept_m hX rfl
      · refine ⟨_, 28, rfl, by kernel_rfl, ?_⟩
        intro u w9 X hE hX hd K hK
        have d22 : u 27 = undef := hd 22 (by kernel_rfl)
        have d19 : u 24 = .bool false := hd 19 (by kernel_rfl)
        clear hd
        simp only [overlay, List.setIfInBounds_toArray, List.set, d22, d19] at hK ⊢
        go_wp2_with fail
        exact hK _ _ X (Ext.refl _) kept_m hX rfl
      · refine ⟨_, 29, rfl, by kernel_rfl, ?_⟩
        intro u w9 X hE hX hd K hK
        have d19 : u 24 = .bool false := hd 19 (by kernel_rfl)
        clear hd
        simp only [overlay, List.setIfInBounds_toArray, List.set, d19] at hK ⊢
        go_wp2_with fail
        exact hK _ _ X (Ext.refl _) kept_m hX rfl
      · refine ⟨_, 30, rfl, by kernel_rfl, ?_⟩
        intro u w9 X hE hX hd K hK
        have d24 : u 29 = undef := hd 24 (by kernel_rfl)
        have d19 : u 24 = .bool false := hd 19 (by kernel_rfl)
        clear hd
        simp only [overlay, List.setIfInBounds_toArray, List.set, d24, d19] at hK ⊢
        go_wp2_with fail
        exact hK _ _ X (Ext.refl _) kept_m hX rfl
      · refine ⟨_, 31, rfl, by kernel_rfl, ?_⟩
        intro u w9 X hE hX hd K hK
        have d25 : u 30 = undef := hd 25 (by kernel_rfl)
        have d19 : u 24 = .bool false := hd 19 (by kernel_rfl)
        clear hd
        simp only [overlay, List.setIfInBounds_toArray, List.set, d25, d19] at hK ⊢
        go_wp2_with fail
        exact hK _ _ X (Ext.refl _) kept_m hX rfl
      · refine ⟨_, 32, rfl, by kernel_rfl, ?_⟩
        intro u w9 X hE hX hd K hK
        have d26 : u 31 = undef := hd 26 (by kernel_rfl)
        have d19 : u 24 = .bool false := hd 19 (by kernel_rfl)
        clear hd
        simp only [overlay, List.setIfInBounds_toArray, List.set, d26, d19] at hK ⊢
        go_wp2_with fail
        exact hK _ _ X (Ext.refl _) kept_m hX rfl
      · refine ⟨_, 33, rfl, by kernel_rfl, ?_⟩
        intro u w9 X hE hX hd K hK
        have d23 : u 28 = undef := hd 23 (by kernel_rfl)
        have d27 : u 32 = undef := hd 27 (by kernel_rfl)
        have d19 : u 24 = .bool false := hd 19 (by kernel_rfl)
        clear hd
        simp only [overlay, List.setIfInBounds_toArray, List.set, d23, d27, d19] at hK ⊢
        go_wp2_with fail
        exact hK _ _ X (Ext.refl _) kept_m hX rfl
      · refine ⟨_, 34, rfl, by kernel_rfl, ?_⟩
        intro u w9 X hE hX hd K hK
        have d19 : u 24 = .bool false := hd 19 (by kernel_rfl)
        have d28 : u 33 = undef := hd 28 (by kernel_rfl)
        clear hd
        simp only [overlay, List.setIfInBounds_toArray, List.set, d19, d28] at hK ⊢
        go_wp2_with fail
        exact hK _ _ X (Ext.refl _) kept_m hX rfl
    · exact mem_nil_m
    intro u w9 X hE hX hd
    have d0 : u 5 = .slice pL nl cL := hd 0 (by decide)
    have d1 : u 6 = .int .i64 (nl : Int) := hd 1 (by decide)
    have d2 : u 7 = .bool true := hd 2 (by decide)
    have d3 : u 8 = .bool true := hd 3 (by decide)
    have d4 : u 9 = .slice pQ nq cQ := hd 4 (by decide)
    have d5 : u 10 = .int .i64 (nq : Int) := hd 5 (by decide)
    have d6 : u 11 = .bool false := hd 6 (by decide)
    have d7 : u 12 = .bool false := hd 7 (by decide)
    have d8 : u 13 = .bool false := hd 8 (by decide)
    have d9 : u 14 = undef := hd 9 (by decide)
    have d10 : u 15 = undef := hd 10 (by decide)
    have d11 : u 16 = undef := hd 11 (by decide)
    have d12 : u 17 = undef := hd 12 (by decide)
    have d13 : u 18 = undef := hd 13 (by decide)
    have d14 : u 19 = undef := hd 14 (by decide)
    have d15 : u 20 = undef := hd 15 (by decide)
    have d16 : u 21 = undef := hd 16 (by decide)
    have d17 : u 22 = undef := hd 17 (by decide)
    have d18 : u 23 = .bool false := hd 18 (by decide)
    have d19 : u 24 = .bool false := hd 19 (by decide)
    have d20 : u 25 = undef := hd 20 (by decide)
    have d21 : u 26 = undef := hd 21 (by decide)
    have d22 : u 27 = undef := hd 22 (by decide)
    have d23 : u 28 = undef := hd 23 (by decide)
    have d24 : u 29 = undef := hd 24 (by decide)
    have d25 : u 30 = undef := hd 25 (by decide)
    have d26 : u 31 = undef := hd 26 (by decide)
    have d27 : u 32 = undef := hd 27 (by decide)
    have d28 : u 33 = undef := hd 28 (by decide)
    have d29 : u 34 = .bool false := hd 29 (by decide)
    clear hd
    simp only [overlay, List.setIfInBounds_toArray, List.set, d0, d1, d2, d3, d4, d5, d6, d7, d8, d9, d10, d11, d12, d13, d14, d15, d16, d17, d18, d19, d20, d21, d22, d23, d24, d25, d26, d27, d28, d29]
    have e9 : Ext w w9 := (Ext.refl w).drew.trans hE
    clear d0 d1 d2 d3 d4 d5 d6 d7 d8 d9 d10 d11 d12 d13 d14 d15 d16 d17 d18 d19 d20 d21 d22 d23 d24 d25 d26 d27 d28 d29
    clear hX hE
    clear u
    obtain ⟨wk2, rfl⟩ : ∃ wx : World, wx = w9 := ⟨_, rfl⟩
    have hEF : Ext w wk2 := e9
    clear e9
    go_wp2_with fail
    refine OnlyN.mk ?_
    (try simp only [Exit.inBlock, Exit.then])
    go_wp2_with fail
    go_ret
    exact ⟨ret_bool (by rw [HV2.out]), hEF⟩
  have h2I : decide ((0 : Int) < (nq : Int)) = true := by simp; omega
  obtain ⟨bl, ol, x0, x1, x2, x3, rfl, g0, g1, g2, g3, hX⟩ := h.getD (j := 0) (by omega)
  obtain ⟨bq, oq, y0, y1, y2, y3, rfl, f0, f1, f2, f3, hY⟩ := hq.getD (j := 0) (by omega)
  rcases hlx : L.getD 0 default with ⟨kx, sx, nx, ix⟩
  rcases hqy : Q.getD 0 default with ⟨ky, sy, ny, iy⟩
  rw [hlx] at hX HV
  rw [hqy] at hY HV
  simp only [Arr.k, Arr.sh] at HV
  unfold ArrAt at hX hY
  obtain ⟨rfl, hkx, ⟨p1, m1, rfl, ⟨o1, o1', o1''⟩, i1⟩, _, _⟩ := hX
  obtain ⟨rfl, hky, ⟨p2, m2, rfl, ⟨o2, o2', o2''⟩, i2⟩, _, _⟩ := hY
  have HC := Lib.hid (And.intro (show w.cell? ⟨bl, ol, none⟩ = some (.int .i64 kx) by simpa using g0) (And.intro (show w.cell? ⟨bl, ol + 1, none⟩ = some (.slice p1 sx.length m1) by simpa using g1) (And.intro (show w.cell? ⟨bq, oq, none⟩ = some (.int .i64 ky) by simpa using f0) (show w.cell? ⟨bq, oq + 1, none⟩ = some (.slice p2 sy.length m2) by simpa using f1))))
  have HSH := Lib.hid (fun (w' : World) (e : Ext w w') => shapes_any F G p1 p2 m1 m2 sx sy w' (i1.ext e) (i2.ext e) (by unfold lenMax; omega) (by unfold lenMax; omega))
  have hd1 : decide (0 < nl) = true := by simp; omega
  have hd2 : decide (0 < nq) = true := by simp; omega
  rw [hd1, hd2] at HV
  generalize hsb : (sx == sy) = sb at *
  clear h hq hn hnq g0 g1 g2 g3 f0 f1 f2 f3 i1 i2 hlx hqy hd1 hd2 hsb
  by_cases h3 : kx = ky
  rotate_left
  · have h3b : (kx == ky) = false := by simpa using h3
    have HV2 : Hid (av = false) := by unfold Hid; rw [HV.out, h3b]; simp
    clear HV h3
    go_enter Try.func109, Try.ntmps109
    go_wp2_with fail
    refine wp_region_x1 (MProp.is (.slice (some ⟨bl, ol, none⟩) nl cL) :: MProp.is (.int .i64 (nl : Int)) :: MProp.is (.bool true) :: MProp.is (.bool true) :: MProp.is (.slice (some ⟨bq, oq, none⟩) nq cQ) :: MProp.is (.int .i64 (nq : Int)) :: MProp.is (.bool true) :: MProp.is (.bool true) :: MProp.is (.bool true) :: MProp.is (.slice (some ⟨bl, ol, none⟩) nl cL) :: MProp.is (.pointer (some ⟨bl, ol, none⟩)) :: MProp.is (.pointer (some ⟨bl, ol, none⟩)) :: MProp.is (.int .i64 kx) :: MProp.is (.slice (some ⟨bq, oq, none⟩) nq cQ) :: MProp.is (.pointer (some ⟨bq, oq, none⟩)) :: MProp.is (.pointer (some ⟨bq, oq, none⟩)) :: MProp.is (.int .i64 ky) :: MProp.is (.bool false) :: MProp.is (.bool false) :: MProp.is (.bool false) :: MProp.is (undef) :: MProp.is (undef) :: MProp.is (undef) :: MProp.is (undef) :: MProp.is (undef) :: MProp.is (undef) :: MProp.is (undef) :: MProp.is (undef) :: MProp.is (undef) :: MProp.is (.bool false) :: []) (0 :: 1 :: 2 :: 3 :: 4 :: 5 :: 6 :: 7 :: 8 :: 9 :: 10 :: 11 :: 12 :: 13 :: 14 :: 15 :: 16 :: 17 :: 18 :: 19 :: 20 :: 21 :: 22 :: 23 :: 24 :: 25 :: 26 :: 27 :: 28 :: 29 :: []) [] (5 :: 6 :: 7 :: 8 :: 9 :: 10 :: 11 :: 12 :: 13 :: 14 :: 15 :: 16 :: 17 :: 18 :: 19 :: 20 :: 21 :: 22 :: 23 :: 24 :: 25 :: 26 :: 27 :: 28 :: 29 :: 30 :: 31 :: 32 :: 33 :: 34 :: []) 30 (by kernel_rfl) (by kernel_rfl) (by kernel_rfl) rfl ?_ ?_ ?_
    · refine mem_cons_m ?_ (mem_cons_m ?_ (mem_cons_m ?_ (mem_cons_m ?_ (mem_cons_m ?_ (mem_cons_m ?_ (mem_cons_m ?_ (mem_cons_m ?_ (mem_cons_m ?_ (mem_cons_m ?_ (mem_cons_m ?_ (mem_cons_m ?_ (mem_cons_m ?_ (mem_cons_m ?_ (mem_cons_m ?_ (mem_cons_m ?_ (mem_cons_m ?_ (mem_cons_m ?_ (mem_cons_m ?_ (mem_cons_m ?_ (mem_cons_m ?_ (mem_cons_m ?_ (mem_cons_m ?_ (mem_cons_m ?_ (mem_cons_m ?_ (mem_cons_m ?_ (mem_cons_m ?_ (mem_cons_m ?_ (mem_cons_m ?_ (mem_cons_m ?_ (mem_nil_m))))))))))))))))))))))))))))))
      · refine ⟨_, 5, rfl, by kernel_rfl, ?_⟩
        intro u w9 X hE hX hd K hK
        clear hd
        simp only [overlay, List.setIfInBounds_toArray, List.set] at hK ⊢
        go_wp2_with fail
        exact hK _ _ X (Ext.refl _) kept_m hX rfl
      · refine ⟨_, 6, rfl, by kernel_rfl, ?_⟩
        intro u w9 X hE hX hd K hK
        have d0 : u 5 = .slice (some ⟨bl, ol, none⟩) nl cL := hd 0 (by kernel_rfl)
        clear hd
        simp only [overlay, List.setIfInBounds_toArray, List.set, d0] at hK ⊢
        go_wp2_with fail
        exact hK _ _ X (Ext.refl _) kept_m hX rfl
      · refine ⟨_, 7, rfl, by kernel_rfl, ?_⟩
        intro u w9 X hE hX hd K hK
        have d1 : u 6 = .int .i64 (nl : Int) := hd 1 (by kernel_rfl)
        clear hd
        simp only [overlay, List.setIfInBounds_toArray, List.set, d1] at hK ⊢
        go_wp2_with fail
        exact hK _ _ X (Ext.refl _) kept_m hX rfl
      · refine ⟨_, 8, rfl, by kernel_rfl, ?_⟩
        intro u w9 X hE hX hd K hK
        have d2 : u 7 = .bool true := hd 2 (by kernel_rfl)
        clear hd
        simp only [overlay, List.setIfInBounds_toArray, List.set, d2] at hK ⊢
        go_wp2_with fail
        exact hK _ _ X (Ext.refl _) kept_m hX rfl
      · refine ⟨_, 9, rfl, by kernel_rfl, ?_⟩
        intro u w9 X hE hX hd K hK
        have d3 : u 8 = .bool true := hd 3 (by kernel_rfl)
        clear hd
        simp only [overlay, List.setIfInBounds_toArray, List.set, d3] at hK ⊢
        go_wp2_with fail
        exact hK _ _ X (Ext.refl _) kept_m hX rfl
      · refine ⟨_, 10, rfl, by kernel_rfl, ?_⟩
        intro u w9 X hE hX hd K hK
        have d4 : u 9 = .slice (some ⟨bq, oq, none⟩) nq cQ := hd 4 (by kernel_rfl)
        have d3 : u 8 = .bool true := hd 3 (by kernel_rfl)
        clear hd
        simp only [overlay, List.setIfInBounds_toArray, List.set, d4, d3] at hK ⊢
        go_wp2_with fail
        exact hK _ _ X (Ext.refl _) kept_m hX rfl
      · refine ⟨_, 11, rfl, by kernel_rfl, ?_⟩
        intro u w9 X hE hX hd K hK
        have d5 : u 10 = .int .i64 (nq : Int) := hd 5 (by kernel_rfl)
        have d3 : u 8 = .bool true := hd 3 (by kernel_rfl)
        clear hd
        simp only [overlay, List.setIfInBounds_toArray, List.set, d5, d3] at hK ⊢
        go_wp2_with fail
        exact hK _ _ X (Ext.refl _) kept_m hX rfl
      · refine ⟨_, 12, rfl, by kernel_rfl, ?_⟩
        intro u w9 X hE hX hd K hK
        have d3 : u 8 = .bool true := hd 3 (by kernel_rfl)
        have d6 : u 11 = .bool true := hd 6 (by kernel_rfl)
        clear hd
        simp only [overlay, List.setIfInBounds_toArray, List.set, d3, d6] at hK ⊢
        go_wp2_with fail
        exact hK _ _ X (Ext.refl _) kept_m hX rfl
      · refine ⟨_, 13, rfl, by kernel_rfl, ?_⟩
        intro u w9 X hE hX hd K hK
        have d7 : u 12 = .bool true := hd 7 (by kernel_rfl)
        clear hd
        simp only [overlay, List.setIfInBounds_toArray, List.set, d7] at hK ⊢
        go_wp2_with fail
        exact hK _ _ X (Ext.refl _) kept_m hX rfl
      · refine ⟨_, 14, rfl, by kernel_rfl, ?_⟩
        intro u w9 X hE hX hd K hK
        have d8 : u 13 = .bool true := hd 8 (by kernel_rfl)
        clear hd
        simp only [overlay, List.setIfInBounds_toArray, List.set, d8] at hK ⊢
        go_wp2_with fail
        exact hK _ _ X (Ext.refl _) kept_m hX rfl
      · refine ⟨_, 15, rfl, by kernel_rfl, ?_⟩
        intro u w9 X hE hX hd K hK
        have d9 : u 14 = .slice (some ⟨bl, ol, none⟩) nl cL := hd 9 (by kernel_rfl)
        have d8 : u 13 = .bool true := hd 8 (by kernel_rfl)
        clear hd
        simp only [overlay, List.setIfInBounds_toArray, List.set, d9, d8] at hK ⊢
        go_wp2_with fail
        exact hK _ _ X (Ext.refl _) kept_m hX rfl
      · refine ⟨_, 16, rfl, by kernel_rfl, ?_⟩
        intro u w9 X hE hX hd K hK
        have d10 : u 15 = .pointer (some ⟨bl, ol, none⟩) := hd 10 (by kernel_rfl)
        have d8 : u 13 = .bool true := hd 8 (by kernel_rfl)
        clear hd
        simp only [overlay, List.setIfInBounds_toArray, List.set, d10, d8] at hK ⊢
        go_wp2_with fail
        exact hK _ _ X (Ext.refl _) kept_m hX rfl
      · refine ⟨_, 17, rfl, by kernel_rfl, ?_⟩
        intro u w9 X hE hX hd K hK
        have d11 : u 16 = .pointer (some ⟨bl, ol, none⟩) := hd 11 (by kernel_rfl)
        have d8 : u 13 = .bool true := hd 8 (by kernel_rfl)
        clear hd
        simp only [overlay, List.setIfInBounds_toArray, List.set, d11, d8] at hK ⊢
        have e9 : Ext w w9 := (Ext.refl w).drew.trans hE
        have a9 := e9.cell HC.out.1
        go_wp2_with fail
        exact hK _ _ X (Ext.refl _) kept_m hX rfl
      · refine ⟨_, 18, rfl, by kernel_rfl, ?_⟩
        intro u w9 X hE hX hd K hK
        have d8 : u 13 = .bool true := hd 8 (by kernel_rfl)
        clear hd
        simp only [overlay, List.setIfInBounds_toArray, List.set, d8] at hK ⊢
        go_wp2_with fail
        exact hK _ _ X (Ext.refl _) kept_m hX rfl
      · refine ⟨_, 19, rfl, by kernel_rfl, ?_⟩
        intro u w9 X hE hX hd K hK
        have d13 : u 18 = .slice (some ⟨bq, oq, none⟩) nq cQ := hd 13 (by kernel_rfl)
        have d8 : u 13 = .bool true := hd 8 (by kernel_rfl)
        clear hd
        simp only [overlay, List.setIfInBounds_toArray, List.set, d13, d8] at hK ⊢
        go_wp2_with fail
        exact hK _ _ X (Ext.refl _) kept_m hX rfl
      · refine ⟨_, 20, rfl, by kernel_rfl, ?_⟩
        intro u w9 X hE hX hd K hK
        have d14 : u 19 = .pointer (some ⟨bq, oq, none⟩) := hd 14 (by kernel_rfl)
        have d8 : u 13 = .bool true := hd 8 (by kernel_rfl)
        clear hd
        simp only [overlay, List.setIfInBounds_toArray, List.set, d14, d8] at hK ⊢
        go_wp2_with fail
        exact hK _ _ X (Ext.refl _) kept_m hX rfl
      · refine ⟨_, 21, rfl, by kernel_rfl, ?_⟩
        intro u w9 X hE hX hd K hK
        have d15 : u 20 = .pointer (some ⟨bq, oq, none⟩) := hd 15 (by kernel_rfl)
        have d8 : u 13 = .bool true := hd 8 (by kernel_rfl)
        clear hd
        simp only [overlay, List.setIfInBounds_toArray, List.set, d15, d8] at hK ⊢
        have e9 : Ext w w9 := (Ext.refl w).drew.trans hE
        have a9 := e9.cell HC.out.2.2.1
        go_wp2_with fail
        exact hK _ _ X (Ext.refl _) kept_m hX rfl
      · refine ⟨_, 22, rfl, by kernel_rfl, ?_⟩
        intro u w9 X hE hX hd K hK
        have d12 : u 17 = .int .i64 kx := hd 12 (by kernel_rfl)
        have d16 : u 21 = .int .i64 ky := hd 16 (by kernel_rfl)
        have d8 : u 13 = .bool true := hd 8 (by kernel_rfl)
        clear hd
        simp only [overlay, List.setIfInBounds_toArray, List.set, d12, d16, d8] at hK ⊢
        go_wp2_with fail
        exact hK _ _ X (Ext.refl _) kept_m hX rfl
      · refine ⟨_, 23, rfl, by kernel_rfl, ?_⟩
        intro u w9 X hE hX hd K hK
        have d8 : u 13 = .bool true := hd 8 (by kernel_rfl)
        have d17 : u 22 = .bool false := hd 17 (by kernel_rfl)
        clear hd
        simp only [overlay, List.setIfInBounds_toArray, List.set, d8, d17] at hK ⊢
        go_wp2_with fail
        exact hK _ _ X (Ext.refl _) kept_m hX rfl
      · refine ⟨_, 24, rfl, by kernel_rfl, ?_⟩
        intro u w9 X hE hX hd K hK
        have d18 : u 23 = .bool false := hd 18 (by kernel_rfl)
        clear hd
        simp only [overlay, List.setIfInBounds_toArray, List.set, d18] at hK ⊢
        go_wp2_with fail
        exact hK _ _ X (Ext.refl _) kept_m hX rfl
      · refine ⟨_, 25, rfl, by kernel_rfl, ?_⟩
        intro u w9 X hE hX hd K hK
        have d19 : u 24 = .bool false := hd 19 (by kernel_rfl)
        clear hd
        simp only [overlay, List.setIfInBounds_toArray, List.set, d19] at hK ⊢
        go_wp2_with fail
        exact hK _ _ X (Ext.refl _) kept_m hX rfl
      · refine ⟨_, 26, rfl, by kernel_rfl, ?_⟩
        intro u w9 X hE hX hd K hK
        have d20 : u 25 = undef := hd 20 (by kernel_rfl)
        have d19 : u 24 = .bool false := hd 19 (by kernel_rfl)
        clear hd
        simp only [overlay, List.setIfInBounds_toArray, List.set, d20, d19] at hK ⊢
        go_wp2_with fail
        exact hK _ _ X (Ext.refl _) kept_m hX rfl
      · refine ⟨_, 27, rfl, by kernel_rfl, ?_⟩
        intro u w9 X hE hX hd K hK
        have d21 : u 26 = undef := hd 21 (by kernel_rfl)
        have d19 : u 24 = .bool false := hd 19 (by kernel_rfl)
        clear hd
        simp only [overlay, List.setIfInBounds_toArray, List.set, d21, d19] at hK ⊢
        go_wp2_with fail
        exact hK _ _ X (Ext.refl _) kept_m hX rfl
      · refine ⟨_, 28, rfl, by kernel_rfl, ?_⟩
        intro u w9 X hE hX hd K hK
        have d22 : u 27 = undef := hd 22 (by kernel_rfl)
        have d19 : u 24 = .bool false := hd 19 (by kernel_rfl)
        clear hd
        simp only [overlay, List.setIfInBounds_toArray, List.set, d22, d19] at hK ⊢
        go_wp2_with fail
        exact hK _ _ X (Ext.refl _) kept_m hX rfl
      · refine ⟨_, 29, rfl, by kernel_rfl, ?_⟩
        intro u w9 X hE hX hd K hK
        have d19 : u 24 = .bool false := hd 19 (by kernel_rfl)
        clear hd
        simp only [overlay, List.setIfInBounds_toArray, List.set, d19] at hK ⊢
        go_wp2_with fail
        exact hK _ _ X (Ext.refl _) kept_m hX rfl
      · refine ⟨_, 30, rfl, by kernel_rfl, ?_⟩
        intro u w9 X hE hX hd K hK
        have d24 : u 29 = undef := hd 24 (by kernel_rfl)
        have d19 : u 24 = .bool false := hd 19 (by kernel_rfl)
        clear hd
        simp only [overlay, List.setIfInBounds_toArray, List.set, d24, d19] at hK ⊢
        go_wp2_with fail
        exact hK _ _ X (Ext.refl _) kept_m hX rfl
      · refine ⟨_, 31, rfl, by kernel_rfl, ?_⟩
        intro u w9 X hE hX hd K hK
        have d25 : u 30 = undef := hd 25 (by kernel_rfl)
        have d19 : u 24 = .bool false := hd 19 (by kernel_rfl)
        clear hd
        simp only [overlay, List.setIfInBounds_toArray, List.set, d25, d19] at hK ⊢
        go_wp2_with fail
        exact hK _ _ X (Ext.refl _) kept_m hX rfl
      · refine ⟨_, 32, rfl, by kernel_rfl, ?_⟩
        intro u w9 X hE hX hd K hK
        have d26 : u 31 = undef := hd 26 (by kernel_rfl)
        have d19 : u 24 = .bool false := hd 19 (by kernel_rfl)
        clear hd
        simp only [overlay, List.setIfInBounds_toArray, List.set, d26, d19] at hK ⊢
        go_wp2_with fail
        exact hK _ _ X (Ext.refl _) kept_m hX rfl
      · refine ⟨_, 33, rfl, by kernel_rfl, ?_⟩
        intro u w9 X hE hX hd K hK
        have d23 : u 28 = undef := hd 23 (by kernel_rfl)
        have d27 : u 32 = undef := hd 27 (by kernel_rfl)
        have d19 : u 24 = .bool false := hd 19 (by kernel_rfl)
        clear hd
        simp only [overlay, List.setIfInBounds_toArray, List.set, d23, d27, d19] at hK ⊢
        go_wp2_with fail
        exact hK _ _ X (Ext.refl _) kept_m hX rfl
      · refine ⟨_, 34, rfl, by kernel_rfl, ?_⟩
        intro u w9 X hE hX hd K hK
        have d19 : u 24 = .bool false := hd 19 (by kernel_rfl)
        have d28 : u 33 = undef := hd 28 (by kernel_rfl)
        clear hd
        simp only [overlay, List.setIfInBounds_toArray, List.set, d19, d28] at hK ⊢
        go_wp2_with fail
        exact hK _ _ X (Ext.refl _) kept_m hX rfl
    · exact mem_nil_m
    intro u w9 X hE hX hd
    have d0 : u 5 = .slice (some ⟨bl, ol, none⟩) nl cL := hd 0 (by decide)
    have d1 : u 6 = .int .i64 (nl : Int) := hd 1 (by decide)
    have d2 : u 7 = .bool true := hd 2 (by decide)
    have d3 : u 8 = .bool true := hd 3 (by decide)
    have d4 : u 9 = .slice (some ⟨bq, oq, none⟩) nq cQ := hd 4 (by decide)
    have d5 : u 10 = .int .i64 (nq : Int) := hd 5 (by decide)
    have d6 : u 11 = .bool true := hd 6 (by decide)
    have d7 : u 12 = .bool true := hd 7 (by decide)
    have d8 : u 13 = .bool true := hd 8 (by decide)
    have d9 : u 14 = .slice (some ⟨bl, ol, none⟩) nl cL := hd 9 (by decide)
    have d10 : u 15 = .pointer (some ⟨bl, ol, none⟩) := hd 10 (by decide)
    have d11 : u 16 = .pointer (some ⟨bl, ol, none⟩) := hd 11 (by decide)
    have d12 : u 17 = .int .i64 kx := hd 12 (by decide)
    have d13 : u 18 = .slice (some ⟨bq, oq, none⟩) nq cQ := hd 13 (by decide)
    have d14 : u 19 = .pointer (some ⟨bq, oq, none⟩) := hd 14 (by decide)
    have d15 : u 20 = .pointer (some ⟨bq, oq, none⟩) := hd 15 (by decide)
    have d16 : u 21 = .int .i64 ky := hd 16 (by decide)
    have d17 : u 22 = .bool false := hd 17 (by decide)
    have d18 : u 23 = .bool false := hd 18 (by decide)
    have d19 : u 24 = .bool false := hd 19 (by decide)
    have d20 : u 25 = undef := hd 20 (by decide)
    have d21 : u 26 = undef := hd 21 (by decide)
    have d22 : u 27 = undef := hd 22 (by decide)
    have d23 : u 28 = undef := hd 23 (by decide)
    have d24 : u 29 = undef := hd 24 (by decide)
    have d25 : u 30 = undef := hd 25 (by decide)
    have d26 : u 31 = undef := hd 26 (by decide)
    have d27 : u 32 = undef := hd 27 (by decide)
    have d28 : u 33 = undef := hd 28 (by decide)
    have d29 : u 34 = .bool false := hd 29 (by decide)
    clear hd
    simp only [overlay, List.setIfInBounds_toArray, List.set, d0, d1, d2, d3, d4, d5, d6, d7, d8, d9, d10, d11, d12, d13, d14, d15, d16, d17, d18, d19, d20, d21, d22, d23, d24, d25, d26, d27, d28, d29]
    have e9 : Ext w w9 := (Ext.refl w).drew.trans hE
    clear d0 d1 d2 d3 d4 d5 d6 d7 d8 d9 d10 d11 d12 d13 d14 d15 d16 d17 d18 d19 d20 d21 d22 d23 d24 d25 d26 d27 d28 d29
    clear hX hE
    generalize u 17 = t17z1
    generalize u 21 = t21z1
    clear u
    obtain ⟨wk2, rfl⟩ : ∃ wx : World, wx = w9 := ⟨_, rfl⟩
    have hEF : Ext w wk2 := e9
    clear e9
    go_wp2_with fail
    refine OnlyN.mk ?_
    (try simp only [Exit.inBlock, Exit.then])
    go_wp2_with fail
    go_ret
    exact ⟨ret_bool (by rw [HV2.out]), hEF⟩
  have h3b : (kx == ky) = true := by simpa using h3
  have HV2 : Hid (av = sb) := by unfold Hid; rw [HV.out, h3b]; simp
  clear HV h3
  go_enter Try.func109, Try.ntmps109
  go_wp2_with fail
  refine wp_region_x1 (MProp.is (.slice (some ⟨bl, ol, none⟩) nl cL) :: MProp.is (.int .i64 (nl : Int)) :: MProp.is (.bool true) :: MProp.is (.bool true) :: MProp.is (.slice (some ⟨bq, oq, none⟩) nq cQ) :: MProp.is (.int .i64 (nq : Int)) :: MProp.is (.bool true) :: MProp.is (.bool true) :: MProp.is (.bool true) :: MProp.is (.slice (some ⟨bl, ol, none⟩) nl cL) :: MProp.is (.pointer (some ⟨bl, ol, none⟩)) :: MProp.is (.pointer (some ⟨bl, ol, none⟩)) :: MProp.is (.int .i64 kx) :: MProp.is (.slice (some ⟨bq, oq, none⟩) nq cQ) :: MProp.is (.pointer (some ⟨bq, oq, none⟩)) :: MProp.is (.pointer (some ⟨bq, oq, none⟩)) :: MProp.is (.int .i64 ky) :: MProp.is (.bool true) :: MProp.is (.bool true) :: MProp.is (.bool true) :: MProp.is (.slice (some ⟨bl, ol, none⟩) nl cL) :: MProp.is (.pointer (some ⟨bl, ol, none⟩)) :: MProp.is (.pointer (some ⟨bl, ol + 1, none⟩)) :: MProp.is (.slice p1 sx.length m1) :: MProp.is (.slice (some ⟨bq, oq, none⟩) nq cQ) :: MProp.is (.pointer (some ⟨bq, oq, none⟩)) :: MProp.is (.pointer (some ⟨bq, oq + 1, none⟩)) :: MProp.is (.slice p2 sy.length m2) :: MProp.is (.bool sb) :: MProp.is (.bool sb) :: []) (0 :: 1 :: 2 :: 3 :: 4 :: 5 :: 6 :: 7 :: 8 :: 9 :: 10 :: 11 :: 12 :: 13 :: 14 :: 15 :: 16 :: 17 :: 18 :: 19 :: 20 :: 21 :: 22 :: 23 :: 24 :: 25 :: 26 :: 27 :: 28 :: 29 :: []) [] (5 :: 6 :: 7 :: 8 :: 9 :: 10 :: 11 :: 12 :: 13 :: 14 :: 15 :: 16 :: 17 :: 18 :: 19 :: 20 :: 21 :: 22 :: 23 :: 24 :: 25 :: 26 :: 27 :: 28 :: 29 :: 30 :: 31 :: 32 :: 33 :: 34 :: []) 30 (by kernel_rfl) (by kernel_rfl) (by kernel_rfl) rfl ?_ ?_ ?_
  · refine mem_cons_m ?_ (mem_cons_m ?_ (mem_cons_m ?_ (mem_cons_m ?_ (mem_cons_m ?_ (mem_cons_m ?_ (mem_cons_m ?_ (mem_cons_m ?_ (mem_cons_m ?_ (mem_cons_m ?_ (mem_cons_m ?_ (mem_cons_m ?_ (mem_cons_m ?_ (mem_cons_m ?_ (mem_cons_m ?_ (mem_cons_m ?_ (mem_cons_m ?_ (mem_cons_m ?_ (mem_cons_m ?_ (mem_cons_m ?_ (mem_cons_m ?_ (mem_cons_m ?_ (mem_cons_m ?_ (mem_cons_m ?_ (mem_cons_m ?_ (mem_cons_m ?_ (mem_cons_m ?_ (mem_cons_m ?_ (mem_cons_m ?_ (mem_cons_m ?_ (mem_nil_m))))))))))))))))))))))))))))))
    · refine ⟨_, 5, rfl, by kernel_rfl, ?_⟩
      intro u w9 X hE hX hd K hK
      clear hd
      simp only [overlay, List.setIfInBounds_toArray, List.set] at hK ⊢
      go_wp2_with fail
      exact hK _ _ X (Ext.refl _) kept_m hX rfl
    · refine ⟨_, 6, rfl, by kernel_rfl, ?_⟩
      intro u w9 X hE hX hd K hK
      have d0 : u 5 = .slice (some ⟨bl, ol, none⟩) nl cL := hd 0 (by kernel_rfl)
      clear hd
      simp only [overlay, List.setIfInBounds_toArray, List.set, d0] at hK ⊢
      go_wp2_with fail
      exact hK _ _ X (Ext.refl _) kept_m hX rfl
    · refine ⟨_, 7, rfl, by kernel_rfl, ?_⟩
      intro u w9 X hE hX hd K hK
      have d1 : u 6 = .int .i64 (nl : Int) := hd 1 (by kernel_rfl)
      clear hd
      simp only [overlay, List.setIfInBounds_toArray, List.set, d1] at hK ⊢
      go_wp2_with fail
      exact hK _ _ X (Ext.refl _) kept_m hX rfl
    · refine ⟨_, 8, rfl, by kernel_rfl, ?_⟩
      intro u w9 X hE hX hd K hK
      have d2 : u 7 = .bool true := hd 2 (by kernel_rfl)
      clear hd
      simp only [overlay, List.setIfInBounds_toArray, List.set, d2] at hK ⊢
      go_wp2_with fail
      exact hK _ _ X (Ext.refl _) kept_m hX rfl
    · refine ⟨_, 9, rfl, by kernel_rfl, ?_⟩
      intro u w9 X hE hX hd K hK
      have d3 : u 8 = .bool true := hd 3 (by kernel_rfl)
      clear hd
      simp only [overlay, List.setIfInBounds_toArray, List.set, d3] at hK ⊢
      go_wp2_with fail
      exact hK _ _ X (Ext.refl _) kept_m hX rfl
    · refine ⟨_, 10, rfl, by kernel_rfl, ?_⟩
      intro u w9 X hE hX hd K hK
      have d4 : u 9 = .slice (some ⟨bq, oq, none⟩) nq cQ := hd 4 (by kernel_rfl)
      have d3 : u 8 = .bool true := hd 3 (by kernel_rfl)
      clear hd
      simp only [overlay, List.setIfInBounds_toArray, List.set, d4, d3] at hK ⊢
      go_wp2_with fail
      exact hK _ _ X (Ext.refl _) kept_m hX rfl
    · refine ⟨_, 11, rfl, by kernel_rfl, ?_⟩
      intro u w9 X hE hX hd K hK
      have d5 : u 10 = .int .i64 (nq : Int) := hd 5 (by kernel_rfl)
      have d3 : u 8 = .bool true := hd 3 (by kernel_rfl)
      clear hd
      simp only [overlay, List.setIfInBounds_toArray, List.set, d5, d3] at hK ⊢
      go_wp2_with fail
      exact hK _ _ X (Ext.refl _) kept_m hX rfl
    · refine ⟨_, 12, rfl, by kernel_rfl, ?_⟩
      intro u w9 X hE hX hd K hK
      have d3 : u 8 = .bool true := hd 3 (by kernel_rfl)
      have d6 : u 11 = .bool true := hd 6 (by kernel_rfl)
      clear hd
      simp only [overlay, List.setIfInBounds_toArray, List.set, d3, d6] at hK ⊢
      go_wp2_with fail
      exact hK _ _ X (Ext.refl _) kept_m hX rfl
    · refine ⟨_, 13, rfl, by kernel_rfl, ?_⟩
      intro u w9 X hE hX hd K hK
      have d7 : u 12 = .bool true := hd 7 (by kernel_rfl)
      clear hd
      simp only [overlay, List.setIfInBounds_toArray, List.set, d7] at hK ⊢
      go_wp2_with fail
      exact hK _ _ X (Ext.refl _) kept_m hX rfl
    · refine ⟨_, 14, rfl, by kernel_rfl, ?_⟩
      intro u w9 X hE hX hd K hK
      have d8 : u 13 = .bool true := hd 8 (by kernel_rfl)
      clear hd
      simp only [overlay, List.setIfInBounds_toArray, List.set, d8] at hK ⊢
      go_wp2_with fail
      exact hK _ _ X (Ext.refl _) kept_m hX rfl
    · refine ⟨_, 15, rfl, by kernel_rfl, ?_⟩
      intro u w9 X hE hX hd K hK
      have d9 : u 14 = .slice (some ⟨bl, ol, none⟩) nl cL := hd 9 (by kernel_rfl)
      have d8 : u 13 = .bool true := hd 8 (by kernel_rfl)
      clear hd
      simp only [overlay, List.setIfInBounds_toArray, List.set, d9, d8] at hK ⊢
      go_wp2_with fail
      exact hK _ _ X (Ext.refl _) kept_m hX rfl
    · refine ⟨_, 16, rfl, by kernel_rfl, ?_⟩
      intro u w9 X hE hX hd K hK
      have d10 : u 15 = .pointer (some ⟨bl, ol, none⟩) := hd 10 (by kernel_rfl)
      have d8 : u 13 = .bool true := hd 8 (by kernel_rfl)
      clear hd
      simp only [overlay, List.setIfInBounds_toArray, List.set, d10, d8] at hK ⊢
      go_wp2_with fail
      exact hK _ _ X (Ext.refl _) kept_m hX rfl
    · refine ⟨_, 17, rfl, by kernel_rfl, ?_⟩
      intro u w9 X hE hX hd K hK
      have d11 : u 16 = .pointer (some ⟨bl, ol, none⟩) := hd 11 (by kernel_rfl)
      have d8 : u 13 = .bool true := hd 8 (by kernel_rfl)
      clear hd
      simp only [overlay, List.setIfInBounds_toArray, List.set, d11, d8] at hK ⊢
      have e9 : Ext w w9 := (Ext.refl w).drew.trans hE
      have a9 := e9.cell HC.out.1
      go_wp2_with fail
      exact hK _ _ X (Ext.refl _) kept_m hX rfl
    · refine ⟨_, 18, rfl, by kernel_rfl, ?_⟩
      intro u w9 X hE hX hd K hK
      have d8 : u 13 = .bool true := hd 8 (by kernel_rfl)
      clear hd
      simp only [overlay, List.setIfInBounds_toArray, List.set, d8] at hK ⊢
      go_wp2_with fail
      exact hK _ _ X (Ext.refl _) kept_m hX rfl
    · refine ⟨_, 19, rfl, by kernel_rfl, ?_⟩
      intro u w9 X hE hX hd K hK
      have d13 : u 18 = .slice (some ⟨bq, oq, none⟩) nq cQ := hd 13 (by kernel_rfl)
      have d8 : u 13 = .bool true := hd 8 (by kernel_rfl)
      clear hd
      simp only [overlay, List.setIfInBounds_toArray, List.set, d13, d8] at hK ⊢
      go_wp2_with fail
      exact hK _ _ X (Ext.refl _) kept_m hX rfl
    · refine ⟨_, 20, rfl, by kernel_rfl, ?_⟩
      intro u w9 X hE hX hd K hK
      have d14 : u 19 = .pointer (some ⟨bq, oq, none⟩) := hd 14 (by kernel_rfl)
      have d8 : u 13 = .bool true := hd 8 (by kernel_rfl)
      clear hd
      simp only [overlay, List.setIfInBounds_toArray, List.set, d14, d8] at hK ⊢
      go_wp2_with fail
      exact hK _ _ X (Ext.refl _) kept_m hX rfl
    · refine ⟨_, 21, rfl, by kernel_rfl, ?_⟩
      intro u w9 X hE hX hd K hK
      have d15 : u 20 = .pointer (some ⟨bq, oq, none⟩) := hd 15 (by kernel_rfl)
      have d8 : u 13 = .bool true := hd 8 (by kernel_rfl)
      clear hd
      simp only [overlay, List.setIfInBounds_toArray, List.set, d15, d8] at hK ⊢
      have e9 : Ext w w9 := (Ext.refl w).drew.trans hE
      have a9 := e9.cell HC.out.2.2.1
      go_wp2_with fail
      exact hK _ _ X (Ext.refl _) kept_m hX rfl
    · refine ⟨_, 22, rfl, by kernel_rfl, ?_⟩
      intro u w9 X hE hX hd K hK
      have d12 : u 17 = .int .i64 kx := hd 12 (by kernel_rfl)
      have d16 : u 21 = .int .i64 ky := hd 16 (by kernel_rfl)
      have d8 : u 13 = .bool true := hd 8 (by kernel_rfl)
      clear hd
      simp only [overlay, List.setIfInBounds_toArray, List.set, d12, d16, d8] at hK ⊢
      go_wp2_with fail
      exact hK _ _ X (Ext.refl _) kept_m hX rfl
    · refine ⟨_, 23, rfl, by kernel_rfl, ?_⟩
      intro u w9 X hE hX hd K hK
      have d8 : u 13 = .bool true := hd 8 (by kernel_rfl)
      have d17 : u 22 = .bool true := hd 17 (by kernel_rfl)
      clear hd
      simp only [overlay, List.setIfInBounds_toArray, List.set, d8, d17] at hK ⊢
      go_wp2_with fail
      exact hK _ _ X (Ext.refl _) kept_m hX rfl
    · refine ⟨_, 24, rfl, by kernel_rfl, ?_⟩
      intro u w9 X hE hX hd K hK
      have d18 : u 23 = .bool true := hd 18 (by kernel_rfl)
      clear hd
      simp only [overlay, List.setIfInBounds_toArray, List.set, d18] at hK ⊢
      go_wp2_with fail
      exact hK _ _ X (Ext.refl _) kept_m hX rfl
    · refine ⟨_, 25, rfl, by kernel_rfl, ?_⟩
      intro u w9 X hE hX hd K hK
      have d19 : u 24 = .bool true := hd 19 (by kernel_rfl)
      clear hd
      simp only [overlay, List.setIfInBounds_toArray, List.set, d19] at hK ⊢
      go_wp2_with fail
      exact hK _ _ X (Ext.refl _) kept_m hX rfl
    · refine ⟨_, 26, rfl, by kernel_rfl, ?_⟩
      intro u w9 X hE hX hd K hK
      have d20 : u 25 = .slice (some ⟨bl, ol, none⟩) nl cL := hd 20 (by kernel_rfl)
      have d19 : u 24 = .bool true := hd 19 (by kernel_rfl)
      clear hd
      simp only [overlay, List.setIfInBounds_toArray, List.set, d20, d19] at hK ⊢
      go_wp2_with fail
      exact hK _ _ X (Ext.refl _) kept_m hX rfl
    · refine ⟨_, 27, rfl, by kernel_rfl, ?_⟩
      intro u w9 X hE hX hd K hK
      have d21 : u 26 = .pointer (some ⟨bl, ol, none⟩) := hd 21 (by kernel_rfl)
      have d19 : u 24 = .bool true := hd 19 (by kernel_rfl)
      clear hd
      simp only [overlay, List.setIfInBounds_toArray, List.set, d21, d19] at hK ⊢
      go_wp2_with fail
      exact hK _ _ X (Ext.refl _) kept_m hX rfl
    · refine ⟨_, 28, rfl, by kernel_rfl, ?_⟩
      intro u w9 X hE hX hd K hK
      have d22 : u 27 = .pointer (some ⟨bl, ol + 1, none⟩) := hd 22 (by kernel_rfl)
      have d19 : u 24 = .bool true := hd 19 (by kernel_rfl)
      clear hd
      simp only [overlay, List.setIfInBounds_toArray, List.set, d22, d19] at hK ⊢
      have e9 : Ext w w9 := (Ext.refl w).drew.trans hE
      have a9 := e9.cell HC.out.2.1
      go_wp2_with fail
      exact hK _ _ X (Ext.refl _) kept_m hX rfl
    · refine ⟨_, 29, rfl, by kernel_rfl, ?_⟩
      intro u w9 X hE hX hd K hK
      have d19 : u 24 = .bool true := hd 19 (by kernel_rfl)
      clear hd
      simp only [overlay, List.setIfInBounds_toArray, List.set, d19] at hK ⊢
      go_wp2_with fail
      exact hK _ _ X (Ext.refl _) kept_m hX rfl
    · refine ⟨_, 30, rfl, by kernel_rfl, ?_⟩
      intro u w9 X hE hX hd K hK
      have d24 : u 29 = .slice (some ⟨bq, oq, none⟩) nq cQ := hd 24 (by kernel_rfl)
      have d19 : u 24 = .bool true := hd 19 (by kernel_rfl)
      clear hd
      simp only [overlay, List.setIfInBounds_toArray, List.set, d24, d19] at hK ⊢
      go_wp2_with fail
      exact hK _ _ X (Ext.refl _) kept_m hX rfl
    · refine ⟨_, 31, rfl, by kernel_rfl, ?_⟩
      intro u w9 X hE hX hd K hK
      have d25 : u 30 = .pointer (some ⟨bq, oq, none⟩) := hd 25 (by kernel_rfl)
      have d19 : u 24 = .bool true := hd 19 (by kernel_rfl)
      clear hd
      simp only [overlay, List.setIfInBounds_toArray, List.set, d25, d19] at hK ⊢
      go_wp2_with fail
      exact hK _ _ X (Ext.refl _) kept_m hX rfl
    · refine ⟨_, 32, rfl, by kernel_rfl, ?_⟩
      intro u w9 X hE hX hd K hK
      have d26 : u 31 = .pointer (some ⟨bq, oq + 1, none⟩) := hd 26 (by kernel_rfl)
      have d19 : u 24 = .bool true := hd 19 (by kernel_rfl)
      clear hd
      simp only [overlay, List.setIfInBounds_toArray, List.set, d26, d19] at hK ⊢
      have e9 : Ext w w9 := (Ext.refl w).drew.trans hE
      have a9 := e9.cell HC.out.2.2.2
      go_wp2_with fail
      exact hK _ _ X (Ext.refl _) kept_m hX rfl
    · refine ⟨_, 33, rfl, by kernel_rfl, ?_⟩
      intro u w9 X hE hX hd K hK
      have d23 : u 28 = .slice p1 sx.length m1 := hd 23 (by kernel_rfl)
      have d27 : u 32 = .slice p2 sy.length m2 := hd 27 (by kernel_rfl)
      have d19 : u 24 = .bool true := hd 19 (by kernel_rfl)
      clear hd
      simp only [overlay, List.setIfInBounds_toArray, List.set, d23, d27, d19] at hK ⊢
      have e9 : Ext w w9 := (Ext.refl w).drew.trans hE
      go_wp2_with fail
      refine (HSH.out w9 e9).mono ?_
      rintro e w8 ⟨rfl, hE8⟩
      go_wp2_with fail
      exact hK _ _ X hE8 kept_m (hX.ext hE8) rfl
    · refine ⟨_, 34, rfl, by kernel_rfl, ?_⟩
      intro u w9 X hE hX hd K hK
      have d19 : u 24 = .bool true := hd 19 (by kernel_rfl)
      have d28 : u 33 = .bool sb := hd 28 (by kernel_rfl)
      clear hd
      simp only [overlay, List.setIfInBounds_toArray, List.set, d19, d28] at hK ⊢
      go_wp2_with fail
      exact hK _ _ X (Ext.refl _) kept_m hX rfl
  · exact mem_nil_m
  intro u w9 X hE hX hd
  have d0 : u 5 = .slice (some ⟨bl, ol, none⟩) nl cL := hd 0 (by decide)
  have d1 : u 6 = .int .i64 (nl : Int) := hd 1 (by decide)
  have d2 : u 7 = .bool true := hd 2 (by decide)
  have d3 : u 8 = .bool true := hd 3 (by decide)
  have d4 : u 9 = .slice (some ⟨bq, oq, none⟩) nq cQ := hd 4 (by decide)
  have d5 : u 10 = .int .i64 (nq : Int) := hd 5 (by decide)
  have d6 : u 11 = .bool true := hd 6 (by decide)
  have d7 : u 12 = .bool true := hd 7 (by decide)
  have d8 : u 13 = .bool true := hd 8 (by decide)
  have d9 : u 14 = .slice (some ⟨bl, ol, none⟩) nl cL := hd 9 (by decide)
  have d10 : u 15 = .pointer (some ⟨bl, ol, none⟩) := hd 10 (by decide)
  have d11 : u 16 = .pointer (some ⟨bl, ol, none⟩) := hd 11 (by decide)
  have d12 : u 17 = .int .i64 kx := hd 12 (by decide)
  have d13 : u 18 = .slice (some ⟨bq, oq, none⟩) nq cQ := hd 13 (by decide)
  have d14 : u 19 = .pointer (some ⟨bq, oq, none⟩) := hd 14 (by decide)
  have d15 : u 20 = .pointer (some ⟨bq, oq, none⟩) := hd 15 (by decide)
  have d16 : u 21 = .int .i64 ky := hd 16 (by decide)
  have d17 : u 22 = .bool true := hd 17 (by decide)
  have d18 : u 23 = .bool true := hd 18 (by decide)
  have d19 : u 24 = .bool true := hd 19 (by decide)
  have d20 : u 25 = .slice (some ⟨bl, ol, none⟩) nl cL := hd 20 (by decide)
  have d21 : u 26 = .pointer (some ⟨bl, ol, none⟩) := hd 21 (by decide)
  have d22 : u 27 = .pointer (some ⟨bl, ol + 1, none⟩) := hd 22 (by decide)
  have d23 : u 28 = .slice p1 sx.length m1 := hd 23 (by decide)
  have d24 : u 29 = .slice (some ⟨bq, oq, none⟩) nq cQ := hd 24 (by decide)
  have d25 : u 30 = .pointer (some ⟨bq, oq, none⟩) := hd 25 (by decide)
  have d26 : u 31 = .pointer (some ⟨bq, oq + 1, none⟩) := hd 26 (by decide)
  have d27 : u 32 = .slice p2 sy.length m2 := hd 27 (by decide)
  have d28 : u 33 = .bool sb := hd 28 (by decide)
  have d29 : u 34 = .bool sb := hd 29 (by decide)
  clear hd
  simp only [overlay, List.setIfInBounds_toArray, List.set, d0, d1, d2, d3, d4, d5, d6, d7, d8, d9, d10, d11, d12, d13, d14, d15, d16, d17, d18, d19, d20, d21, d22, d23, d24, d25, d26, d27, d28, d29]
  have e9 : Ext w w9 := (Ext.refl w).drew.trans hE
  clear d0 d1 d2 d3 d4 d5 d6 d7 d8 d9 d10 d11 d12 d13 d14 d15 d16 d17 d18 d19 d20 d21 d22 d23 d24 d25 d26 d27 d28 d29
  clear hX hE
  generalize u 17 = t17z1
  generalize u 21 = t21z1
  generalize u 28 = t28z1
  generalize u 32 = t32z1
  clear u
  obtain ⟨wk2, rfl⟩ : ∃ wx : World, wx = w9 := ⟨_, rfl⟩
  have hEF : Ext w wk2 := e9
  clear e9
  go_wp2_with fail
  refine OnlyN.mk ?_
  (try simp only [Exit.inBlock, Exit.then])
  go_wp2_with fail
  go_ret
  exact ⟨ret_bool (by rw [HV2.out]), hEF⟩
end Go.Proofs.Ytgkemmdghmklfaa

namespace Go.Proofs.Ytgkemmdghmklfaa
set_option linter.unusedSimpArgs false
set_option linter.unusedVariables false
open Go.RowKit

theorem alike_no {L Q : List Arr} {k1 k2 : Int} {s1 s2 : List Int} (hL : ∀ t ∈ L, t.k = k1 ∧ t.sh = s1) (hQ : ∀ t ∈ Q, t.k = k2 ∧ t.sh = s2) (h : alikeV L Q = false) {q : Arr} (hq : q ∈ Q) : placeV L q = L.length := by
  unfold placeV
  rw [List.findIdx_eq_length]
  intro t ht
  by_cases hs : sameV t q = true
  · exfalso
    have e := (sameV_eq _ _).1 hs
    subst e
    have l1 : 0 < L.length := List.length_pos_of_mem ht
    have l2 : 0 < Q.length := List.length_pos_of_mem hq
    have m1 : L.getD 0 default ∈ L := by simp [List.getD, l1]
    have m2 : Q.getD 0 default ∈ Q := by simp [List.getD, l2]
    have a1 := hL _ m1
    have a2 := hQ _ m2
    have a3 := hL _ ht
    have a4 := hQ _ hq
    have : alikeV L Q = true := by
      unfold alikeV
      rw [a1.1, a1.2, a2.1, a2.2, ← a3.1, ← a4.1, ← a3.2, ← a4.2]
      simp [l1, l2]
    rw [this] at h
    cases h
  · simpa using hs
theorem cells_alike {x : Arr} (hr : rightV x = 0) (k : Int) : ∃ s, ∀ t ∈ cellsV x k, t.k = x.k ∧ t.sh = s := by
  obtain ⟨f, c, z, ok⟩ := cells_ok hr k
  refine ⟨x.sh.drop f, fun t ht => ?_⟩
  rw [ok.ce] at ht
  obtain ⟨i, hi, rfl⟩ := List.mem_map.1 ht
  have h := cell_facts hr ok (List.mem_range.1 hi)
  exact ⟨h.2.2.2, h.2.2.1⟩
theorem fresh_of_mkbX {B : Nat} {w0 w : World} {X : Nat → Prop} {b : Nat} {v1 v2 : Value} {s n : List Int} (h : MkB w0 w X b 1 v1 v2 (.slice none 0 0) n []) (hB : B ≤ w0.heap.size) {p : Option Addr} {c : Nat} (e1 : v1 = .slice p s.length c) (hk : SlOk s.length c) (hi : IntsAt (fun x => B ≤ x ∧ X x) w p s) :
    FreshN B w (.mk 1 s n []) (.int .i64 1) v1 v2 (.slice none 0 0) := by
  obtain ⟨o1, o2, o3, o4, o5⟩ := h.on
  exact ⟨rfl, rfl, rfl, by decide, by decide, ⟨o1, o2, ownsRow_base o3 hB, fun _ _ hx => hx, o5⟩, p, c, e1, hk, hi.mono fun x hx _ => ⟨⟨hx.1, fun e => o4 x e (.inl hx.2)⟩, rfl⟩⟩
def MProp.raa (B : Nat) (l : List Arr) : MProp := ⟨fun _ w v => RdAA B w l v, fun _ _ _ _ _ e _ h => by
  obtain ⟨p, c, h1, h2, h3⟩ := h
  exact ⟨p, c, h1, h2, h3.ext e⟩⟩
def MProp.rallS (l : List Int) : MProp := ⟨fun _ w v => RdAll w l v, fun _ _ _ _ _ e _ h => by
  obtain ⟨p, c, h1, h2, h3⟩ := h
  exact ⟨p, c, h1, h2, h3.ext e⟩⟩

set_option maxRecDepth 1000000 in
set_option maxHeartbeats 16000000 in
theorem rfind_any (F G : Nat → Prop) (x y : Arr) (c0 c1 c2 c3 d0 d1 d2 d3 : Value) (w : World) (hx : ArrAt F w x c0 c1 c2 c3) (hy : ArrAt G w y d0 d1 d2 d3) :
    Calls Try.prog 61 #[.agg #[c0, c1, c2, c3], .agg #[d0, d1, d2, d3]] w fun e w' => ∃ x0 x1 x2 x3, e = .returned (.tuple #[.agg #[x0, x1, x2, x3], .int .i64 (searchE x y)]) ∧ FreshN w.heap.size w' (searchV x y) x0 x1 x2 x3 ∧ Ext w w' := by
  have HEV : Hid (searchE x y = if rightV x ≠ 0 ∨ rightV y ≠ 0 then 1 else if y.sh.length < rankQ x then 15 else 0) := rfl
  have HVV : Hid (searchV x y = if searchE x y ≠ 0 then Arr.zero else .mk 1 (frameV y (rankQ x)) (findNums x y) []) := rfl
  have HRX := Lib.hid (fun (w1 : World) (e : Ext w w1) => rright6_any F x c0 c1 c2 c3 w1 (hx.ext e))
  have HRY := Lib.hid (fun (w1 : World) (e : Ext w w1) => rright6_any G y d0 d1 d2 d3 w1 (hy.ext e))
  have HQU := Lib.hid (fun (w1 : World) (e : Ext w w1) => queries_any F x c0 c1 c2 c3 w1 (hx.ext e))
  have HCX := Lib.hid (fun (w1 : World) (e : Ext w w1) => rcells_any F x c0 c1 c2 c3 (-1) w1 (hx.ext e) (by decide))
  have hrb : rankQ x ≤ 17592186044416 := by
    obtain ⟨k, s, n, it⟩ := x
    unfold ArrAt at hx
    obtain ⟨_, _, ⟨_, _, _, ⟨_, _, o⟩, _⟩, _⟩ := hx
    unfold rankQ
    simp only [Arr.sh]; omega
  have HCY := Lib.hid (fun (w1 : World) (e : Ext w w1) => rcells_any G y d0 d1 d2 d3 (rankQ x : Int) w1 (hy.ext e) (by omega))
  have HFR := Lib.hid (fun (w1 : World) (e : Ext w w1) => rframe_any G y d0 d1 d2 d3 (rankQ x : Int) w1 (hy.ext e) (by omega))
  have HZL := Lib.hid (fun (h : rightV x = 0) => cells_len h (-1))
  have HYL := Lib.hid (fun (h : rightV y = 0) => cells_len h (rankQ x : Int))
  have HAL := Lib.hid (fun (h1 : rightV x = 0) (h2 : rightV y = 0) (h : alikeV (cellsV x (-1)) (cellsV y (rankQ x : Int)) = false) (q : Arr) (hq : q ∈ cellsV y (rankQ x : Int)) => by
    obtain ⟨s1, e1⟩ := cells_alike h1 (-1)
    obtain ⟨s2, e2⟩ := cells_alike h2 (rankQ x : Int)
    exact alike_no e1 e2 h hq)
  have HFN : Hid (findNums x y = (cellsV y (rankQ x : Int)).map fun q => (placeV (cellsV x (-1)) q : Int)) := rfl
  generalize searchE x y = ev at *
  generalize searchV x y = vv at *
  generalize findNums x y = fn at *
  generalize rankQ x = rq at *
  generalize cellsV x (-1) = L at *
  generalize cellsV y (rq : Int) = Q at *
  generalize frameV y (rq : Int) = fr at *
  obtain ⟨kx, sx, nx, ix⟩ := x
  obtain ⟨ky, sy, ny, iy⟩ := y
  unfold ArrAt at hx hy
  obtain ⟨rfl, hkz, ⟨a1, e1, rfl, ⟨o1, o1', o1''⟩, i1⟩, ⟨a2, e2, rfl, ⟨o2, o2', o2''⟩, i2⟩, ⟨a3, e3, rfl, ⟨o3, o3', o3''⟩, i3⟩⟩ := hx
  obtain ⟨rfl, hky, ⟨p1, m1, rfl, ⟨r1, r1', r1''⟩, j1⟩, ⟨p2, m2, rfl, ⟨r2, r2', r2''⟩, j2⟩, ⟨p3, m3, rfl, ⟨r3, r3', r3''⟩, j3⟩⟩ := hy
  clear i1 i2 i3 j1 j2 j3 hkz hky o2 o2' o2'' o3 o3' o3'' r2 r2' r2'' r3 r3' r3''
  generalize rightV (.mk kx sx nx ix) = rz at *
  generalize rightV (.mk ky sy ny iy) = ry at *
  simp only [Arr.sh] at HEV
  go_enter Try.func61, Try.ntmps61
  have hE0 : Ext w (((w.alloc (.cells #[.int .i64 kx, .slice a1 sx.length e1, .slice a2 nx.length e2, .slice a3 ix.length e3] 26)).alloc (.cells #[.int .i64 ky, .slice p1 sy.length m1, .slice p2 ny.length m2, .slice p3 iy.length m3] 26)).alloc (.cells #[.int .i64 0, .slice none 0 0, .slice none 0 0, .slice none 0 0] 26)) := (((Ext.refl _).alloc _).alloc _).alloc _
  have hBX := (box_new w (.int .i64 kx) (.slice a1 sx.length e1) (.slice a2 nx.length e2) (.slice a3 ix.length e3)).ext (((Ext.refl _).alloc (.cells #[.int .i64 ky, .slice p1 sy.length m1, .slice p2 ny.length m2, .slice p3 iy.length m3] 26)).alloc (.cells #[.int .i64 0, .slice none 0 0, .slice none 0 0, .slice none 0 0] 26))
  have hBY := (box_new (w.alloc (.cells #[.int .i64 kx, .slice a1 sx.length e1, .slice a2 nx.length e2, .slice a3 ix.length e3] 26)) (.int .i64 ky) (.slice p1 sy.length m1) (.slice p2 ny.length m2) (.slice p3 iy.length m3)).ext ((Ext.refl _).alloc (.cells #[.int .i64 0, .slice none 0 0, .slice none 0 0, .slice none 0 0] 26))
  have hBT := box_new ((w.alloc (.cells #[.int .i64 kx, .slice a1 sx.length e1, .slice a2 nx.length e2, .slice a3 ix.length e3] 26)).alloc (.cells #[.int .i64 ky, .slice p1 sy.length m1, .slice p2 ny.length m2, .slice p3 iy.length m3] 26)) (.int .i64 0) (.slice none 0 0) (.slice none 0 0) (.slice none 0 0)
  simp only [World.size_alloc] at hBY hBT
  have HE := Lib.hid hE0
  have HBX := Lib.hid hBX
  have HBY := Lib.hid hBY
  have HBT := Lib.hid hBT
  clear hE0 hBX hBY hBT
  go_upto_region 1 with (fail)
  generalize (((w.alloc (.cells #[.int .i64 kx, .slice a1 sx.length e1, .slice a2 nx.length e2, .slice a3 ix.length e3] 26)).alloc (.cells #[.int .i64 ky, .slice p1 sy.length m1, .slice p2 ny.length m2, .slice p3 iy.length m3] 26)).alloc (.cells #[.int .i64 0, .slice none 0 0, .slice none 0 0, .slice none 0 0] 26)) = w1 at *
  obtain ⟨s0, s1, s2, s3⟩ := HBX.out.cell
  go_wp2_with fail
  refine (HRX.out w1 HE.out).mono ?_
  rintro e w2 ⟨rfl, hE1⟩
  replace HE := Lib.hid (HE.out.trans hE1)
  replace HBX := Lib.hid (HBX.out.ext hE1)
  replace HBY := Lib.hid (HBY.out.ext hE1)
  replace HBT := Lib.hid (HBT.out.ext hE1)
  clear hE1 s0 s1 s2 s3 HRX
  by_cases h1 : rz = 0
  rotate_left
  · have h1' : (rz != 0) = true := by simpa using h1
    have hev : ev = 1 := by rw [HEV.out, if_pos (.inl h1)]
    have HV2 : Hid (vv = Arr.zero) := by unfold Hid; rw [HVV.out, if_pos (by rw [hev]; decide)]
    have HEV2 := Lib.hid hev
    clear h1 hev HEV HVV HFN HCX HFR HCY HRY HZL HYL HAL HQU
    obtain ⟨t0, t1, t2, t3⟩ := HBT.out.cell
    have y0 := HBT.out.free 0
    have y1 := HBT.out.free 1
    have y2 := HBT.out.free 2
    have y3 := HBT.out.free 3
    go_wp2_with fail
    obtain ⟨g1, g2, g3⟩ := HBT.out.put4 HE.out (by omega) (.int .i64 0) (.slice none 0 0) (.slice none 0 0) (.slice none 0 0)
    revert g1 g2 g3
    generalize ((((w2.setCell ⟨w.heap.size + 1 + 1, 0, none⟩ (.int .i64 0)).setCell ⟨w.heap.size + 1 + 1, 1, none⟩ (.slice none 0 0)).setCell ⟨w.heap.size + 1 + 1, 2, none⟩ (.slice none 0 0)).setCell ⟨w.heap.size + 1 + 1, 3, none⟩ (.slice none 0 0)) = w9
    intro g1 g2 g3
    obtain ⟨z0, z1, z2, z3⟩ := g2.cell
    refine bodyPost_ret (v := .tuple #[.agg #[(.int .i64 0), (.slice none 0 0), (.slice none 0 0), (.slice none 0 0)], .int .i64 1]) ?_ rfl ⟨_, _, _, _, by rw [HEV2.out], by rw [HV2.out]; exact FreshN.zero _ _, g1⟩
    simp [results, Try.results61, go_sem, z0, z1, z2, z3]
  obtain ⟨t0, t1, t2, t3⟩ := HBY.out.cell
  go_wp2_with fail
  refine (HRY.out w2 HE.out).mono ?_
  rintro e w3 ⟨rfl, hE1⟩
  replace HE := Lib.hid (HE.out.trans hE1)
  replace HBX := Lib.hid (HBX.out.ext hE1)
  replace HBY := Lib.hid (HBY.out.ext hE1)
  replace HBT := Lib.hid (HBT.out.ext hE1)
  clear hE1 t0 t1 t2 t3 HRY
  by_cases h2 : ry = 0
  rotate_left
  · have h2' : (ry != 0) = true := by simpa using h2
    have hev : ev = 1 := by rw [HEV.out, if_pos (.inr h2)]
    have HV2 : Hid (vv = Arr.zero) := by unfold Hid; rw [HVV.out, if_pos (by rw [hev]; decide)]
    have HEV2 := Lib.hid hev
    clear h2 hev HEV HVV HFN HCX HFR HCY HZL HYL HAL HQU
    obtain ⟨t0, t1, t2, t3⟩ := HBT.out.cell
    have y0 := HBT.out.free 0
    have y1 := HBT.out.free 1
    have y2 := HBT.out.free 2
    have y3 := HBT.out.free 3
    go_wp2_with fail
    obtain ⟨g1, g2, g3⟩ := HBT.out.put4 HE.out (by omega) (.int .i64 0) (.slice none 0 0) (.slice none 0 0) (.slice none 0 0)
    revert g1 g2 g3
    generalize ((((w3.setCell ⟨w.heap.size + 1 + 1, 0, none⟩ (.int .i64 0)).setCell ⟨w.heap.size + 1 + 1, 1, none⟩ (.slice none 0 0)).setCell ⟨w.heap.size + 1 + 1, 2, none⟩ (.slice none 0 0)).setCell ⟨w.heap.size + 1 + 1, 3, none⟩ (.slice none 0 0)) = w9
    intro g1 g2 g3
    obtain ⟨z0, z1, z2, z3⟩ := g2.cell
    refine bodyPost_ret (v := .tuple #[.agg #[(.int .i64 0), (.slice none 0 0), (.slice none 0 0), (.slice none 0 0)], .int .i64 1]) ?_ rfl ⟨_, _, _, _, by rw [HEV2.out], by rw [HV2.out]; exact FreshN.zero _ _, g1⟩
    simp [results, Try.results61, go_sem, z0, z1, z2, z3]
  have HZL2 := Lib.hid (HZL.out h1)
  have HYL2 := Lib.hid (HYL.out h2)
  have HAL2 := Lib.hid (HAL.out h1 h2)
  have HEV2 : Hid (ev = if sy.length < rq then 15 else 0) := by unfold Hid; rw [HEV.out, if_neg (by rw [h1, h2]; simp)]; rfl
  subst h1
  subst h2
  clear HZL HYL HEV HAL
  obtain ⟨dlt, hdlt⟩ : ∃ dlt, dlt = decide (sy.length < rq) := ⟨_, rfl⟩
  have HDL : Hid (decide ((sy.length : Int) < (rq : Int)) = dlt) := by unfold Hid; rw [hdlt]; simp
  have HDL2 := Lib.hid hdlt
  clear hdlt
  go_upto_region 3 with (fail)
  refine wp_region_x0 [MProp.is (.pointer (some ⟨w.heap.size + 1, 1, none⟩)), MProp.is (.slice p1 sy.length m1), MProp.is (.int .i64 (sy.length : Int)), MProp.is (.agg #[.int .i64 kx, .slice a1 sx.length e1, .slice a2 nx.length e2, .slice a3 ix.length e3]), MProp.is (.int .i64 (rq : Int)), MProp.is (.bool dlt)] [0, 1, 2, 3, 4, 5] [] [21, 22, 23, 24, 25, 26] (by kernel_rfl) (by kernel_rfl) (by kernel_rfl) ?_ ?_ ?_
  · refine mem_cons_m ?_ (mem_cons_m ?_ (mem_cons_m ?_ (mem_cons_m ?_ (mem_cons_m ?_ (mem_cons_m ?_ (mem_nil_m))))))
    · refine ⟨_, 21, rfl, by kernel_rfl, ?_⟩
      intro u w9 X hE hX hd K hK
      clear hd
      simp only [overlay, List.setIfInBounds_toArray, List.set] at hK ⊢
      go_wp2_with fail
      exact hK _ _ X (Ext.refl _) kept_m hX rfl
    · refine ⟨_, 22, rfl, by kernel_rfl, ?_⟩
      intro u w9 X hE hX hd K hK
      have d0 : u 21 = .pointer (some ⟨w.heap.size + 1, 1, none⟩) := hd 0 (by kernel_rfl)
      clear hd
      simp only [overlay, List.setIfInBounds_toArray, List.set, d0] at hK ⊢
      have e9 : Ext w3 w9 := (Ext.refl w3).drew.trans hE
      obtain ⟨s0, s1, s2, s3⟩ := (HBY.out.ext e9).cell
      go_wp2_with fail
      exact hK _ _ X (Ext.refl _) kept_m hX rfl
    · refine ⟨_, 23, rfl, by kernel_rfl, ?_⟩
      intro u w9 X hE hX hd K hK
      have d1 : u 22 = .slice p1 sy.length m1 := hd 1 (by kernel_rfl)
      clear hd
      simp only [overlay, List.setIfInBounds_toArray, List.set, d1] at hK ⊢
      go_wp2_with fail
      exact hK _ _ X (Ext.refl _) kept_m hX rfl
    · refine ⟨_, 24, rfl, by kernel_rfl, ?_⟩
      intro u w9 X hE hX hd K hK
      clear hd
      simp only [overlay, List.setIfInBounds_toArray, List.set] at hK ⊢
      have e9 : Ext w3 w9 := (Ext.refl w3).drew.trans hE
      obtain ⟨s0, s1, s2, s3⟩ := (HBX.out.ext e9).cell
      go_wp2_with fail
      exact hK _ _ X (Ext.refl _) kept_m hX rfl
    · refine ⟨_, 25, rfl, by kernel_rfl, ?_⟩
      intro u w9 X hE hX hd K hK
      have d3 : u 24 = .agg #[.int .i64 kx, .slice a1 sx.length e1, .slice a2 nx.length e2, .slice a3 ix.length e3] := hd 3 (by kernel_rfl)
      clear hd
      simp only [overlay, List.setIfInBounds_toArray, List.set, d3] at hK ⊢
      have e9 : Ext w3 w9 := (Ext.refl w3).drew.trans hE
      go_wp2_with fail
      refine (HQU.out w9 (HE.out.trans e9)).mono ?_
      rintro e w8 ⟨rfl, hE8⟩
      go_wp2_with fail
      exact hK _ _ X hE8 kept_m (hX.ext hE8) rfl
    · refine ⟨_, 26, rfl, by kernel_rfl, ?_⟩
      intro u w9 X hE hX hd K hK
      have d2 : u 23 = .int .i64 (sy.length : Int) := hd 2 (by kernel_rfl)
      have d4 : u 25 = .int .i64 (rq : Int) := hd 4 (by kernel_rfl)
      clear hd
      simp only [overlay, List.setIfInBounds_toArray, List.set, d2, d4] at hK ⊢
      have hd9 := HDL.out
      go_wp2_with fail
      (try rw [hd9] at hK)
      exact hK _ _ X (Ext.refl _) kept_m hX (by first | rfl | (show Value.bool _ = Value.bool _; rw [HDL2.out]) | (show Value.bool _ = Value.bool _; rw [hd9]))
  · exact mem_nil_m
  intro u w9 X hE hX hd
  have d0 : u 21 = .pointer (some ⟨w.heap.size + 1, 1, none⟩) := hd 0 (by decide)
  have d1 : u 22 = .slice p1 sy.length m1 := hd 1 (by decide)
  have d2 : u 23 = .int .i64 (sy.length : Int) := hd 2 (by decide)
  have d3 : u 24 = .agg #[.int .i64 kx, .slice a1 sx.length e1, .slice a2 nx.length e2, .slice a3 ix.length e3] := hd 3 (by decide)
  have d4 : u 25 = .int .i64 (rq : Int) := hd 4 (by decide)
  have d5 : u 26 = .bool dlt := hd 5 (by decide)
  clear hd
  simp only [overlay, List.setIfInBounds_toArray, List.set, d0, d1, d2, d3, d4, d5]
  have e9 : Ext w3 w9 := (Ext.refl w3).drew.trans hE
  clear d0 d1 d2 d3 d4 d5
  clear hX hE
  try generalize u 22 = t22z1
  try generalize u 24 = t24z1
  try generalize u 26 = t26z1
  clear u
  obtain ⟨wk3, rfl⟩ : ∃ wx : World, wx = w9 := ⟨_, rfl⟩
  replace HE := Lib.hid (HE.out.trans e9)
  replace HBX := Lib.hid (HBX.out.ext e9)
  replace HBY := Lib.hid (HBY.out.ext e9)
  replace HBT := Lib.hid (HBT.out.ext e9)
  clear e9
  cases dlt with
  | true =>
    have h15 : sy.length < rq := by simpa using HDL2.out
    have hev : ev = 15 := by rw [HEV2.out, if_pos h15]
    have HV2 : Hid (vv = Arr.zero) := by unfold Hid; rw [HVV.out, if_pos (by rw [hev]; decide)]
    replace HEV2 := Lib.hid hev
    clear hev HVV HFN HCX HFR HCY HZL2 HYL2 HAL2 HQU
    obtain ⟨t0, t1, t2, t3⟩ := HBT.out.cell
    have y0 := HBT.out.free 0
    have y1 := HBT.out.free 1
    have y2 := HBT.out.free 2
    have y3 := HBT.out.free 3
    go_wp2_with fail
    obtain ⟨g1, g2, g3⟩ := HBT.out.put4 HE.out (by omega) (.int .i64 0) (.slice none 0 0) (.slice none 0 0) (.slice none 0 0)
    revert g1 g2 g3
    generalize ((((wk3.setCell ⟨w.heap.size + 1 + 1, 0, none⟩ (.int .i64 0)).setCell ⟨w.heap.size + 1 + 1, 1, none⟩ (.slice none 0 0)).setCell ⟨w.heap.size + 1 + 1, 2, none⟩ (.slice none 0 0)).setCell ⟨w.heap.size + 1 + 1, 3, none⟩ (.slice none 0 0)) = w9
    intro g1 g2 g3
    obtain ⟨z0, z1, z2, z3⟩ := g2.cell
    refine bodyPost_ret (v := .tuple #[.agg #[(.int .i64 0), (.slice none 0 0), (.slice none 0 0), (.slice none 0 0)], .int .i64 15]) ?_ rfl ⟨_, _, _, _, by rw [HEV2.out], by rw [HV2.out]; exact FreshN.zero _ _, g1⟩
    simp [results, Try.results61, go_sem, z0, z1, z2, z3]
  | false =>
  have h15 : ¬ sy.length < rq := by simpa using HDL2.out
  have hev : ev = 0 := by rw [HEV2.out, if_neg h15]
  have HV2 : Hid (vv = .mk 1 fr fn []) := by unfold Hid; rw [HVV.out, if_neg (by rw [hev]; decide)]
  replace HEV2 := Lib.hid hev
  obtain ⟨hL6, _⟩ := HZL2.out
  obtain ⟨hQ6, _⟩ := HYL2.out
  obtain ⟨nl, hnl⟩ : ∃ nl, L.length = nl := ⟨_, rfl⟩
  obtain ⟨ql, hql⟩ : ∃ ql, Q.length = ql := ⟨_, rfl⟩
  have HFL : Hid (fn.length = ql) := by unfold Hid; rw [HFN.out, List.length_map, hql]
  have HFG : Hid (∀ j, j < ql → fn.getD j 0 = (placeV L (Q.getD j default) : Int)) := fun j hj => by
    rw [HFN.out]; simp [List.getD, show j < Q.length by omega]
  rw [hnl] at hL6
  rw [hql] at hQ6
  have HNL := Lib.hid hnl
  have HQL := Lib.hid hql
  clear hev HVV HFN hnl hql HZL2 HYL2 HDL HDL2
  obtain ⟨s0, s1, s2, s3⟩ := HBX.out.cell
  go_wp2_with fail
  refine (HCX.out wk3 HE.out).mono ?_
  rintro e w4 ⟨v, rfl, ⟨pL, cL, rfl, hkL, hiL⟩, hE1⟩
  rw [HNL.out]
  replace HE := Lib.hid (HE.out.trans hE1)
  replace HBX := Lib.hid (HBX.out.ext hE1)
  replace HBY := Lib.hid (HBY.out.ext hE1)
  replace HBT := Lib.hid (HBT.out.ext hE1)
  have HIL := Lib.hid hiL
  clear hE1 s0 s1 s2 s3 HCX hkL hiL
  go_upto_region 6 with (fail)
  refine wp_region_x1 [MProp.is (.agg #[.int .i64 ky, .slice p1 sy.length m1, .slice p2 ny.length m2, .slice p3 iy.length m3]), MProp.is (.agg #[.int .i64 kx, .slice a1 sx.length e1, .slice a2 nx.length e2, .slice a3 ix.length e3]), MProp.is (.int .i64 (rq : Int)), MProp.raa w4.heap.size Q] [0, 1, 2, 3] [] [30, 31, 32, 33] 4 (by kernel_rfl) (by kernel_rfl) (by kernel_rfl) rfl ?_ ?_ ?_
  · refine mem_cons_m ?_ (mem_cons_m ?_ (mem_cons_m ?_ (mem_cons_m ?_ (mem_nil_m))))
    · refine ⟨_, 30, rfl, by kernel_rfl, ?_⟩
      intro u w9 X hE hX hd K hK
      clear hd
      simp only [overlay, List.setIfInBounds_toArray, List.set] at hK ⊢
      have e9 : Ext w4 w9 := (Ext.refl w4).drew.trans hE
      obtain ⟨s0, s1, s2, s3⟩ := (HBY.out.ext e9).cell
      go_wp2_with fail
      exact hK _ _ X (Ext.refl _) kept_m hX rfl
    · refine ⟨_, 31, rfl, by kernel_rfl, ?_⟩
      intro u w9 X hE hX hd K hK
      clear hd
      simp only [overlay, List.setIfInBounds_toArray, List.set] at hK ⊢
      have e9 : Ext w4 w9 := (Ext.refl w4).drew.trans hE
      obtain ⟨s0, s1, s2, s3⟩ := (HBX.out.ext e9).cell
      go_wp2_with fail
      exact hK _ _ X (Ext.refl _) kept_m hX rfl
    · refine ⟨_, 32, rfl, by kernel_rfl, ?_⟩
      intro u w9 X hE hX hd K hK
      have d1 : u 31 = .agg #[.int .i64 kx, .slice a1 sx.length e1, .slice a2 nx.length e2, .slice a3 ix.length e3] := hd 1 (by kernel_rfl)
      clear hd
      simp only [overlay, List.setIfInBounds_toArray, List.set, d1] at hK ⊢
      have e9 : Ext w4 w9 := (Ext.refl w4).drew.trans hE
      go_wp2_with fail
      refine (HQU.out w9 (HE.out.trans e9)).mono ?_
      rintro e w8 ⟨rfl, hE8⟩
      go_wp2_with fail
      exact hK _ _ X hE8 kept_m (hX.ext hE8) rfl
    · refine ⟨_, 33, rfl, by kernel_rfl, ?_⟩
      intro u w9 X hE hX hd K hK
      have d0 : u 30 = .agg #[.int .i64 ky, .slice p1 sy.length m1, .slice p2 ny.length m2, .slice p3 iy.length m3] := hd 0 (by kernel_rfl)
      have d2 : u 32 = .int .i64 (rq : Int) := hd 2 (by kernel_rfl)
      clear hd
      simp only [overlay, List.setIfInBounds_toArray, List.set, d0, d2] at hK ⊢
      have e9 : Ext w4 w9 := (Ext.refl w4).drew.trans hE
      go_wp2_with fail
      refine (HCY.out w9 (HE.out.trans e9)).mono ?_
      rintro e w8 ⟨v8, rfl, ⟨p8, c8, rfl, hk8, hi8⟩, hE8⟩
      go_wp2_with fail
      exact hK _ _ X hE8 kept_m (hX.ext hE8) ⟨p8, c8, rfl, hk8, ItemsAt.mono (fun b hb _ => ⟨Nat.le_trans e9.lt hb, rfl⟩) _ _ _ hi8⟩
  · exact mem_nil_m
  intro u w9 X hE hX hd
  have d0 : u 30 = .agg #[.int .i64 ky, .slice p1 sy.length m1, .slice p2 ny.length m2, .slice p3 iy.length m3] := hd 0 (by decide)
  have d1 : u 31 = .agg #[.int .i64 kx, .slice a1 sx.length e1, .slice a2 nx.length e2, .slice a3 ix.length e3] := hd 1 (by decide)
  have d2 : u 32 = .int .i64 (rq : Int) := hd 2 (by decide)
  have d3 : RdAA w4.heap.size w9 Q (u 33) := hd 3 (by decide)
  clear hd
  simp only [overlay, List.setIfInBounds_toArray, List.set, d0, d1, d2]
  have e9 : Ext w4 w9 := (Ext.refl w4).drew.trans hE
  obtain ⟨pQ, cQ, hvq, hkQ, hiQ⟩ := d3
  simp only [hvq]
  clear d0 d1 d2 hvq
  clear hX hE
  try generalize u 30 = t30z1
  try generalize u 31 = t31z1
  try generalize u 33 = t33z1
  clear u
  obtain ⟨wk6, rfl⟩ : ∃ wx : World, wx = w9 := ⟨_, rfl⟩
  replace HE := Lib.hid (HE.out.trans e9)
  replace HBX := Lib.hid (HBX.out.ext e9)
  replace HBY := Lib.hid (HBY.out.ext e9)
  replace HBT := Lib.hid (HBT.out.ext e9)
  replace HIL := Lib.hid (HIL.out.ext e9)
  clear e9
  go_wp2_with fail
  refine OnlyN.mk ?_
  (try simp only [Exit.inBlock, Exit.then])
  rw [HQL.out]
  have HIQ := Lib.hid (ItemsAt.mono (G := fun _ => True) (w' := wk6) (fun b _ _ => ⟨trivial, rfl⟩) _ _ _ hiQ)
  clear hkQ hiQ HCY
  go_upto_region 7 with (fail)
  refine wp_region_x1 [MProp.row wk6.heap.size 0 [], MProp.is (.agg #[.int .i64 ky, .slice p1 sy.length m1, .slice p2 ny.length m2, .slice p3 iy.length m3]), MProp.is (.agg #[.int .i64 kx, .slice a1 sx.length e1, .slice a2 nx.length e2, .slice a3 ix.length e3]), MProp.is (.int .i64 (rq : Int)), MProp.rallS fr, MProp.own wk6.heap.size fr, MProp.ownAgg wk6.heap.size 1 fr, MProp.box] [0, 1, 2, 3, 4, 5, 6, 7] [] [34, 35, 36, 37, 38, 39, 40, 8] 8 (by kernel_rfl) (by kernel_rfl) (by kernel_rfl) rfl ?_ ?_ ?_
  · refine mem_cons_m ?_ (mem_cons_m ?_ (mem_cons_m ?_ (mem_cons_m ?_ (mem_cons_m ?_ (mem_cons_m ?_ (mem_cons_m ?_ (mem_cons_m ?_ (mem_nil_m))))))))
    · refine ⟨_, 34, rfl, by kernel_rfl, ?_⟩
      intro u w9 X hE hX hd K hK
      clear hd
      simp only [overlay, List.setIfInBounds_toArray, List.set] at hK ⊢
      have hlt' : wk6.heap.size ≤ w9.heap.size := hE.lt
      go_wp2_with fail
      exact hK _ _ X ((Ext.refl _).alloc _) kept_m (hX.ext ((Ext.refl _).alloc _)) ⟨_, rfl, rowI_new' w9 [], hlt', fun hx => by have := (hX _ hx).2; omega⟩
    · refine ⟨_, 35, rfl, by kernel_rfl, ?_⟩
      intro u w9 X hE hX hd K hK
      clear hd
      simp only [overlay, List.setIfInBounds_toArray, List.set] at hK ⊢
      have e9 : Ext wk6 w9 := (Ext.refl wk6).drew.trans hE
      obtain ⟨s0, s1, s2, s3⟩ := (HBY.out.ext e9).cell
      go_wp2_with fail
      exact hK _ _ X (Ext.refl _) kept_m hX rfl
    · refine ⟨_, 36, rfl, by kernel_rfl, ?_⟩
      intro u w9 X hE hX hd K hK
      clear hd
      simp only [overlay, List.setIfInBounds_toArray, List.set] at hK ⊢
      have e9 : Ext wk6 w9 := (Ext.refl wk6).drew.trans hE
      obtain ⟨s0, s1, s2, s3⟩ := (HBX.out.ext e9).cell
      go_wp2_with fail
      exact hK _ _ X (Ext.refl _) kept_m hX rfl
    · refine ⟨_, 37, rfl, by kernel_rfl, ?_⟩
      intro u w9 X hE hX hd K hK
      have d2 : u 36 = .agg #[.int .i64 kx, .slice a1 sx.length e1, .slice a2 nx.length e2, .slice a3 ix.length e3] := hd 2 (by kernel_rfl)
      clear hd
      simp only [overlay, List.setIfInBounds_toArray, List.set, d2] at hK ⊢
      have e9 : Ext wk6 w9 := (Ext.refl wk6).drew.trans hE
      go_wp2_with fail
      refine (HQU.out w9 (HE.out.trans e9)).mono ?_
      rintro e w8 ⟨rfl, hE8⟩
      go_wp2_with fail
      exact hK _ _ X hE8 kept_m (hX.ext hE8) rfl
    · refine ⟨_, 38, rfl, by kernel_rfl, ?_⟩
      intro u w9 X hE hX hd K hK
      have d1 : u 35 = .agg #[.int .i64 ky, .slice p1 sy.length m1, .slice p2 ny.length m2, .slice p3 iy.length m3] := hd 1 (by kernel_rfl)
      have d3 : u 37 = .int .i64 (rq : Int) := hd 3 (by kernel_rfl)
      clear hd
      simp only [overlay, List.setIfInBounds_toArray, List.set, d1, d3] at hK ⊢
      have e9 : Ext wk6 w9 := (Ext.refl wk6).drew.trans hE
      go_wp2_with fail
      refine (HFR.out w9 (HE.out.trans e9)).mono ?_
      rintro e w8 ⟨v8, rfl, ⟨p8, c8, rfl, hk8, hi8⟩, hE8⟩
      go_wp2_with fail
      exact hK _ _ X hE8 kept_m (hX.ext hE8) ⟨p8, c8, rfl, hk8, hi8⟩
    · refine ⟨_, 39, rfl, by kernel_rfl, ?_⟩
      intro u w9 X hE hX hd K hK
      have d0 : ∃ g, u 34 = .slice (some ⟨g, 0, none⟩) 0 0 ∧ RowI w9 g [] ∧ wk6.heap.size ≤ g ∧ ¬ X g := hd 0 (by kernel_rfl)
      have d4 : RdAll w9 fr (u 38) := hd 4 (by kernel_rfl)
      clear hd
      simp only [overlay, List.setIfInBounds_toArray, List.set] at hK ⊢
      have hlt' : wk6.heap.size ≤ w9.heap.size := hE.lt
      obtain ⟨g9, hv9, hr2, hb2, hx2⟩ := d0
      obtain ⟨p8, c8, hv8, hk8, hi8⟩ := d4
      simp only [hv9, hv8] at hK ⊢
      refine wpList_append_zero rfl _ _ rfl _ wk6.heap.size X g9 p8 c8 fr rfl hr2 hb2 hx2 rfl hi8 (fun b hb => (hX b hb).2) hk8.2.2 hlt' ?_
      intro v' w' hO hE'
      obtain ⟨pv, cv, rfl, hcv⟩ := hO.form
      exact hK _ _ X hE' kept_m (hX.ext hE') ⟨pv, cv, rfl, hO⟩
    · refine ⟨_, 40, rfl, by kernel_rfl, ?_⟩
      intro u w9 X hE hX hd K hK
      have d5 : ∃ p c, u 39 = .slice p fr.length c ∧ OwnI wk6.heap.size X w9 (.slice p fr.length c) fr.length fr := hd 5 (by kernel_rfl)
      clear hd
      simp only [overlay, List.setIfInBounds_toArray, List.set] at hK ⊢
      obtain ⟨pv, cv, hv3, hO3⟩ := d5
      simp only [hv3] at hK ⊢
      go_wp2_with fail
      exact hK _ _ X (Ext.refl _) kept_m hX ⟨pv, cv, rfl, hO3⟩
    · refine ⟨_, 8, rfl, by kernel_rfl, ?_⟩
      intro u w9 X hE hX hd K hK
      clear hd
      simp only [overlay, List.setIfInBounds_toArray, List.set] at hK ⊢
      go_wp2_with fail
      exact hK _ _ (fun b => X b ∨ b = w9.heap.size) ((Ext.refl _).alloc _) added_m (hX.add hE _) ⟨_, rfl, box_new _ _ _ _ _, .inr rfl⟩
  · exact mem_nil_m
  intro u w9 X hE hX hd
  have d0 : ∃ g, u 34 = .slice (some ⟨g, 0, none⟩) 0 0 ∧ RowI w9 g [] ∧ wk6.heap.size ≤ g ∧ ¬ X g := hd 0 (by decide)
  have d1 : u 35 = .agg #[.int .i64 ky, .slice p1 sy.length m1, .slice p2 ny.length m2, .slice p3 iy.length m3] := hd 1 (by decide)
  have d2 : u 36 = .agg #[.int .i64 kx, .slice a1 sx.length e1, .slice a2 nx.length e2, .slice a3 ix.length e3] := hd 2 (by decide)
  have d3 : u 37 = .int .i64 (rq : Int) := hd 3 (by decide)
  have d4 : RdAll w9 fr (u 38) := hd 4 (by decide)
  have d5 : ∃ p c, u 39 = .slice p fr.length c ∧ OwnI wk6.heap.size X w9 (.slice p fr.length c) fr.length fr := hd 5 (by decide)
  have d6 : ∃ p c, u 40 = .agg #[.int .i64 1, .slice p fr.length c, .slice none 0 0, .slice none 0 0] ∧ OwnI wk6.heap.size X w9 (.slice p fr.length c) fr.length fr := hd 6 (by decide)
  have d7 : ∃ b, u 8 = .pointer (some ⟨b, 0, none⟩) ∧ Box4 w9 b (.int .i64 0) (.slice none 0 0) (.slice none 0 0) (.slice none 0 0) ∧ X b := hd 7 (by decide)
  clear hd
  simp only [overlay, List.setIfInBounds_toArray, List.set, d1, d2, d3]
  obtain ⟨bo, hvb, hbox, hxb⟩ := d7
  obtain ⟨ps, cs, hva, hOs⟩ := d6
  have hbo := hX bo hxb
  simp only [hvb, hva]
  obtain ⟨q0, q1, q2, q3⟩ := hbox.cell
  have f0 := hbox.free 0
  have f1 := hbox.free 1
  have f2 := hbox.free 2
  have f3 := hbox.free 3
  have e9 := (Ext.refl wk6).drew.trans hE
  obtain ⟨gg1, gg2, gg3⟩ := hbox.put4 e9 hbo.1 (.int .i64 1) (.slice ps fr.length cs) (.slice none 0 0) (.slice none 0 0)
  have hOs2 := hOs.same (Y := fun x => x = bo) (w' := (((w9.setCell ⟨bo, 0, none⟩ (.int .i64 1)).setCell ⟨bo, 1, none⟩ (.slice ps fr.length cs)).setCell ⟨bo, 2, none⟩ (.slice none 0 0)).setCell ⟨bo, 3, none⟩ (.slice none 0 0)) (fun q _ _ hne => ⟨gg3 q (fun e => hne (by rw [e]; exact hxb)), fun e => hne (by rw [e]; exact hxb)⟩)
  have HGG := Lib.hid (And.intro gg1 (And.intro gg2 hOs2))
  have HBL := Lib.hid (show wk6.heap.size ≤ bo from hbo.1)
  clear d0 d1 d2 d3 d4 d5 gg1 gg2 gg3 hOs2 hOs hbox hbo e9 hX hE
  generalize u 34 = z34 at *
  generalize u 38 = z38 at *
  generalize u 39 = z39 at *
  generalize u 40 = z40 at *
  generalize u 8 = z8 at *
  clear hvb hva
  clear u
  go_wp2_with fail
  refine OnlyN.mk ?_
  obtain ⟨gg1, gg2, hOs⟩ := HGG.out
  clear HGG q0 q1 q2 q3 f0 f1 f2 f3
  generalize (((w9.setCell ⟨bo, 0, none⟩ (.int .i64 1)).setCell ⟨bo, 1, none⟩ (.slice ps fr.length cs)).setCell ⟨bo, 2, none⟩ (.slice none 0 0)).setCell ⟨bo, 3, none⟩ (.slice none 0 0) = w7 at *
  have hbl : bo < w7.heap.size := gg2.lt
  have HM0 : Hid (MkB wk6 w7 (fun x => x = bo ∨ (wk6.heap.size ≤ x ∧ x < w7.heap.size)) bo 1 (.slice ps fr.length cs) (.slice none 0 0) (.slice none 0 0) [] []) :=
    MkB.fresh gg1 HBL.out gg2 (.inl rfl) (fun x hx => by rcases hx with rfl | hx; exact hbl; exact hx.2)
  obtain ⟨p9, c9, ev9, hk9, hi9⟩ := hOs.ints
  simp only [Value.slice.injEq] at ev9
  obtain ⟨rfl, hx9, rfl⟩ := ev9
  have HKF := Lib.hid hk9
  have HIF := Lib.hid (hi9.mono (G := fun x => (wk6.heap.size ≤ x ∧ x < w7.heap.size) ∧ x ≠ bo) (w' := w7) (fun b hb hlt => ⟨⟨⟨hb.1, hlt⟩, hb.2⟩, rfl⟩))
  have HE67 := Lib.hid gg1
  obtain ⟨fl, hfl⟩ : ∃ fl, fr.length = fl := ⟨_, rfl⟩
  rw [hfl] at HM0 ⊢
  have HFRL := Lib.hid hfl
  have HAK := Lib.hid (fun (W : World) (e : Ext w7 W) => alike_any _ _ L Q pL pQ cL nl cQ ql W ((HIL.out.ext HE67.out).ext e) ((HIQ.out.ext HE67.out).ext e) HNL.out hL6 HQL.out hQ6)
  generalize hak : alikeV L Q = ak at *
  have HALK := Lib.hid (fun (h : ak = false) => HAL2.out h)
  clear gg1 gg2 hOs hbl hk9 hi9 hx9 hfl hak HAL2 HFR HQU
  (try simp only [Exit.inBlock, Exit.then])
  go_wp2_with fail
  refine (HAK.out w7 (Ext.refl _)).mono ?_
  rintro e w8 ⟨rfl, hE8⟩
  have HM1 := Lib.hid (HM0.out.next hE8)
  have HF1 : Hid (∀ q, (q = bo ∨ (wk6.heap.size ≤ q ∧ q < w7.heap.size)) → q ≠ bo → w8.heap[q]? = w7.heap[q]?) := fun q hq _ => hE8.block (HM0.out.xl q hq)
  clear hE8 HM0 HAK
  go_wp2_with fail
  go_loopw [10] (fun iv wr => ∃ (j : Nat) (v2 : Value), iv = .int .i64 (j : Int) ∧ j ≤ ql ∧ Hid (MkB wk6 wr (fun x => x = bo ∨ (wk6.heap.size ≤ x ∧ x < w7.heap.size)) bo 1 (.slice ps fl cs) v2 (.slice none 0 0) (fn.take j) []) ∧ Hid (∀ q, (q = bo ∨ (wk6.heap.size ≤ q ∧ q < w7.heap.size)) → q ≠ bo → wr.heap[q]? = w7.heap[q]?)) (fun iv _ => ql - (intOf iv).toNat)
  case atStart => exact ⟨0, _, rfl, Nat.zero_le _, by rw [List.take_zero]; exact HM1, HF1⟩
  case round =>
  obtain ⟨j, v2, rfl, hjq, HM, HF⟩ := hrel
  clear HM1 HF1
  by_cases hlt : j < ql
  · have hjQ : j < Q.length := by rw [HQL.out]; exact hlt
    obtain ⟨bq, oq, x0, x1, x2, x3, rfl, q0, q1, q2, q3, hA⟩ := (HIQ.out.ext HM.out.ext).getD hjQ
    obtain ⟨qk, qa, qla, qma, qb, qlb, qmb, qc, qlc, qmc, rfl, rfl, rfl, rfl⟩ := hA.form
    have hmem : Q.getD j default ∈ Q := by simp [List.getD, hjQ]
    have hfj := HFG.out j hlt
    have HPL := Lib.hid (place_any _ _ L (Q.getD j default) pL cL nl _ _ _ _ wr (HIL.out.ext HM.out.ext) hA HNL.out hL6)
    have HNO := Lib.hid (fun (h : ak = false) => show fn.getD j 0 = (nl : Int) by rw [hfj, HALK.out h _ hmem, HNL.out])
    rw [← hfj] at HPL
    have hfb : 0 ≤ fn.getD j 0 ∧ fn.getD j 0 ≤ 65536 := by have := placeV_le L (Q.getD j default); rw [HNL.out] at this; omega
    have HTK : Hid (fn.take (j + 1) = fn.take j ++ [fn.getD j 0]) := by
      unfold Hid
      have hjf : j < fn.length := by rw [HFL.out]; exact hlt
      rw [List.take_succ_eq_append_getElem hjf]
      simp [List.getD, hjf]
    have HTL : Hid ((fn.take j).length = j) := by unfold Hid; rw [List.length_take, HFL.out]; omega
    generalize fn.getD j 0 = xv at *
    obtain ⟨nn, hns⟩ : ∃ ns, fn.take j = ns := ⟨_, rfl⟩
    rw [hns] at HM HTK HTL
    obtain ⟨pv, cv, rfl, _⟩ := HM.out.on.form
    have hnlen : nn.length < 17592186044416 := by rw [HTL.out]; omega
    have hvb : -9223372036854775808 ≤ xv ∧ xv ≤ 9223372036854775807 := by omega
    clear hA hfj hmem hns hjQ
    cases ak with
    | false =>
      have hM2 := HM.out
      have hxn := HNO.out rfl
      subst hxn
      clear HNO HPL q0 q1 q2 q3
      obtain ⟨t0, t1, t2, t3⟩ := hM2.box.cell
      have hEn : Ext wr (wr.alloc (.cells #[.int .i64 (nl : Int)] 3)) := (Ext.refl _).alloc _
      have hnc : (wr.alloc (.cells #[.int .i64 (nl : Int)] 3)).cell? ⟨wr.heap.size, 0, none⟩ = some (.int .i64 (nl : Int)) := by simp
      have hM7 := hM2.next hEn
      have HM7 := Lib.hid hM7
      have HEN := Lib.hid hEn
      clear hM7 hEn hM2
      go_wp2_with (at_builtin; refine wpList_append_int rfl _ _ rfl wk6.heap.size _ (.slice pv nn.length cv) nn.length nn (nl : Int) rfl HM7.out.on ⟨wr.heap.size, 0, none⟩ 1 rfl hnc HM7.out.xl2 hvb (by omega) HM7.out.ext.lt ?_)
      intro g cap w8 hon8 hgrow hat8 _ _
      obtain ⟨q1, q2, q3⟩ := HM7.out.grownN hgrow
      clear t0 t1 t2 t3 hnc
      obtain ⟨_, _, t2, _⟩ := q2.cell
      have tf := q2.free 2
      obtain ⟨hM8, hfar⟩ := HM7.out.storedN (n' := nn ++ [(nl : Int)]) hgrow (by simp) hon8 (by simpa using hat8)
      have HM8 := Lib.hid hM8
      have HFAR := Lib.hid hfar
      clear HM7 hon8 hgrow hat8 q1 q2 q3 hM8 hfar
      go_wp2_with fail
      obtain hM8 := HM8.out
      obtain hfar := HFAR.out
      obtain hEn := HEN.out
      clear HM8 HFAR HEN t2 tf
      have HM8 := Lib.hid hM8
      have HFAR := Lib.hid (fun q h1 (h2 : q ≠ bo) => ((hfar q h1 h2).trans (hEn.block (HM.out.xl q h1))).trans (HF.out q h1 h2))
      clear hM8 hfar hEn
      rw [← HTK.out] at HM8
      go_wp2_with fail
      go_roundw
      case rel => exact ⟨j + 1, _, by go_num, by omega, HM8, HFAR⟩
      case measure => simp [intOf]; omega
    | true =>
      clear HNO
      go_wp2_with fail
      refine HPL.out.mono ?_
      rintro e w10 ⟨rfl, hE10⟩
      have hM2 := HM.out.next hE10
      have HE10 := Lib.hid hE10
      clear HPL q0 q1 q2 q3 hE10
      obtain ⟨t0, t1, t2, t3⟩ := hM2.box.cell
      have hEn : Ext w10 (w10.alloc (.cells #[.int .i64 xv] 3)) := (Ext.refl _).alloc _
      have hnc : (w10.alloc (.cells #[.int .i64 xv] 3)).cell? ⟨w10.heap.size, 0, none⟩ = some (.int .i64 xv) := by simp
      have hM7 := hM2.next hEn
      have HM7 := Lib.hid hM7
      have HEN := Lib.hid hEn
      clear hM7 hEn hM2
      go_wp2_with (at_builtin; refine wpList_append_int rfl _ _ rfl wk6.heap.size _ (.slice pv nn.length cv) nn.length nn xv rfl HM7.out.on ⟨w10.heap.size, 0, none⟩ 1 rfl hnc HM7.out.xl2 hvb (by omega) HM7.out.ext.lt ?_)
      intro g cap w8 hon8 hgrow hat8 _ _
      obtain ⟨q1, q2, q3⟩ := HM7.out.grownN hgrow
      clear t0 t1 t2 t3 hnc
      obtain ⟨_, _, t2, _⟩ := q2.cell
      have tf := q2.free 2
      obtain ⟨hM8, hfar⟩ := HM7.out.storedN (n' := nn ++ [xv]) hgrow (by simp) hon8 (by simpa using hat8)
      have HM8 := Lib.hid hM8
      have HFAR := Lib.hid hfar
      clear HM7 hon8 hgrow hat8 q1 q2 q3 hM8 hfar
      go_wp2_with fail
      obtain hM8 := HM8.out
      obtain hfar := HFAR.out
      obtain hEn := HEN.out
      clear HM8 HFAR HEN t2 tf
      have HM8 := Lib.hid hM8
      have HFAR := Lib.hid (fun q h1 (h2 : q ≠ bo) => (((hfar q h1 h2).trans (hEn.block (Nat.lt_of_lt_of_le (HM.out.xl q h1) HE10.out.lt))).trans (HE10.out.block (HM.out.xl q h1))).trans (HF.out q h1 h2))
      clear hM8 hfar hEn
      rw [← HTK.out] at HM8
      go_wp2_with fail
      go_roundw
      case rel => exact ⟨j + 1, _, by go_num, by omega, HM8, HFAR⟩
      case measure => simp [intOf]; omega
  have hjq2 : ql = j := by omega
  subst hjq2
  have htk : fn.take ql = fn := List.take_of_length_le (by rw [HFL.out]; exact Nat.le_refl _)
  rw [htk] at HM
  obtain ⟨pv, cv, rfl, _⟩ := HM.out.on.form
  have hFR : FreshN wk6.heap.size wr (.mk 1 fr fn []) (.int .i64 1) (.slice ps fl cs) (.slice pv fn.length cv) (.slice none 0 0) := fresh_of_mkbX HM.out (Nat.le_refl _) (by rw [HFRL.out]) HKF.out (HIF.out.mono fun x hx _ => ⟨⟨hx.1.1, .inr hx.1⟩, HF.out x (.inr hx.1) hx.2⟩)
  have HFRS := Lib.hid hFR
  have HB6 := Lib.hid HM.out.box
  have HBT9 := Lib.hid (HBT.out.ext HM.out.ext)
  have HE9 := Lib.hid (HE.out.trans HM.out.ext)
  have HLT := Lib.hid (show w.heap.size + 1 + 1 < wk6.heap.size from HBT.out.lt)
  clear hFR htk HM HF HIF HIL HKF HIQ HFG HFL HNL HBT HE
  obtain ⟨t0, t1, t2, t3⟩ := HBT9.out.cell
  have y0 := HBT9.out.free 0
  have y1 := HBT9.out.free 1
  have y2 := HBT9.out.free 2
  have y3 := HBT9.out.free 3
  obtain ⟨u0, u1, u2, u3⟩ := HB6.out.cell
  go_wp2_with fail
  obtain ⟨g1, g2, g3⟩ := HBT9.out.put4 HE9.out (by omega) (.int .i64 1) (.slice ps fl cs) (.slice pv fn.length cv) (.slice none 0 0)
  have hF9 := (HFRS.out.far (w' := (((wr.setCell ⟨w.heap.size + 1 + 1, 0, none⟩ (.int .i64 1)).setCell ⟨w.heap.size + 1 + 1, 1, none⟩ (.slice ps fl cs)).setCell ⟨w.heap.size + 1 + 1, 2, none⟩ (.slice pv fn.length cv)).setCell ⟨w.heap.size + 1 + 1, 3, none⟩ (.slice none 0 0)) fun b hb => g3 b (by have := HLT.out; omega)).base (B' := w.heap.size) (by have := HLT.out; omega)
  revert g1 g2 g3 hF9
  generalize (((wr.setCell ⟨w.heap.size + 1 + 1, 0, none⟩ (.int .i64 1)).setCell ⟨w.heap.size + 1 + 1, 1, none⟩ (.slice ps fl cs)).setCell ⟨w.heap.size + 1 + 1, 2, none⟩ (.slice pv fn.length cv)).setCell ⟨w.heap.size + 1 + 1, 3, none⟩ (.slice none 0 0) = w9
  intro g1 g2 g3 hF9
  obtain ⟨z0, z1, z2, z3⟩ := g2.cell
  refine bodyPost_ret (v := .tuple #[.agg #[.int .i64 1, .slice ps fl cs, .slice pv fn.length cv, .slice none 0 0], .int .i64 0]) ?_ rfl ⟨_, _, _, _, by rw [HEV2.out], by rw [HV2.out]; exact hF9, g1⟩
  simp [results, Try.results61, go_sem, z0, z1, z2, z3]
end Go.Proofs.Ytgkemmdghmklfaa
