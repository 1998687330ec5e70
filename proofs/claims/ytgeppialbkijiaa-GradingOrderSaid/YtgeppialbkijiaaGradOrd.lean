/-
  THE WALK of law24.GradingOrder: it returns true, and turns nothing that was there. (Printed by gen_gradord.py.)
-/
import Derived.Test.YtgeppialbkijiaaGSLaw
import Derived.Test.YtgeppialbkijiaaChain
import Derived.Test.YtgeppialbkijiaaL04
namespace Go.Proofs.Ytgeppialbkijiaa
set_option linter.unusedSimpArgs false
set_option linter.unusedVariables false
open Go.RowKit

theorem grade_map {α β : Type} [Inhabited α] [Inhabited β] {c : β → β → Int} (h : POrd c) (f : α → β) (l : List α) : grade c (l.map f) = grade (fun x y => c (f x) (f y)) l := by
  have hp := grade_perm (fun x y => c (f x) (f y)) l
  have hw := grade_pw (h.via f) l
  symm
  refine grade_one h (by rw [List.length_map]; exact hp) (hw.imp_of_mem fun {a b} ha hb hab => ?_)
  have h1 := grade_mem ha
  have h2 := grade_mem hb
  have e1 : (l.map f).getD a.toNat default = f (l.getD a.toNat default) := by
    have : a.toNat < l.length := by omega
    simp [List.getD, this]
  have e2 : (l.map f).getD b.toNat default = f (l.getD b.toNat default) := by
    have : b.toNat < l.length := by omega
    simp [List.getD, this]
  have hab : c (f (l.getD a.toNat default)) (f (l.getD b.toNat default)) < 0 ∨ (c (f (l.getD a.toNat default)) (f (l.getD b.toNat default)) = 0 ∧ a < b) := hab
  rw [← e1, ← e2] at hab
  exact hab
/-- How often each number is among the first j. -/
def cntN (n : Nat) (o : List Int) (j : Nat) : List Int := (List.range n).map fun (v : Nat) => (((o.take j).count (v : Int) : Nat) : Int)
theorem cntN_length (n : Nat) (o : List Int) (j : Nat) : (cntN n o j).length = n := by unfold cntN; simp
theorem cntN_zero (n : Nat) (o : List Int) : cntN n o 0 = List.replicate n 0 := by
  unfold cntN
  apply List.ext_getElem
  · simp
  · intro i h1 h2; simp
theorem cntN_getD {n : Nat} {o : List Int} {j v : Nat} (hv : v < n) : (cntN n o j).getD v 0 = (((o.take j).count (v : Int) : Nat) : Int) := by unfold cntN; simp [List.getD, hv]
theorem cntN_le {n : Nat} {o : List Int} {j v : Nat} (hv : v < n) : 0 ≤ (cntN n o j).getD v 0 ∧ (cntN n o j).getD v 0 ≤ j := by
  rw [cntN_getD hv]
  have h1 := List.count_le_length (a := (v : Int)) (l := o.take j)
  rw [List.length_take] at h1
  omega
theorem cntN_succ {n : Nat} {o : List Int} {j a : Nat} (hj : j < o.length) (ha : o.getD j 0 = (a : Int)) (han : a < n) : cntN n o (j + 1) = (cntN n o j).set a ((cntN n o j).getD a 0 + 1) := by
  have e : o.take (j + 1) = o.take j ++ [(a : Int)] := by
    rw [List.take_add_one, List.getElem?_eq_getElem hj]
    have : o[j] = (a : Int) := by rw [← ha]; simp [List.getD, hj]
    rw [this]; rfl
  apply List.ext_getElem
  · simp [cntN_length]
  · intro v h1 h2
    have hv : v < n := by simpa [cntN_length] using h1
    rw [List.getElem_set]
    have hL : (cntN n o (j + 1))[v] = (((o.take (j + 1)).count (v : Int) : Nat) : Int) := by simp [cntN]
    by_cases hva : a = v
    · rw [if_pos hva, hL, cntN_getD han, e, List.count_append, hva]
      simp
    · have h0 : ([(a : Int)] : List Int).count (v : Int) = 0 := by
        rw [List.count_eq_zero]
        simp only [List.mem_singleton]
        omega
      rw [if_neg hva, hL, e, List.count_append, h0]
      simp [cntN]
/-- A list of the numbers below n has each once. -/
theorem cntN_all {n : Nat} {o : List Int} (hp : o.Perm (idxs n)) {v : Nat} (hv : v < n) : (cntN n o n).getD v 0 = 1 := by
  have hl : o.length = n := by rw [hp.length_eq, idxs_length]
  rw [cntN_getD hv, List.take_of_length_le (by omega), hp.count_eq]
  have hm : (v : Int) ∈ idxs n := idxs_mem.2 ⟨by omega, by omega⟩
  have h1 := List.nodup_iff_count.1 (idxs_nodup n) (v : Int)
  have h2 := List.count_pos_iff.2 hm
  omega

set_option maxRecDepth 1000000 in
set_option maxHeartbeats 16000000 in
theorem gradord_any (F : Nat → Prop) (x : Arr) (c0 c1 c2 c3 : Value) (w : World) (hx : ArrAt F w x c0 c1 c2 c3) :
    Calls Try.prog 8 #[.agg #[c0, c1, c2, c3]] w fun e w' => e = .returned (.bool true) ∧ Ext w w' := by
  obtain ⟨m, hR⟩ := rows_ok x
  obtain ⟨kx, s, nx, ix⟩ := x
  have hx' := hx
  unfold ArrAt at hx'
  obtain ⟨rfl, hkx, ⟨p1, m1, rfl, ⟨o1, o1', o1''⟩, i1⟩, ⟨p2, m2, rfl, ⟨o2, o2', o2''⟩, i2⟩, ⟨p3, m3, rfl, ⟨o3, o3', o3''⟩, i3⟩⟩ := hx'
  have HX := Lib.hid hx
  have HR := Lib.hid hR
  clear hx i1 i2 i3 hR
  go_enter Try.func8, Try.ntmps8
  have hE0 : Ext w (w.alloc (.cells #[.int .i64 kx, .slice p1 s.length m1, .slice p2 nx.length m2, .slice p3 ix.length m3] 26)) := (Ext.refl _).alloc _
  have HBx := Lib.hid (box_new w (.int .i64 kx) (.slice p1 s.length m1) (.slice p2 nx.length m2) (.slice p3 ix.length m3))
  have HE := Lib.hid hE0
  clear hE0
  go_wp2_with fail
  generalize w.alloc (.cells #[.int .i64 kx, .slice p1 s.length m1, .slice p2 nx.length m2, .slice p3 ix.length m3] 26) = w1 at *
  refine (few24_any F (.mk kx s nx ix) _ _ _ _ w1 (HX.out.ext HE.out)).mono ?_
  rintro e w2 ⟨⟨b, rfl⟩, hE1⟩
  replace HE := Lib.hid (HE.out.trans hE1)
  replace HBx := Lib.hid (HBx.out.ext hE1)
  clear hE1
  obtain ⟨s0, s1, s2, s3⟩ := HBx.out.cell
  cases b with
  | false =>
    go_wp2_with fail
    refine (gawake_any _).mono ?_
    rintro e wl ⟨rfl, hEl⟩
    go_wp2_with fail
    go_ret
    exact ⟨rfl, HE.out.trans hEl⟩
  | true =>
  go_wp2_with fail
  refine (rright6_any F (.mk kx s nx ix) _ _ _ _ w2 (HX.out.ext HE.out)).mono ?_
  rintro e w3 ⟨rfl, hE1⟩
  replace HE := Lib.hid (HE.out.trans hE1)
  replace HBx := Lib.hid (HBx.out.ext hE1)
  clear hE1 s0 s1 s2 s3
  obtain ⟨s0, s1, s2, s3⟩ := HBx.out.cell
  by_cases h1 : rightV (.mk kx s nx ix) = 0
  rotate_left
  · generalize rightV (.mk kx s nx ix) = r1 at *
    have h1' : (r1 != 0) = true := by simpa using h1
    clear h1
    go_wp2_with fail
    refine (gawake_any _).mono ?_
    rintro e wl ⟨rfl, hEl⟩
    go_wp2_with fail
    go_ret
    exact ⟨rfl, HE.out.trans hEl⟩
  rw [h1]
  by_cases h2 : s = []
  · subst h2
    clear h1
    go_wp2_with fail
    refine (gawake_any _).mono ?_
    rintro e wl ⟨rfl, hEl⟩
    go_wp2_with fail
    go_ret
    exact ⟨rfl, HE.out.trans hEl⟩
  have hre : rowsE (.mk kx s nx ix) = 0 := by unfold rowsE; rw [if_neg (by rw [h1]; simp), if_neg (show ¬ (Arr.mk kx s nx ix).sh = [] from h2)]
  have hsl : s.length ≠ 0 := fun e => h2 (List.length_eq_zero_iff.1 e)
  have hne : ((s.length : Int) == 0) = false := by simp; omega
  have hl8 : 0 < s.length ∧ s.length ≤ 8 := ⟨by omega, (right_parts h1).2.1⟩
  obtain ⟨hl1, hl2⟩ := hl8
  have hw : IntKind.i64.wrap ((s.length : Int) - 1) = (s.length : Int) - 1 := IntWalk.i64_in _ (by omega)
  have HOK : Hid (∀ t ∈ rowsC (.mk kx s nx ix), szA t < m ∧ rightV t = 0) := HR.out hre
  have hcl := rowsC_length (.mk kx s nx ix)
  have HGU : Hid (gradeV (cmpF m) (.mk kx s nx ix) = .mk 1 [((rowsC (.mk kx s nx ix)).length : Int)] (grade (cmpF m) (rowsC (.mk kx s nx ix))) []) := by unfold Hid gradeV; rw [if_neg (by rw [hre]; simp)]
  have HGD : Hid (gradeV (fun x y => cmpF m y x) (.mk kx s nx ix) = .mk 1 [((rowsC (.mk kx s nx ix)).length : Int)] (grade (fun x y => cmpF m y x) (rowsC (.mk kx s nx ix))) []) := by unfold Hid gradeV; rw [if_neg (by rw [hre]; simp)]
  have HRE := Lib.hid hre
  have HCC : Hid (cellsV (.mk kx s nx ix) ((s.length : Int) - 1) = rowsC (.mk kx s nx ix)) := rfl
  clear h1 h2 hsl hre
  generalize hC : rowsC (.mk kx s nx ix) = C at *
  clear hC
  obtain ⟨n, hn⟩ : ∃ n, C.length = n := ⟨_, rfl⟩
  have HN := Lib.hid hn
  rw [hn] at HGU HGD hcl
  clear hn
  go_wp2_with fail
  refine (up_any m F (.mk kx s nx ix) _ _ _ _ w3 (HX.out.ext HE.out) HR.out).mono ?_
  rintro e wf4 ⟨d0, d1, d2, d3, rfl, hA, hE⟩
  rw [HGU.out] at hA
  rw [HRE.out]
  unfold ArrAt at hA
  obtain ⟨rfl, _, ⟨a1, ae1, rfl, ak1, ai1⟩, ⟨a2, ae2, rfl, ak2, ai2⟩, ⟨a3, ae3, rfl, ak3, _⟩⟩ := hA
  rw [show (grade (cmpF m) C).length = n by rw [grade_length]; exact HN.out] at ak2 ⊢
  rw [show ([(n : Int)] : List Int).length = 1 from rfl] at ak1 ⊢
  rw [show ([] : List Arr).length = 0 from rfl]
  have hEn : Ext w3 (wf4.alloc (.cells #[.int .i64 1, .slice a1 1 ae1, .slice a2 n ae2, .slice a3 0 ae3] 26)) := hE.alloc _
  have hAl : Ext wf4 (wf4.alloc (.cells #[.int .i64 1, .slice a1 1 ae1, .slice a2 n ae2, .slice a3 0 ae3] 26)) := (Ext.refl _).alloc _
  have HBa := Lib.hid (box_new wf4 (.int .i64 1) (.slice a1 1 ae1) (.slice a2 n ae2) (.slice a3 0 ae3))
  have HSa := Lib.hid (ai1.ext hAl)
  have HIa := Lib.hid (ai2.ext hAl)
  have HKa := Lib.hid ak2
  have HLEa := Lib.hid (show w.heap.size ≤ wf4.heap.size by have h1 := hE.lt; have h2 := HE.out.lt; omega)
  replace HE := Lib.hid (HE.out.trans hEn)
  replace HBx := Lib.hid (HBx.out.ext hEn)
  clear hE hEn hAl ai1 ai2 ak2 s0 s1 s2 s3
  obtain ⟨s0, s1, s2, s3⟩ := HBx.out.cell
  go_upto_region 4 with (fail)
  generalize hbz : wf4.heap.size = ba at *
  clear hbz
  generalize wf4.alloc (.cells #[.int .i64 1, .slice a1 1 ae1, .slice a2 n ae2, .slice a3 0 ae3] 26) = wk4 at *
  go_wp2_with fail
  refine (down_any m F (.mk kx s nx ix) _ _ _ _ wk4 (HX.out.ext HE.out) HR.out).mono ?_
  rintro e wf5 ⟨d0, d1, d2, d3, rfl, hA, hE⟩
  rw [HGD.out] at hA
  rw [HRE.out]
  unfold ArrAt at hA
  obtain ⟨rfl, _, ⟨b1, be1, rfl, bk1, bi1⟩, ⟨b2, be2, rfl, bk2, bi2⟩, ⟨b3, be3, rfl, bk3, _⟩⟩ := hA
  rw [show (grade (fun x y => cmpF m y x) C).length = n by rw [grade_length]; exact HN.out] at bk2 ⊢
  rw [show ([(n : Int)] : List Int).length = 1 from rfl] at bk1 ⊢
  rw [show ([] : List Arr).length = 0 from rfl]
  have hEn : Ext wk4 (wf5.alloc (.cells #[.int .i64 1, .slice b1 1 be1, .slice b2 n be2, .slice b3 0 be3] 26)) := hE.alloc _
  have hAl : Ext wf5 (wf5.alloc (.cells #[.int .i64 1, .slice b1 1 be1, .slice b2 n be2, .slice b3 0 be3] 26)) := (Ext.refl _).alloc _
  have HBb := Lib.hid (box_new wf5 (.int .i64 1) (.slice b1 1 be1) (.slice b2 n be2) (.slice b3 0 be3))
  have HSb := Lib.hid (bi1.ext hAl)
  have HIb := Lib.hid (bi2.ext hAl)
  have HKb := Lib.hid bk2
  have HLEb := Lib.hid (show w.heap.size ≤ wf5.heap.size by have h1 := hE.lt; have h2 := HE.out.lt; omega)
  replace HE := Lib.hid (HE.out.trans hEn)
  replace HBx := Lib.hid (HBx.out.ext hEn)
  replace HBa := Lib.hid (HBa.out.ext hEn)
  replace HSa := Lib.hid (HSa.out.ext hEn)
  replace HIa := Lib.hid (HIa.out.ext hEn)
  clear hE hEn hAl bi1 bi2 bk2 s0 s1 s2 s3
  obtain ⟨s0, s1, s2, s3⟩ := HBx.out.cell
  go_upto_region 5 with (fail)
  generalize hbz : wf5.heap.size = bb at *
  clear hbz
  generalize wf5.alloc (.cells #[.int .i64 1, .slice b1 1 be1, .slice b2 n be2, .slice b3 0 be3] 26) = wk5 at *
  go_wp2_with fail
  refine (rcells_any F _ _ _ _ _ ((s.length : Int) - 1) wk5 (HX.out.ext HE.out) (by omega)).mono ?_
  rintro e w6 ⟨v, rfl, ⟨pl, cl, rfl, ⟨l1, l1', l1''⟩, hit⟩, hE6⟩
  rw [HCC.out] at hit l1 l1'' ⊢
  rw [HN.out] at l1 l1'' ⊢
  replace HE := Lib.hid (HE.out.trans hE6)
  replace HBa := Lib.hid (HBa.out.ext hE6)
  replace HSa := Lib.hid (HSa.out.ext hE6)
  replace HIa := Lib.hid (HIa.out.ext hE6)
  replace HBb := Lib.hid (HBb.out.ext hE6)
  replace HIb := Lib.hid (HIb.out.ext hE6)
  have HIT := Lib.hid hit
  clear hit hE6 s0 s1 s2 s3 HBx HCC HGU HGD HRE HX HR HSb hne hw
  generalize hAg : grade (cmpF m) C = A at *
  generalize hDg : grade (fun x y => cmpF m y x) C = D at *
  have HAg := Lib.hid hAg
  have HDg := Lib.hid hDg
  have HAL : Hid (A.length = n) := by unfold Hid; rw [← hAg, grade_length]; exact HN.out
  have HDL : Hid (D.length = n) := by unfold Hid; rw [← hDg, grade_length]; exact HN.out
  have HAP : Hid (A.Perm (idxs n)) := by unfold Hid; rw [← hAg, ← HN.out]; exact grade_perm _ _
  have HDP : Hid (D.Perm (idxs n)) := by unfold Hid; rw [← hDg, ← HN.out]; exact grade_perm _ _
  clear hAg hDg
  obtain ⟨sa0, sa1, sa2, sa3⟩ := HBa.out.cell
  obtain ⟨sb0, sb1, sb2, sb3⟩ := HBb.out.cell
  go_wp2_with fail
  have hEs : Ext w6 (w6.alloc (.cells #[.int .i64 (n : Int)] 3)) := (Ext.refl _).alloc _
  have hi1 : IntsAt (fun _ => True) (w6.alloc (.cells #[.int .i64 (n : Int)] 3)) (some ⟨w6.heap.size, 0, none⟩) [(n : Int)] := fun j hj => by
    have : j = 0 := by simp at hj; omega
    subst this
    exact ⟨w6.heap.size, 0, rfl, trivial, by simp, by show -9223372036854775808 ≤ (n : Int) ∧ (n : Int) ≤ 9223372036854775807; omega⟩
  refine (ints_any _ _ a1 (some ⟨w6.heap.size, 0, none⟩) ae1 1 [(n : Int)] [(n : Int)] _ (HSa.out.ext hEs) hi1 (by unfold lenMax; simp) (by unfold lenMax; simp)).mono ?_
  rintro e w7 ⟨rfl, hE7⟩
  have hE67 := hEs.trans hE7
  replace HE := Lib.hid (HE.out.trans hE67)
  replace HBa := Lib.hid (HBa.out.ext hE67)
  replace HSa := Lib.hid (HSa.out.ext hE67)
  replace HIa := Lib.hid (HIa.out.ext hE67)
  replace HBb := Lib.hid (HBb.out.ext hE67)
  replace HIb := Lib.hid (HIb.out.ext hE67)
  replace HIT := Lib.hid (HIT.out.ext hE67)
  have hbe : ([(n : Int)] == [(n : Int)]) = true := by simp
  rw [hbe]
  clear hi1 hEs hE7 hE67 hbe sa0 sa1 sa2 sa3 sb0 sb1 sb2 sb3
  go_upto_region 8 with (fail)
  refine wp_region_x1 [MProp.is (.slice pl n cl), MProp.is (.int .i64 (n : Int)), MProp.xrow w7.heap.size n (List.replicate n 0), MProp.is (.slice pl n cl), MProp.is (.int .i64 (n : Int)), MProp.row w7.heap.size n (List.replicate n 0), MProp.xrow w7.heap.size n (List.replicate n 0)] [0, 1, 2, 3, 4, 5, 6] [] [81, 82, 83, 84, 85, 86, 8] 7 (by kernel_rfl) (by kernel_rfl) (by kernel_rfl) rfl ?_ ?_ ?_
  · refine mem_cons_m ?_ (mem_cons_m ?_ (mem_cons_m ?_ (mem_cons_m ?_ (mem_cons_m ?_ (mem_cons_m ?_ (mem_cons_m ?_ (mem_nil_m)))))))
    · refine ⟨_, 81, rfl, by kernel_rfl, ?_⟩
      intro u w9 X hE hX hd K hK
      clear hd
      simp only [overlay, List.setIfInBounds_toArray, List.set] at hK ⊢
      go_wp2_with fail
      exact hK _ _ X (Ext.refl _) kept_m hX rfl
    · refine ⟨_, 82, rfl, by kernel_rfl, ?_⟩
      intro u w9 X hE hX hd K hK
      have d0 : u 81 = .slice pl n cl := hd 0 (by kernel_rfl)
      clear hd
      simp only [overlay, List.setIfInBounds_toArray, List.set, d0] at hK ⊢
      go_wp2_with fail
      exact hK _ _ X (Ext.refl _) kept_m hX rfl
    · refine ⟨_, 83, rfl, by kernel_rfl, ?_⟩
      intro u w9 X hE hX hd K hK
      have d1 : u 82 = .int .i64 (n : Int) := hd 1 (by kernel_rfl)
      clear hd
      simp only [overlay, List.setIfInBounds_toArray, List.set, d1] at hK ⊢
      have hlt' : w7.heap.size ≤ w9.heap.size := hE.lt
      have hmk := run_make_ints n (by omega)
      go_wp2_with fail
      exact hK _ _ (fun b => X b ∨ b = w9.heap.size) ((Ext.refl _).alloc _) added_m (hX.add hE _) ⟨_, rfl, RowI.made n, hlt', .inr rfl⟩
    · refine ⟨_, 84, rfl, by kernel_rfl, ?_⟩
      intro u w9 X hE hX hd K hK
      clear hd
      simp only [overlay, List.setIfInBounds_toArray, List.set] at hK ⊢
      go_wp2_with fail
      exact hK _ _ X (Ext.refl _) kept_m hX rfl
    · refine ⟨_, 85, rfl, by kernel_rfl, ?_⟩
      intro u w9 X hE hX hd K hK
      have d3 : u 84 = .slice pl n cl := hd 3 (by kernel_rfl)
      clear hd
      simp only [overlay, List.setIfInBounds_toArray, List.set, d3] at hK ⊢
      go_wp2_with fail
      exact hK _ _ X (Ext.refl _) kept_m hX rfl
    · refine ⟨_, 86, rfl, by kernel_rfl, ?_⟩
      intro u w9 X hE hX hd K hK
      have d4 : u 85 = .int .i64 (n : Int) := hd 4 (by kernel_rfl)
      clear hd
      simp only [overlay, List.setIfInBounds_toArray, List.set, d4] at hK ⊢
      have hlt' : w7.heap.size ≤ w9.heap.size := hE.lt
      have hmk := run_make_ints n (by omega)
      go_wp2_with fail
      exact hK _ _ X ((Ext.refl _).alloc _) kept_m (hX.ext ((Ext.refl _).alloc _)) ⟨_, rfl, RowI.made n, hlt', fun hx => by have := (hX _ hx).2; omega⟩
    · refine ⟨_, 8, rfl, by kernel_rfl, ?_⟩
      intro u w9 X hE hX hd K hK
      have d2 : ∃ g, u 83 = .slice (some ⟨g, 0, none⟩) n n ∧ RowI w9 g (List.replicate n 0) ∧ w7.heap.size ≤ g ∧ X g := hd 2 (by kernel_rfl)
      clear hd
      simp only [overlay, List.setIfInBounds_toArray, List.set] at hK ⊢
      obtain ⟨g, hv, hr, hb, hx⟩ := d2
      simp only [hv] at hK ⊢
      go_wp2_with fail
      exact hK _ _ X (Ext.refl _) kept_m hX ⟨g, rfl, hr, hb, hx⟩
  · exact mem_nil_m
  intro u w9 X hE hX hd
  have d0 : u 81 = .slice pl n cl := hd 0 (by decide)
  have d1 : u 82 = .int .i64 (n : Int) := hd 1 (by decide)
  have d2 : ∃ g, u 83 = .slice (some ⟨g, 0, none⟩) n n ∧ RowI w9 g (List.replicate n 0) ∧ w7.heap.size ≤ g ∧ X g := hd 2 (by decide)
  have d3 : u 84 = .slice pl n cl := hd 3 (by decide)
  have d4 : u 85 = .int .i64 (n : Int) := hd 4 (by decide)
  have d5 : ∃ g, u 86 = .slice (some ⟨g, 0, none⟩) n n ∧ RowI w9 g (List.replicate n 0) ∧ w7.heap.size ≤ g ∧ ¬ X g := hd 5 (by decide)
  have d6 : ∃ g, u 8 = .slice (some ⟨g, 0, none⟩) n n ∧ RowI w9 g (List.replicate n 0) ∧ w7.heap.size ≤ g ∧ X g := hd 6 (by decide)
  clear hd
  simp only [overlay, List.setIfInBounds_toArray, List.set, d0, d1, d3, d4]
  obtain ⟨gu, hvu, hRu, hbu, hxu⟩ := d6
  obtain ⟨gd, hvd, hRd, hbd, hxd⟩ := d5
  have hgne : gu ≠ gd := fun e => hxd (by rw [← e]; exact hxu)
  have hgne' : gd ≠ gu := fun e => hgne e.symm
  have e9 : Ext w7 w9 := (Ext.refl w7).drew.trans hE
  simp only [hvu, hvd]
  have HIa8 := Lib.hid ((HIa.out.mono (G := fun b => b < w7.heap.size) (w' := w7) (fun b hb hlt => ⟨hlt, rfl⟩)).ext e9)
  have HSa8 := Lib.hid ((HSa.out.mono (G := fun b => b < w7.heap.size) (w' := w7) (fun b hb hlt => ⟨hlt, rfl⟩)).ext e9)
  have HIb8 := Lib.hid ((HIb.out.mono (G := fun b => b < w7.heap.size) (w' := w7) (fun b hb hlt => ⟨hlt, rfl⟩)).ext e9)
  have HIT8 := Lib.hid ((ItemsAt.mono (G := fun b => b < w7.heap.size) (w' := w7) (fun b hb hlt => ⟨hlt, rfl⟩) _ _ _ HIT.out).ext e9)
  have HBa8 := Lib.hid (HBa.out.ext e9)
  have HBb8 := Lib.hid (HBb.out.ext e9)
  have HLa := Lib.hid HBa.out.lt
  have HLb := Lib.hid HBb.out.lt
  have HE8 := Lib.hid (HE.out.trans e9)
  have HRu := Lib.hid hRu
  have HRd := Lib.hid hRd
  have HW7 : Hid (w.heap.size ≤ w7.heap.size) := HE.out.lt
  have HKa8 := Lib.hid HKa.out
  have HKb8 := Lib.hid HKb.out
  clear d0 d1 d2 d3 d4 hRu hRd hxu hxd hX hE e9 HIa HIb HIT HBa HBb HE HKa HKb hvu hvd HSa
  generalize u 83 = z83 at *
  clear u
  go_wp2_with fail
  refine OnlyN.mk ?_
  obtain ⟨w8, rfl⟩ : ∃ wx : World, wx = w9 := ⟨_, rfl⟩
  go_wp2_with fail
  go_loopw [10] (fun iv wr => ∃ j : Nat, iv = .int .i64 (j : Int) ∧ j ≤ n ∧ Hid (RowI wr gu (cntN n A j)) ∧ Hid (RowI wr gd (cntN n D j)) ∧ Hid (∀ q, q < w7.heap.size → wr.heap[q]? = w8.heap[q]?) ∧ Hid (Ext w wr)) (fun iv _ => n - (intOf iv).toNat)
  case atStart => exact ⟨0, rfl, Nat.zero_le _, by unfold Hid; rw [cntN_zero]; exact HRu.out, by unfold Hid; rw [cntN_zero]; exact HRd.out, fun _ _ => rfl, HE8.out⟩
  case round =>
  obtain ⟨j, rfl, hjn, HU, HD, HKP, HEr⟩ := hrel
  clear HRu HRd HE8
  by_cases hlt : j < n
  rotate_left
  · have hjn2 : n = j := by omega
    subst hjn2
    have hIa := HIa8.out.mono (G := fun b => b < w7.heap.size) (w' := wr) (fun b hb _ => ⟨hb, HKP.out b hb⟩)
    have hSa := HSa8.out.mono (G := fun b => b < w7.heap.size) (w' := wr) (fun b hb _ => ⟨hb, HKP.out b hb⟩)
    have hBa := HBa8.out.kept (HKP.out ba HLa.out)
    have hAr : ArrAt (fun b => b < w7.heap.size) wr (vecV A) (.int .i64 1) (.slice a1 1 ae1) (.slice a2 n ae2) (.slice a3 0 ae3) := by
      unfold vecV ArrAt
      rw [HAL.out]
      exact ⟨rfl, by omega, ⟨a1, ae1, rfl, ak1, hSa⟩, ⟨a2, ae2, rfl, HKa8.out, hIa⟩, ⟨a3, ae3, rfl, ak3, by unfold ItemsAt; trivial⟩⟩
    have hrv : rightV (vecV A) = 0 := vec_ok (by rw [HAL.out]; omega) (fun x hx => by have := idxs_mem.1 (HAP.out.mem_iff.1 hx); omega)
    have HRV := Lib.hid (vec_rowsOk hrv)
    have HRW := Lib.hid (vec_rowsC hrv).1
    have HGV : Hid (gradeV (cmpF 2) (vecV A) = .mk 1 [(n : Int)] (grade (cmpF 2) (A.map numV)) []) := by
      unfold Hid gradeV
      rw [if_neg (by rw [HRW.out]; simp), (vec_rowsC hrv).2, List.length_map, HAL.out]
    have HGLn : Hid ((grade (cmpF 2) (A.map numV)).length = n) := by unfold Hid; rw [grade_length, List.length_map]; exact HAL.out
    have HGI : Hid (∀ i, i < n → (grade (cmpF 2) (A.map numV)).getD (A.getD i 0).toNat 0 = (i : Int)) := fun i hi => by
      rw [grade_map (cmpF_ord 2)]
      refine grade_inv (by rw [HAL.out]; exact HAP.out) ((cmpF_ord 2).via numV) (fun x y h => ?_) (by rw [HAL.out]; exact hi)
      have h : cmpF 2 (numV x) (numV y) ≤ 0 := h
      rw [cmp_num] at h
      unfold sgn at h
      split at h
      · omega
      · split at h
        · omega
        · omega
    generalize grade (cmpF 2) (A.map numV) = gg at *
    have HAr := Lib.hid hAr
    have HBar := Lib.hid hBa
    have HIar := Lib.hid hIa
    obtain ⟨wa, rfl⟩ : ∃ wx : World, wx = wr := ⟨_, rfl⟩
    clear hIa hSa hBa hAr hrv HIb8 HIT8 HBb8 HKP HIa8 HSa8 HBa8
    go_wp2_with fail
    go_loopw [15] (fun iv wq => ∃ i : Nat, iv = .int .i64 (i : Int) ∧ i ≤ n ∧ wq = wa) (fun iv _ => n - (intOf iv).toNat)
    case atStart => exact ⟨0, rfl, Nat.zero_le _, rfl⟩
    case round =>
    obtain ⟨i, rfl, hin, hwq⟩ := hrel
    subst hwq
    by_cases hi : i < n
    · have hcu := HU.out.cell (j := i) (by rw [cntN_length]; exact hi)
      have hcd := HD.out.cell (j := i) (by rw [cntN_length]; exact hi)
      rw [cntN_all HAP.out hi] at hcu
      rw [cntN_all HDP.out hi] at hcd
      go_wp2_with fail
      go_roundw
      case rel => exact ⟨i + 1, by go_num, by omega, by first | rfl | trivial⟩
      case measure => simp [intOf]; omega
    have hin2 : n = i := by omega
    subst hin2
    obtain ⟨sa0, sa1, sa2, sa3⟩ := HBar.out.cell
    go_wp2_with fail
    refine (up_any 2 _ (vecV A) _ _ _ _ _ HAr.out HRV.out).mono ?_
    rintro e wg ⟨d0, d1, d2, d3, rfl, hA, hE⟩
    rw [HGV.out] at hA
    rw [HRW.out]
    unfold ArrAt at hA
    obtain ⟨rfl, _, ⟨g1, ge1, rfl, gk1, gi1⟩, ⟨g2, ge2, rfl, gk2, gi2⟩, ⟨g3, ge3, rfl, gk3, _⟩⟩ := hA
    rw [HGLn.out]
    rw [show ([(n : Int)] : List Int).length = 1 from rfl, show ([] : List Arr).length = 0 from rfl]
    have hEn := hE.alloc (.cells #[.int .i64 1, .slice g1 1 ge1, .slice g2 n ge2, .slice g3 0 ge3] 26)
    have hAl : Ext wg (wg.alloc (.cells #[.int .i64 1, .slice g1 1 ge1, .slice g2 n ge2, .slice g3 0 ge3] 26)) := (Ext.refl _).alloc _
    have HBg := Lib.hid (box_new wg (.int .i64 1) (.slice g1 1 ge1) (.slice g2 n ge2) (.slice g3 0 ge3))
    have HIg := Lib.hid (gi2.ext hAl)
    have HIa9 := Lib.hid (HIar.out.ext hEn)
    have HBa9 := Lib.hid (HBar.out.ext hEn)
    have HE9 := Lib.hid (HEr.out.trans hEn)
    clear hE hEn hAl gi1 gi2 HAr HBar HIar HEr HU HD sa0 sa1 sa2 sa3
    go_upto_region 28 with (fail)
    generalize hbz : wg.heap.size = bg at *
    clear hbz
    generalize wg.alloc (.cells #[.int .i64 1, .slice g1 1 ge1, .slice g2 n ge2, .slice g3 0 ge3] 26) = wh at *
    go_wp2_with fail
    go_loopw [18] (fun iv wq => ∃ i : Nat, iv = .int .i64 (i : Int) ∧ i ≤ n ∧ Hid (Ext wh wq)) (fun iv _ => n - (intOf iv).toNat)
    case atStart => exact ⟨0, rfl, Nat.zero_le _, Ext.refl _⟩
    case round =>
    obtain ⟨i, rfl, hin, HEq⟩ := hrel
    by_cases hi : i < n
    rotate_left
    · go_wp2_with fail
      refine (gawake_any _).mono ?_
      rintro e wl ⟨rfl, hEl⟩
      go_wp2_with fail
      go_ret
      exact ⟨rfl, (HE9.out.trans HEq.out).trans hEl⟩
    have hiA : i < A.length := by rw [HAL.out]; exact hi
    have haA := idxs_mem.1 (HAP.out.mem_iff.1 (show A.getD i 0 ∈ A by simp [List.getD, hiA]))
    obtain ⟨a, ha⟩ : ∃ a : Nat, A.getD i 0 = (a : Int) := ⟨(A.getD i 0).toNat, by omega⟩
    have han : a < n := by omega
    have hgg := HGI.out i hi
    rw [ha, Int.toNat_natCast] at hgg
    obtain ⟨qa, fa, hqa, hca, _, _⟩ := (HIa9.out.ext HEq.out).get hiA
    obtain ⟨qg, fg, hqg, hcg, _, _⟩ := (HIg.out.ext HEq.out).get (show a < gg.length by rw [HGLn.out]; exact han)
    subst hqa
    subst hqg
    rw [ha] at hca
    rw [hgg] at hcg
    obtain ⟨_, _, sa2, _⟩ := (HBa9.out.ext HEq.out).cell
    obtain ⟨_, _, sg2, _⟩ := (HBg.out.ext HEq.out).cell
    clear haA ha hgg hiA
    go_wp2_with fail
    have hS0 : wr.drew.cell? ⟨ba, 2, none⟩ = some (.slice (some ⟨qa, fa, none⟩) n ae2) ∧ wr.drew.cell? ⟨bg, 2, none⟩ = some (.slice (some ⟨qg, fg, none⟩) n ge2) ∧ wr.drew.cell? ⟨qa, fa + i, none⟩ = some (.int .i64 (a : Int)) ∧ wr.drew.cell? ⟨qg, fg + a, none⟩ = some (.int .i64 (i : Int)) := ⟨sa2, sg2, hca, hcg⟩
    refine wp_region_g [0, 1, 2, 3, 4, 5, 6, 7, 8, 9, 10, 11, 12, 13, 14, 15, 16, 17, 18, 19, 20, 21] [22] (fun w' => w'.cell? ⟨ba, 2, none⟩ = some (.slice (some ⟨qa, fa, none⟩) n ae2) ∧ w'.cell? ⟨bg, 2, none⟩ = some (.slice (some ⟨qg, fg, none⟩) n ge2) ∧ w'.cell? ⟨qa, fa + i, none⟩ = some (.int .i64 (a : Int)) ∧ w'.cell? ⟨qg, fg + a, none⟩ = some (.int .i64 (i : Int))) (by kernel_rfl) (by kernel_rfl) hS0 ?_
    clear sa2 sg2 hca hcg
    iterate 22
      refine wpHead_cons (v := ?_) rfl (by rfl) (fun w' hS => ?_) ?_
      rotate_left
      · obtain ⟨e0, e1, e2, e3⟩ := hS
        go_simp
        try with_reducible rfl
      try simp only [Act.put, List.setIfInBounds_toArray, List.set]
    unfold wpHead
    refine wpTail_cons rfl (fun K hK => ?_)
    go_wp2_with fail
    refine hK _ _ hS0 ?_
    clear hK hS0
    try simp only [Act.put, List.setIfInBounds_toArray, List.set]
    unfold wpTail
    refine OnlyN.mk ?_
    have HEq2 := Lib.hid (HEq.out.drew)
    clear HEq
    (try simp only [Exit.inBlock, Exit.then])
    go_wp2_with fail
    go_roundw
    case rel => exact ⟨i + 1, by go_num, by omega, HEq2⟩
    case measure => simp [intOf]; omega
  have hjA : j < A.length := by rw [HAL.out]; exact hlt
  have hjD : j < D.length := by rw [HDL.out]; exact hlt
  have hIa := HIa8.out.mono (G := fun b => b < w7.heap.size) (w' := wr) (fun b hb _ => ⟨hb, HKP.out b hb⟩)
  have hIb := HIb8.out.mono (G := fun b => b < w7.heap.size) (w' := wr) (fun b hb _ => ⟨hb, HKP.out b hb⟩)
  have hIT := ItemsAt.mono (G := fun b => b < w7.heap.size) (w' := wr) (fun b hb _ => ⟨hb, HKP.out b hb⟩) _ _ _ HIT8.out
  have hBa := HBa8.out.kept (HKP.out ba HLa.out)
  have hBb := HBb8.out.kept (HKP.out bb HLb.out)
  have haA := idxs_mem.1 (HAP.out.mem_iff.1 (show A.getD j 0 ∈ A by simp [List.getD, hjA]))
  have haD := idxs_mem.1 (HDP.out.mem_iff.1 (show D.getD j 0 ∈ D by simp [List.getD, hjD]))
  obtain ⟨a, ha⟩ : ∃ a : Nat, A.getD j 0 = (a : Int) := ⟨(A.getD j 0).toNat, by omega⟩
  obtain ⟨z, hz⟩ : ∃ z : Nat, D.getD j 0 = (z : Int) := ⟨(D.getD j 0).toNat, by omega⟩
  have han : a < n := by omega
  have hzn : z < n := by omega
  have HCU := Lib.hid (cntN_succ hjA ha han)
  have HCD := Lib.hid (cntN_succ hjD hz hzn)
  have hvu := cntN_le (n := n) (o := A) (j := j) han
  have hvd := cntN_le (n := n) (o := D) (j := j) hzn
  have hcu := HU.out.cell (j := a) (by rw [cntN_length]; exact han)
  have hcd := HD.out.cell (j := z) (by rw [cntN_length]; exact hzn)
  have hfu := HU.out.free a
  have hfd := HD.out.free z
  generalize (cntN n A j).getD a 0 = vu at *
  generalize hVD : (cntN n D j).getD z 0 = vd at *
  have HVD := Lib.hid hVD
  clear hVD
  have hwu : IntKind.i64.wrap (vu + 1) = vu + 1 := IntWalk.i64_in _ (by omega)
  have hwd : IntKind.i64.wrap (vd + 1) = vd + 1 := IntWalk.i64_in _ (by omega)
  have HA0 := Lib.hid ha
  have HZ0 := Lib.hid hz
  obtain ⟨qa, fa, rfl, hca, _, _⟩ := hIa.get hjA
  obtain ⟨qb, fb, rfl, hcb, _, _⟩ := hIb.get hjD
  rw [ha] at hca
  rw [hz] at hcb
  obtain ⟨sa0, sa1, sa2, sa3⟩ := hBa.cell
  obtain ⟨sb0, sb1, sb2, sb3⟩ := hBb.cell
  have HITr := Lib.hid hIT
  have HIar := Lib.hid hIa
  have HIbr := Lib.hid hIb
  have HBar := Lib.hid hBa
  have HBbr := Lib.hid hBb
  clear hIa hIb hIT hBa hBb haA haD ha hz hjA hjD hvu hvd
  go_wp2_with fail
  have hS0 : wr.drew.cell? ⟨ba, 2, none⟩ = some (.slice (some ⟨qa, fa, none⟩) n ae2) ∧ wr.drew.cell? ⟨bb, 2, none⟩ = some (.slice (some ⟨qb, fb, none⟩) n be2) ∧ wr.drew.cell? ⟨qa, fa + j, none⟩ = some (.int .i64 (a : Int)) ∧ wr.drew.cell? ⟨qb, fb + j, none⟩ = some (.int .i64 (z : Int)) := ⟨sa2, sb2, hca, hcb⟩
  refine wp_region_g [0, 1, 2, 3, 4, 5, 6, 7, 8, 9] [10, 11] (fun w' => w'.cell? ⟨ba, 2, none⟩ = some (.slice (some ⟨qa, fa, none⟩) n ae2) ∧ w'.cell? ⟨bb, 2, none⟩ = some (.slice (some ⟨qb, fb, none⟩) n be2) ∧ w'.cell? ⟨qa, fa + j, none⟩ = some (.int .i64 (a : Int)) ∧ w'.cell? ⟨qb, fb + j, none⟩ = some (.int .i64 (z : Int))) (by kernel_rfl) (by kernel_rfl) hS0 ?_
  clear sa0 sa1 sa2 sa3 sb0 sb1 sb2 sb3 hca hcb
  iterate 10
    refine wpHead_cons (v := ?_) rfl (by rfl) (fun w' hS => ?_) ?_
    rotate_left
    · obtain ⟨e0, e1, e2, e3⟩ := hS
      go_simp
      try with_reducible rfl
    try simp only [Act.put, List.setIfInBounds_toArray, List.set]
  unfold wpHead
  refine wpTail_cons rfl (fun K hK => ?_)
  go_wp2_with fail
  refine hK _ _ hS0 ?_
  clear hK
  try simp only [Act.put, List.setIfInBounds_toArray, List.set]
  refine wpTail_free1 rfl (by kernel_rfl) ?_
  clear hS0
  have hd : Ext (wr.setCell ⟨gu, a, none⟩ (.int .i64 (vu + 1))) (wr.setCell ⟨gu, a, none⟩ (.int .i64 (vu + 1))).drew := (Ext.refl _).drew
  have HU2 : Hid (RowI (wr.setCell ⟨gu, a, none⟩ (.int .i64 (vu + 1))).drew gu (cntN n A (j + 1))) := by unfold Hid; rw [HCU.out]; exact (HU.out.set _ _).ext hd
  have HD1 := Lib.hid (((HD.out.kept (w' := wr.setCell ⟨gu, a, none⟩ (.int .i64 (vu + 1))) (Below.heap_setCell _ _ _ _ (show gd ≠ gu from hgne')))).ext hd)
  have HK1 : Hid (∀ q, q < w7.heap.size → (wr.setCell ⟨gu, a, none⟩ (.int .i64 (vu + 1))).drew.heap[q]? = wr.heap[q]?) := fun q hq => Below.heap_setCell _ _ _ _ (show q ≠ gu by omega)
  have hwgu : w.heap.size ≤ gu ∧ w.heap.size ≤ gd := by have := HW7.out; omega
  have HE1 : Hid (Ext w (wr.setCell ⟨gu, a, none⟩ (.int .i64 (vu + 1))).drew) := (HEr.out.setCell (p := ⟨gu, a, none⟩) hwgu.1 _).drew
  clear hd HU HD
  go_wp2_with fail
  refine OnlyN.mk ?_
  (try simp only [Exit.inBlock, Exit.then])
  go_upto_region 16 with (fail)
  generalize (wr.setCell ⟨gu, a, none⟩ (.int .i64 (vu + 1))).drew = wu at *
  clear hcu hfu hcd hfd
  have hcd3 := HD1.out.cell (j := z) (by rw [cntN_length]; exact hzn)
  rw [HVD.out] at hcd3
  have hfd3 := HD1.out.free z
  have HU3 : Hid (RowI (wu.setCell ⟨gd, z, none⟩ (.int .i64 (vd + 1))) gu (cntN n A (j + 1))) := HU2.out.kept (Below.heap_setCell _ _ _ _ (show gu ≠ gd from hgne))
  have HD3 : Hid (RowI (wu.setCell ⟨gd, z, none⟩ (.int .i64 (vd + 1))) gd (cntN n D (j + 1))) := by unfold Hid; rw [HCD.out]; exact HD1.out.set _ _
  have HK3 : Hid (∀ q, q < w7.heap.size → (wu.setCell ⟨gd, z, none⟩ (.int .i64 (vd + 1))).heap[q]? = wr.heap[q]?) := fun q hq => (Below.heap_setCell _ _ _ _ (show q ≠ gd by omega)).trans (HK1.out q hq)
  have HE3 : Hid (Ext w (wu.setCell ⟨gd, z, none⟩ (.int .i64 (vd + 1)))) := HE1.out.setCell (p := ⟨gd, z, none⟩) hwgu.2 _
  clear HU2 HD1 HCU HCD HK1 HE1 HVD
  go_upto_region 17 with (fail)
  generalize wu.setCell ⟨gd, z, none⟩ (.int .i64 (vd + 1)) = wk at *
  clear hcd3 hfd3
  have HBar3 := Lib.hid (HBar.out.kept (HK3.out ba HLa.out))
  have HBbr3 := Lib.hid (HBbr.out.kept (HK3.out bb HLb.out))
  have HIar3 := Lib.hid (HIar.out.mono (G := fun b => b < w7.heap.size) (w' := wk) (fun b hb _ => ⟨hb, HK3.out b hb⟩))
  have HIbr3 := Lib.hid (HIbr.out.mono (G := fun b => b < w7.heap.size) (w' := wk) (fun b hb _ => ⟨hb, HK3.out b hb⟩))
  have HITr3 := Lib.hid (ItemsAt.mono (G := fun b => b < w7.heap.size) (w' := wk) (fun b hb _ => ⟨hb, HK3.out b hb⟩) _ _ _ HITr.out)
  have HKP3 : Hid (∀ q, q < w7.heap.size → wk.heap[q]? = w8.heap[q]?) := fun q hq => (HK3.out q hq).trans (HKP.out q hq)
  clear HBar HBbr HIar HIbr HITr HKP HK3 HEr
  by_cases hj0 : 0 < j
  rotate_left
  · go_wp2_with fail
    go_roundw
    case rel => exact ⟨j + 1, by go_num, by omega, HU3, HD3, HKP3, HE3⟩
    case measure => simp [intOf]; omega
  obtain ⟨j', hj'⟩ : ∃ j', j - 1 = j' := ⟨_, rfl⟩
  have hjj : (j : Int) - 1 = (j' : Int) := by omega
  have hwj : IntKind.i64.wrap (j' : Int) = (j' : Int) := IntWalk.i64_in _ (by omega)
  have hjn' : j' < n := by omega
  have hA1 : j' < A.length := by rw [HAL.out]; exact hjn'
  have hA2 : j < A.length := by rw [HAL.out]; exact hlt
  have hD1 : j' < D.length := by rw [HDL.out]; exact hjn'
  have hD2 : j < D.length := by rw [HDL.out]; exact hlt
  have hb1 := idxs_mem.1 (HAP.out.mem_iff.1 (show A.getD j' 0 ∈ A by simp [List.getD, hA1]))
  have hb2 := idxs_mem.1 (HDP.out.mem_iff.1 (show D.getD j' 0 ∈ D by simp [List.getD, hD1]))
  obtain ⟨ap, hap⟩ : ∃ ap : Nat, A.getD j' 0 = (ap : Int) := ⟨(A.getD j' 0).toNat, by omega⟩
  obtain ⟨zp, hzp⟩ : ∃ zp : Nat, D.getD j' 0 = (zp : Int) := ⟨(D.getD j' 0).toNat, by omega⟩
  have Hapn : Hid (ap < n) := by unfold Hid; omega
  have Hzpn : Hid (zp < n) := by unfold Hid; omega
  have Hap := Lib.hid hap
  have Hzp := Lib.hid hzp
  have HcA : Hid (cmpF m (C.getD ap default) (C.getD a default) < 0 ∨ (cmpF m (C.getD ap default) (C.getD a default) = 0 ∧ (ap : Int) < (a : Int))) := by
    have h := grade_pw (cmpF_ord m) C
    rw [HAg.out] at h
    have h2 := List.pairwise_iff_getElem.1 h j' j hA1 hA2 (by omega)
    have e1 : A[j'] = (ap : Int) := by rw [← hap]; simp [List.getD, hA1]
    have e2 : A[j] = (a : Int) := by rw [← HA0.out]; simp [List.getD, hA2]
    rw [e1, e2] at h2
    exact h2
  have HcD : Hid (0 < cmpF m (C.getD zp default) (C.getD z default) ∨ (cmpF m (C.getD zp default) (C.getD z default) = 0 ∧ (zp : Int) < (z : Int))) := by
    have h := grade_pw (cmpF_ord m).flip C
    rw [HDg.out] at h
    have h2 := List.pairwise_iff_getElem.1 h j' j hD1 hD2 (by omega)
    have e1 : D[j'] = (zp : Int) := by rw [← hzp]; simp [List.getD, hD1]
    have e2 : D[j] = (z : Int) := by rw [← HZ0.out]; simp [List.getD, hD2]
    rw [e1, e2] at h2
    have h3 : cmpF m (C.getD z default) (C.getD zp default) < 0 ∨ (cmpF m (C.getD z default) (C.getD zp default) = 0 ∧ (zp : Int) < (z : Int)) := h2
    have h4 := cmpF_neg m (C.getD zp default) (C.getD z default)
    unfold Hid
    omega
  obtain ⟨bi, oi, _, _, _, _, hpl, _⟩ := HITr3.out.getD (j := a) (by rw [HN.out]; exact han)
  subst hpl
  clear hA1 hA2 hD1 hD2 hb1 hb2 hap hzp HA0 HZ0 hj' hwu hwd
  go_wp2_with fail

  have hpn : ap < n := Hapn.out
  obtain ⟨x0, x1, x2, x3, hX0⟩ : ∃ x0 x1 x2 x3, (wk.cell? ⟨bi, oi + ap * 4, none⟩ = some x0 ∧ wk.cell? ⟨bi, oi + ap * 4 + 1, none⟩ = some x1 ∧ wk.cell? ⟨bi, oi + ap * 4 + 2, none⟩ = some x2 ∧ wk.cell? ⟨bi, oi + ap * 4 + 3, none⟩ = some x3) ∧ ArrAt (fun b => b < w7.heap.size) wk (C.getD ap default) x0 x1 x2 x3 := by
    obtain ⟨b', o', x0, x1, x2, x3, e2, h0, h1, h2, h3, hX⟩ := HITr3.out.getD (j := ap) (by rw [HN.out]; omega)
    simp only [Option.some.injEq, Addr.mk.injEq, and_true] at e2
    obtain ⟨rfl, rfl⟩ := e2
    exact ⟨_, _, _, _, ⟨h0, h1, h2, h3⟩, hX⟩
  obtain ⟨y0, y1, y2, y3, hY0⟩ : ∃ x0 x1 x2 x3, (wk.cell? ⟨bi, oi + a * 4, none⟩ = some x0 ∧ wk.cell? ⟨bi, oi + a * 4 + 1, none⟩ = some x1 ∧ wk.cell? ⟨bi, oi + a * 4 + 2, none⟩ = some x2 ∧ wk.cell? ⟨bi, oi + a * 4 + 3, none⟩ = some x3) ∧ ArrAt (fun b => b < w7.heap.size) wk (C.getD a default) x0 x1 x2 x3 := by
    obtain ⟨b', o', x0, x1, x2, x3, e2, h0, h1, h2, h3, hX⟩ := HITr3.out.getD (j := a) (by rw [HN.out]; omega)
    simp only [Option.some.injEq, Addr.mk.injEq, and_true] at e2
    obtain ⟨rfl, rfl⟩ := e2
    exact ⟨_, _, _, _, ⟨h0, h1, h2, h3⟩, hX⟩
  obtain ⟨⟨g0, g1, g2, g3⟩, hXX⟩ := hX0
  obtain ⟨⟨h0, h1, h2, h3⟩, hYY⟩ := hY0
  have hq : wk.cell? ⟨qa, fa + j', none⟩ = some (.int .i64 (ap : Int)) := by
    obtain ⟨q1, f1, e1, hc, _, _⟩ := HIar3.out.get (show j' < A.length by rw [HAL.out]; omega)
    simp only [Option.some.injEq, Addr.mk.injEq, and_true] at e1
    obtain ⟨rfl, rfl⟩ := e1
    rw [Hap.out] at hc
    exact hc
  have hRx := HOK.out (C.getD ap default) (by have h : ap < C.length := (by rw [HN.out]; omega); simp [List.getD, h])
  have hRy := HOK.out (C.getD a default) (by have h : a < C.length := (by rw [HN.out]; omega); simp [List.getD, h])
  have hoc2 := ocmpM_right hRx.2 hRy.2 (m := m)
  have HCALL := Lib.hid (fun (w' : World) (e : Ext wk w') => rocomparem_any m _ _ (C.getD ap default) (C.getD a default) _ _ _ _ _ _ _ _ w' (hXX.ext e) (hYY.ext e) hRx.1)
  rw [hoc2] at HCALL
  obtain ⟨kx18, px1, lx1, cx1, px2, lx2, cx2, px3, lx3, cx3, rfl, rfl, rfl, rfl⟩ := hXX.form
  obtain ⟨ky18, py1, ly1, cy1, py2, ly2, cy2, py3, ly3, cy3, rfl, rfl, rfl, rfl⟩ := hYY.form
  obtain ⟨_, _, sB2, _⟩ := HBar3.out.cell
  generalize cmpF m (C.getD ap default) (C.getD a default) = cA at *
  clear hRx hRy hoc2 hXX hYY
  go_wp2_with fail
  have hS0 : wk.drew.cell? ⟨ba, 2, none⟩ = some (.slice (some ⟨qa, fa, none⟩) n ae2) ∧ wk.drew.cell? ⟨qa, fa + j', none⟩ = some (.int .i64 (ap : Int)) ∧ (wk.drew.cell? ⟨bi, oi + ap * 4, none⟩ = some (.int .i64 kx18) ∧ wk.drew.cell? ⟨bi, oi + ap * 4 + 1, none⟩ = some (.slice px1 lx1 cx1) ∧ wk.drew.cell? ⟨bi, oi + ap * 4 + 2, none⟩ = some (.slice px2 lx2 cx2) ∧ wk.drew.cell? ⟨bi, oi + ap * 4 + 3, none⟩ = some (.slice px3 lx3 cx3)) ∧
    (wk.drew.cell? ⟨bi, oi + a * 4, none⟩ = some (.int .i64 ky18) ∧ wk.drew.cell? ⟨bi, oi + a * 4 + 1, none⟩ = some (.slice py1 ly1 cy1) ∧ wk.drew.cell? ⟨bi, oi + a * 4 + 2, none⟩ = some (.slice py2 ly2 cy2) ∧ wk.drew.cell? ⟨bi, oi + a * 4 + 3, none⟩ = some (.slice py3 ly3 cy3)) := ⟨sB2, hq, ⟨g0, g1, g2, g3⟩, h0, h1, h2, h3⟩
  refine wp_region_g [0, 1, 2, 3, 4, 5, 6, 7, 8, 9, 10, 11, 12] [13, 14] (fun w' => w'.cell? ⟨ba, 2, none⟩ = some (.slice (some ⟨qa, fa, none⟩) n ae2) ∧ w'.cell? ⟨qa, fa + j', none⟩ = some (.int .i64 (ap : Int)) ∧ (w'.cell? ⟨bi, oi + ap * 4, none⟩ = some (.int .i64 kx18) ∧ w'.cell? ⟨bi, oi + ap * 4 + 1, none⟩ = some (.slice px1 lx1 cx1) ∧ w'.cell? ⟨bi, oi + ap * 4 + 2, none⟩ = some (.slice px2 lx2 cx2) ∧ w'.cell? ⟨bi, oi + ap * 4 + 3, none⟩ = some (.slice px3 lx3 cx3)) ∧
    (w'.cell? ⟨bi, oi + a * 4, none⟩ = some (.int .i64 ky18) ∧ w'.cell? ⟨bi, oi + a * 4 + 1, none⟩ = some (.slice py1 ly1 cy1) ∧ w'.cell? ⟨bi, oi + a * 4 + 2, none⟩ = some (.slice py2 ly2 cy2) ∧ w'.cell? ⟨bi, oi + a * 4 + 3, none⟩ = some (.slice py3 ly3 cy3))) (by kernel_rfl) (by kernel_rfl) hS0 ?_
  clear g0 g1 g2 g3 h0 h1 h2 h3 hq sB2
  iterate 13
    refine wpHead_cons (v := ?_) rfl (by rfl) (fun w' hS => ?_) ?_
    rotate_left
    · obtain ⟨e0, e1, ⟨g0, g1, g2, g3⟩, h0, h1, h2, h3⟩ := hS
      go_simp
      try with_reducible rfl
    try simp only [Act.put, List.setIfInBounds_toArray, List.set]
  unfold wpHead
  refine wpTail_cons rfl (fun K hK => ?_)
  go_wp2_with fail
  refine (HCALL.out wk.drew (Ext.refl _).drew).mono ?_
  rintro e wz1 ⟨rfl, hE8⟩
  have hEx : Ext wk wz1 := (Ext.refl wk).drew.trans hE8
  go_wp2_with fail
  refine hK _ _ ⟨hE8.cell hS0.1, hE8.cell hS0.2.1, ⟨hE8.cell hS0.2.2.1.1, hE8.cell hS0.2.2.1.2.1, hE8.cell hS0.2.2.1.2.2.1, hE8.cell hS0.2.2.1.2.2.2⟩, hE8.cell hS0.2.2.2.1, hE8.cell hS0.2.2.2.2.1, hE8.cell hS0.2.2.2.2.2.1, hE8.cell hS0.2.2.2.2.2.2⟩ ?_
  clear hK hS0 HCALL
  try simp only [Act.put, List.setIfInBounds_toArray, List.set]
  refine wpTail_free1 rfl (by kernel_rfl) ?_
  have HKq : Hid (∀ q, q < w7.heap.size → wz1.heap[q]? = wk.heap[q]?) := fun q hq => hEx.block (Nat.lt_of_lt_of_le hq (by have := HU3.out.lt; omega))
  replace HU3 := Lib.hid (HU3.out.ext hEx)
  replace HD3 := Lib.hid (HD3.out.ext hEx)
  replace HE3 := Lib.hid (HE3.out.trans hEx)
  replace HBar3 := Lib.hid (HBar3.out.ext hEx)
  replace HBbr3 := Lib.hid (HBbr3.out.ext hEx)
  replace HIar3 := Lib.hid (HIar3.out.ext hEx)
  replace HIbr3 := Lib.hid (HIbr3.out.ext hEx)
  replace HITr3 := Lib.hid (HITr3.out.ext hEx)
  replace HKP3 : Hid (∀ q, q < w7.heap.size → wz1.heap[q]? = w8.heap[q]?) := fun q hq => (HKq.out q hq).trans (HKP3.out q hq)
  clear hE8 hEx HKq hpn
  go_wp2_with fail
  refine OnlyN.mk ?_
  (try simp only [Exit.inBlock, Exit.then])

  have hpn : zp < n := Hzpn.out
  obtain ⟨x0, x1, x2, x3, hX0⟩ : ∃ x0 x1 x2 x3, (wz1.cell? ⟨bi, oi + zp * 4, none⟩ = some x0 ∧ wz1.cell? ⟨bi, oi + zp * 4 + 1, none⟩ = some x1 ∧ wz1.cell? ⟨bi, oi + zp * 4 + 2, none⟩ = some x2 ∧ wz1.cell? ⟨bi, oi + zp * 4 + 3, none⟩ = some x3) ∧ ArrAt (fun b => b < w7.heap.size) wz1 (C.getD zp default) x0 x1 x2 x3 := by
    obtain ⟨b', o', x0, x1, x2, x3, e2, h0, h1, h2, h3, hX⟩ := HITr3.out.getD (j := zp) (by rw [HN.out]; omega)
    simp only [Option.some.injEq, Addr.mk.injEq, and_true] at e2
    obtain ⟨rfl, rfl⟩ := e2
    exact ⟨_, _, _, _, ⟨h0, h1, h2, h3⟩, hX⟩
  obtain ⟨y0, y1, y2, y3, hY0⟩ : ∃ x0 x1 x2 x3, (wz1.cell? ⟨bi, oi + z * 4, none⟩ = some x0 ∧ wz1.cell? ⟨bi, oi + z * 4 + 1, none⟩ = some x1 ∧ wz1.cell? ⟨bi, oi + z * 4 + 2, none⟩ = some x2 ∧ wz1.cell? ⟨bi, oi + z * 4 + 3, none⟩ = some x3) ∧ ArrAt (fun b => b < w7.heap.size) wz1 (C.getD z default) x0 x1 x2 x3 := by
    obtain ⟨b', o', x0, x1, x2, x3, e2, h0, h1, h2, h3, hX⟩ := HITr3.out.getD (j := z) (by rw [HN.out]; omega)
    simp only [Option.some.injEq, Addr.mk.injEq, and_true] at e2
    obtain ⟨rfl, rfl⟩ := e2
    exact ⟨_, _, _, _, ⟨h0, h1, h2, h3⟩, hX⟩
  obtain ⟨⟨g0, g1, g2, g3⟩, hXX⟩ := hX0
  obtain ⟨⟨h0, h1, h2, h3⟩, hYY⟩ := hY0
  have hq : wz1.cell? ⟨qb, fb + j', none⟩ = some (.int .i64 (zp : Int)) := by
    obtain ⟨q1, f1, e1, hc, _, _⟩ := HIbr3.out.get (show j' < D.length by rw [HDL.out]; omega)
    simp only [Option.some.injEq, Addr.mk.injEq, and_true] at e1
    obtain ⟨rfl, rfl⟩ := e1
    rw [Hzp.out] at hc
    exact hc
  have hRx := HOK.out (C.getD zp default) (by have h : zp < C.length := (by rw [HN.out]; omega); simp [List.getD, h])
  have hRy := HOK.out (C.getD z default) (by have h : z < C.length := (by rw [HN.out]; omega); simp [List.getD, h])
  have hoc2 := ocmpM_right hRx.2 hRy.2 (m := m)
  have HCALL := Lib.hid (fun (w' : World) (e : Ext wz1 w') => rocomparem_any m _ _ (C.getD zp default) (C.getD z default) _ _ _ _ _ _ _ _ w' (hXX.ext e) (hYY.ext e) hRx.1)
  rw [hoc2] at HCALL
  obtain ⟨kx19, px1, lx1, cx1, px2, lx2, cx2, px3, lx3, cx3, rfl, rfl, rfl, rfl⟩ := hXX.form
  obtain ⟨ky19, py1, ly1, cy1, py2, ly2, cy2, py3, ly3, cy3, rfl, rfl, rfl, rfl⟩ := hYY.form
  obtain ⟨_, _, sB2, _⟩ := HBbr3.out.cell
  generalize cmpF m (C.getD zp default) (C.getD z default) = cD at *
  clear hRx hRy hoc2 hXX hYY
  go_wp2_with fail
  have hS0 : wz1.drew.cell? ⟨bb, 2, none⟩ = some (.slice (some ⟨qb, fb, none⟩) n be2) ∧ wz1.drew.cell? ⟨qb, fb + j', none⟩ = some (.int .i64 (zp : Int)) ∧ (wz1.drew.cell? ⟨bi, oi + zp * 4, none⟩ = some (.int .i64 kx19) ∧ wz1.drew.cell? ⟨bi, oi + zp * 4 + 1, none⟩ = some (.slice px1 lx1 cx1) ∧ wz1.drew.cell? ⟨bi, oi + zp * 4 + 2, none⟩ = some (.slice px2 lx2 cx2) ∧ wz1.drew.cell? ⟨bi, oi + zp * 4 + 3, none⟩ = some (.slice px3 lx3 cx3)) ∧
    (wz1.drew.cell? ⟨bi, oi + z * 4, none⟩ = some (.int .i64 ky19) ∧ wz1.drew.cell? ⟨bi, oi + z * 4 + 1, none⟩ = some (.slice py1 ly1 cy1) ∧ wz1.drew.cell? ⟨bi, oi + z * 4 + 2, none⟩ = some (.slice py2 ly2 cy2) ∧ wz1.drew.cell? ⟨bi, oi + z * 4 + 3, none⟩ = some (.slice py3 ly3 cy3)) := ⟨sB2, hq, ⟨g0, g1, g2, g3⟩, h0, h1, h2, h3⟩
  refine wp_region_g [0, 1, 2, 3, 4, 5, 6, 7, 8, 9, 10, 11, 12] [13, 14] (fun w' => w'.cell? ⟨bb, 2, none⟩ = some (.slice (some ⟨qb, fb, none⟩) n be2) ∧ w'.cell? ⟨qb, fb + j', none⟩ = some (.int .i64 (zp : Int)) ∧ (w'.cell? ⟨bi, oi + zp * 4, none⟩ = some (.int .i64 kx19) ∧ w'.cell? ⟨bi, oi + zp * 4 + 1, none⟩ = some (.slice px1 lx1 cx1) ∧ w'.cell? ⟨bi, oi + zp * 4 + 2, none⟩ = some (.slice px2 lx2 cx2) ∧ w'.cell? ⟨bi, oi + zp * 4 + 3, none⟩ = some (.slice px3 lx3 cx3)) ∧
    (w'.cell? ⟨bi, oi + z * 4, none⟩ = some (.int .i64 ky19) ∧ w'.cell? ⟨bi, oi + z * 4 + 1, none⟩ = some (.slice py1 ly1 cy1) ∧ w'.cell? ⟨bi, oi + z * 4 + 2, none⟩ = some (.slice py2 ly2 cy2) ∧ w'.cell? ⟨bi, oi + z * 4 + 3, none⟩ = some (.slice py3 ly3 cy3))) (by kernel_rfl) (by kernel_rfl) hS0 ?_
  clear g0 g1 g2 g3 h0 h1 h2 h3 hq sB2
  iterate 13
    refine wpHead_cons (v := ?_) rfl (by rfl) (fun w' hS => ?_) ?_
    rotate_left
    · obtain ⟨e0, e1, ⟨g0, g1, g2, g3⟩, h0, h1, h2, h3⟩ := hS
      go_simp
      try with_reducible rfl
    try simp only [Act.put, List.setIfInBounds_toArray, List.set]
  unfold wpHead
  refine wpTail_cons rfl (fun K hK => ?_)
  go_wp2_with fail
  refine (HCALL.out wz1.drew (Ext.refl _).drew).mono ?_
  rintro e wz2 ⟨rfl, hE8⟩
  have hEx : Ext wz1 wz2 := (Ext.refl wz1).drew.trans hE8
  go_wp2_with fail
  refine hK _ _ ⟨hE8.cell hS0.1, hE8.cell hS0.2.1, ⟨hE8.cell hS0.2.2.1.1, hE8.cell hS0.2.2.1.2.1, hE8.cell hS0.2.2.1.2.2.1, hE8.cell hS0.2.2.1.2.2.2⟩, hE8.cell hS0.2.2.2.1, hE8.cell hS0.2.2.2.2.1, hE8.cell hS0.2.2.2.2.2.1, hE8.cell hS0.2.2.2.2.2.2⟩ ?_
  clear hK hS0 HCALL
  try simp only [Act.put, List.setIfInBounds_toArray, List.set]
  refine wpTail_free1 rfl (by kernel_rfl) ?_
  have HKq : Hid (∀ q, q < w7.heap.size → wz2.heap[q]? = wz1.heap[q]?) := fun q hq => hEx.block (Nat.lt_of_lt_of_le hq (by have := HU3.out.lt; omega))
  replace HU3 := Lib.hid (HU3.out.ext hEx)
  replace HD3 := Lib.hid (HD3.out.ext hEx)
  replace HE3 := Lib.hid (HE3.out.trans hEx)
  replace HBar3 := Lib.hid (HBar3.out.ext hEx)
  replace HBbr3 := Lib.hid (HBbr3.out.ext hEx)
  replace HIar3 := Lib.hid (HIar3.out.ext hEx)
  replace HIbr3 := Lib.hid (HIbr3.out.ext hEx)
  replace HITr3 := Lib.hid (HITr3.out.ext hEx)
  replace HKP3 : Hid (∀ q, q < w7.heap.size → wz2.heap[q]? = w8.heap[q]?) := fun q hq => (HKq.out q hq).trans (HKP3.out q hq)
  clear hE8 hEx HKq hpn
  go_wp2_with fail
  refine OnlyN.mk ?_
  (try simp only [Exit.inBlock, Exit.then])
  obtain ⟨_, _, sA2, _⟩ := HBar3.out.cell
  obtain ⟨_, _, sD2, _⟩ := HBbr3.out.cell
  have hqa : wz2.cell? ⟨qa, fa + j', none⟩ = some (.int .i64 (ap : Int)) := by
    obtain ⟨q1, f1, e1, hc, _, _⟩ := HIar3.out.get (show j' < A.length by rw [HAL.out]; omega)
    simp only [Option.some.injEq, Addr.mk.injEq, and_true] at e1
    obtain ⟨rfl, rfl⟩ := e1
    rw [Hap.out] at hc
    exact hc
  have hqd : wz2.cell? ⟨qb, fb + j', none⟩ = some (.int .i64 (zp : Int)) := by
    obtain ⟨q1, f1, e1, hc, _, _⟩ := HIbr3.out.get (show j' < D.length by rw [HDL.out]; omega)
    simp only [Option.some.injEq, Addr.mk.injEq, and_true] at e1
    obtain ⟨rfl, rfl⟩ := e1
    rw [Hzp.out] at hc
    exact hc
  have hca := HcA.out
  have hcd := HcD.out
  clear HcA HcD
  by_cases hz1 : cA = 0
  · have hl1 : ¬ ((a : Int) ≤ (ap : Int)) := by omega
    by_cases hz2 : cD = 0
    · have hl2 : ¬ ((z : Int) ≤ (zp : Int)) := by omega
      subst hz1 hz2
      clear hca hcd
      go_wp2_with fail
      go_roundw
      case rel => exact ⟨j + 1, by go_num, by omega, HU3, HD3, HKP3, HE3⟩
      case measure => simp [intOf]; omega
    · have hl2 : 0 < cD := by omega
      have hl3 : ¬ cD < 0 := by omega
      subst hz1
      clear hca hcd
      go_wp2_with fail
      go_roundw
      case rel => exact ⟨j + 1, by go_num, by omega, HU3, HD3, HKP3, HE3⟩
      case measure => simp [intOf]; omega
  · have hl1 : cA < 0 := by omega
    have hl4 : ¬ 0 < cA := by omega
    by_cases hz2 : cD = 0
    · have hl2 : ¬ ((z : Int) ≤ (zp : Int)) := by omega
      subst hz2
      clear hca hcd
      go_wp2_with fail
      go_roundw
      case rel => exact ⟨j + 1, by go_num, by omega, HU3, HD3, HKP3, HE3⟩
      case measure => simp [intOf]; omega
    · have hl2 : 0 < cD := by omega
      have hl3 : ¬ cD < 0 := by omega
      clear hca hcd
      go_wp2_with fail
      go_roundw
      case rel => exact ⟨j + 1, by go_num, by omega, HU3, HD3, HKP3, HE3⟩
      case measure => simp [intOf]; omega
end Go.Proofs.Ytgeppialbkijiaa
