/-
  THE WALK of law21.TransposingBack: it returns true, and turns nothing that was there. (Printed by gen_back.py.)
-/
import Derived.Test.YtcmnlnamgnbemaaChain
import Derived.Test.YtcmnlnamgnbemaaRegY
import Derived.Test.YtcmnlnamgnbemaaBackLaw
import Derived.Test.YtcmnlnamgnbemaaSays
namespace Go.Proofs.Ytcmnlnamgnbemaa
set_option linter.unusedSimpArgs false
set_option linter.unusedVariables false
open Go.RowKit

/-- The inverse, as it is filled. -/
def bkN : Nat → List Int → Nat → List Int
  | 0, _, r => List.replicate r 0
  | q + 1, lo, r => (bkN q lo r).set (lo.getD q 0).toNat q
theorem bkN_length : ∀ (q : Nat) (lo : List Int) (r : Nat), (bkN q lo r).length = r
  | 0, lo, r => by simp [bkN]
  | q + 1, lo, r => by rw [bkN, List.length_set, bkN_length q lo r]
theorem idL_nodup (r : Nat) : (idL r).Nodup := by
  unfold idL
  refine List.pairwise_map.2 (List.Pairwise.imp_of_mem ?_ (List.nodup_range (n := r)))
  intro a b _ _ h e
  exact h (by omega)
theorem perm_get {lo : List Int} {r : Nat} (h : lo.Perm (idL r)) {i : Nat} (hi : i < r) : 0 ≤ lo.getD i 0 ∧ lo.getD i 0 < r := by
  have hl : lo.length = r := by rw [h.length_eq, idL_length]
  have hm : lo.getD i 0 ∈ idL r := h.mem_iff.1 (getD_in (by omega))
  unfold idL at hm
  obtain ⟨k, hk, e⟩ := List.mem_map.1 hm
  rw [List.mem_range] at hk
  omega
theorem perm_ne {lo : List Int} {r : Nat} (h : lo.Perm (idL r)) {i j : Nat} (hi : i < r) (hj : j < r) (hne : i ≠ j) : lo.getD i 0 ≠ lo.getD j 0 := by
  have hl : lo.length = r := by rw [h.length_eq, idL_length]
  have hn : lo.Nodup := (h.nodup_iff).2 (idL_nodup r)
  intro e
  have key : ∀ a b : Nat, a < b → b < r → lo.getD a 0 = lo.getD b 0 → False := by
    intro a b hab hb e
    have := List.pairwise_iff_getElem.1 hn a b (by omega) (by omega) hab
    simp only [List.getD, List.getElem?_eq_getElem (show a < lo.length by omega), List.getElem?_eq_getElem (show b < lo.length by omega), Option.getD_some] at e
    exact this e
  rcases Nat.lt_or_ge i j with h1 | h1
  · exact key i j h1 hj e
  · exact key j i (by omega) hi e.symm
theorem bkN_at {lo : List Int} {r : Nat} (h : lo.Perm (idL r)) : ∀ (q : Nat), q ≤ r → ∀ a, a < q → (bkN q lo r).getD (lo.getD a 0).toNat 0 = a
  | 0, _, a, ha => by omega
  | q + 1, hq, a, ha => by
    have h1 := perm_get h (i := a) (by omega)
    have h2 := perm_get h (i := q) (by omega)
    rw [bkN, getD_set (by rw [bkN_length]; omega)]
    by_cases hx : a = q
    · subst hx; simp
    · have := perm_ne h (i := a) (j := q) (by omega) (by omega) hx
      rw [if_neg (by omega), bkN_at h q (by omega) a (by omega)]
theorem perm_inv {lo : List Int} {r : Nat} (h : lo.Perm (idL r)) : PInv lo (bkN r lo r) r := by
  have hl : lo.length = r := by rw [h.length_eq, idL_length]
  have hb : ∀ j, j < r → ∃ i, i < r ∧ lo.getD i 0 = j ∧ (bkN r lo r).getD j 0 = i := by
    intro j hj
    have hm : (j : Int) ∈ lo := h.mem_iff.2 (by unfold idL; exact List.mem_map.2 ⟨j, List.mem_range.2 hj, rfl⟩)
    obtain ⟨i, hi, e⟩ := List.mem_iff_getElem.1 hm
    have e2 : lo.getD i 0 = j := by simp [List.getD, hi, e]
    have := bkN_at h r (Nat.le_refl _) i (by omega)
    rw [e2] at this
    exact ⟨i, by omega, e2, by simpa using this⟩
  refine ⟨hl, bkN_length _ _ _, fun i hi => perm_get h hi, fun j hj => ?_, fun i hi => bkN_at h r (Nat.le_refl _) i hi, fun j hj => ?_⟩
  · obtain ⟨i, h1, _, h3⟩ := hb j hj
    rw [h3]; omega
  · obtain ⟨i, h1, h2, h3⟩ := hb j hj
    rw [h3]
    simpa using h2
theorem idL_succ (r : Nat) : idL (r + 1) = idL r ++ [(r : Int)] := by simp [idL, List.range_succ]
theorem perm_step {lo : List Int} {j k : Nat} (h : lo.Perm (idL j)) : (lo.take k ++ [(j : Int)] ++ lo.drop k).Perm (idL (j + 1)) := by
  rw [idL_succ, List.append_assoc]
  have h1 : (lo.take k ++ ([(j : Int)] ++ lo.drop k)).Perm ((j : Int) :: (lo.take k ++ lo.drop k)) := List.perm_middle
  rw [List.take_append_drop] at h1
  have h2 : (idL j ++ [(j : Int)]).Perm ((j : Int) :: idL j) := List.perm_append_singleton _ _
  exact (h1.trans (h.cons _)).trans h2.symm
theorem rev_succ (j : Nat) : revAxes (j + 1) = (j : Int) :: revAxes j := by
  unfold revAxes
  rw [List.range_succ_eq_map, List.map_cons, List.map_map]
  congr 1
  · omega
  · apply List.map_congr_left
    intro i _
    simp only [Function.comp]
    omega

/-- A slice of bytes. -/
def BytesAt (F : Nat → Prop) (w : World) (p : Option Addr) (xs : List Int) : Prop :=
  ∀ i, i < xs.length → ∃ b off, p = some ⟨b, off, none⟩ ∧ F b ∧ w.cell? ⟨b, off + i, none⟩ = some (.int .u8 (xs.getD i 0)) ∧ 0 ≤ xs.getD i 0 ∧ xs.getD i 0 ≤ 255
theorem BytesAt.ext {F : Nat → Prop} {w w' : World} {p : Option Addr} {xs : List Int} (h : BytesAt F w p xs) (e : Ext w w') : BytesAt F w' p xs := fun i hi => by
  obtain ⟨b, off, h1, h2, h3, h4⟩ := h i hi
  exact ⟨b, off, h1, h2, e.cell h3, h4⟩
theorem OwnI.atB {B : Nat} {X : Nat → Prop} {w : World} {p : Option Addr} {n c : Nat} {xs : List Int} (h : OwnI B X w (.slice p n c) n xs) {j : Nat} (hj : j < n) :
    ∃ g, p = some ⟨g, 0, none⟩ ∧ B ≤ g ∧ g < w.heap.size ∧ w.cell? ⟨g, j, none⟩ = some (.int .i64 (xs.getD j 0)) ∧ w.frozen? ⟨g, j, none⟩ = false ∧
      ∀ v : Int, -9223372036854775808 ≤ v ∧ v ≤ 9223372036854775807 → OwnI B X (w.setCell ⟨g, j, none⟩ (.int .i64 v)) (.slice p n c) n (xs.set j v) := by
  have e := h.1
  subst e
  exact h.at hj
theorem rdix_one {X : Nat → Prop} (w : World) (n : Nat) (h : n ≤ 9223372036854775807) (hX : ∀ b, X b → b < w.heap.size) : RdIX X (w.alloc (.cells #[.int .i64 (n : Int)] 3)) [(n : Int)] (.slice (some ⟨w.heap.size, 0, none⟩) 1 1) :=
  ⟨_, _, rfl, ⟨Nat.le_refl _, by simp, by simp⟩, ((rowI_new w [(n : Int)]).ints (fun x hx => by rw [List.mem_singleton] at hx; omega)).mono fun b hb hlt => ⟨⟨hlt, fun hx => by have := hX b hx; omega⟩, rfl⟩⟩
theorem vec_rd {X : Nat → Prop} {w : World} {l : List Int} {v : Value} (h : RdIX X w l v) (hX : ∀ b, X b → b < w.heap.size) : Calls Try.prog 37 #[v] w fun e w' => ∃ x, e = .returned x ∧ RdX X w' (vecV l) x ∧ Ext w w' := by
  obtain ⟨p, c, rfl, hk, hi⟩ := h
  refine (vec_any _ p c l w hi hk).mono ?_
  rintro e w' ⟨e0, e1, e2, e3, rfl, hA, hE⟩
  exact ⟨_, rfl, RdX.new hA (fun b hb _ => hb.imp id (fun h => h.2)) hX, hE⟩
theorem axes_at {X : Nat → Prop} {w : World} {a b t : Arr} {n : Int} {v1 v2 : Value} (ex : axesV a b = (t, n)) (h1 : RdX X w a v1) (h2 : RdX X w b v2) (hX : ∀ b, X b → b < w.heap.size) : Calls Try.prog 33 #[v1, v2] w fun e w' => ∃ x, e = .returned (.tuple #[x, .int .i64 n]) ∧ RdX X w' t x ∧ Ext w w' := by
  obtain ⟨c0, c1, c2, c3, rfl, hA⟩ := h1
  obtain ⟨d0, d1, d2, d3, rfl, hB⟩ := h2
  refine (axes_any _ _ a b _ _ _ _ _ _ _ _ w hA hB).mono ?_
  rintro e w' ⟨e0, e1, e2, e3, rfl, hR, hE⟩
  rw [ex] at hR ⊢
  exact ⟨_, rfl, RdX.new hR (fun b hb _ => .inl hb) hX, hE⟩
theorem reverse_at {X : Nat → Prop} {w : World} {a t : Arr} {v : Value} (ex : reverseV a = t) (h : RdX X w a v) (hX : ∀ b, X b → b < w.heap.size) : Calls Try.prog 35 #[v] w fun e w' => ∃ x, e = .returned x ∧ RdX X w' t x ∧ Ext w w' := by
  subst ex
  exact reverse_rd h hX

set_option maxRecDepth 100000 in
set_option maxHeartbeats 8000000 in
theorem back_any (G FL : Nat → Prop) (y : Arr) (d0 d1 d2 d3 : Value) (l : List Int) (pl : Option Addr) (cl : Nat) (w : World) (hy : ArrAt G w y d0 d1 d2 d3) (hl : BytesAt FL w pl l) (hl9 : l.length ≤ 9223372036854775807) :
    Calls Try.prog 8 #[.agg #[d0, d1, d2, d3], .slice pl l.length cl] w fun e w' => e = .returned (.bool true) ∧ Ext w w' := by
  obtain ⟨ky, sy, ny, iy⟩ := y
  have hy' := hy
  unfold ArrAt at hy'
  obtain ⟨rfl, hky, ⟨r1, n1, rfl, ⟨p1, p1', p1''⟩, j1⟩, ⟨r2, n2, rfl, ⟨p2, p2', p2''⟩, j2⟩, ⟨r3, n3, rfl, ⟨p3, p3', p3''⟩, j3⟩⟩ := hy'
  have HAy := Lib.hid hy
  have HL := Lib.hid hl
  clear hy j1 j2 j3 hl
  go_enter Try.func8, Try.ntmps8
  go_upto_region 1 with (fail)
  have hE0 : Ext w (w.alloc (.cells #[.int .i64 ky, .slice r1 sy.length n1, .slice r2 ny.length n2, .slice r3 iy.length n3] 26)) := (Ext.refl _).alloc _
  have hBy := box_new w (.int .i64 ky) (.slice r1 sy.length n1) (.slice r2 ny.length n2) (.slice r3 iy.length n3)
  generalize w.alloc (.cells #[.int .i64 ky, .slice r1 sy.length n1, .slice r2 ny.length n2, .slice r3 iy.length n3] 26) = w1 at hE0 hBy ⊢
  have HBy := Lib.hid hBy
  have HE := Lib.hid hE0
  replace HAy := Lib.hid (HAy.out.ext hE0)
  replace HL := Lib.hid (HL.out.ext hE0)
  clear hBy hE0
  obtain ⟨t0, t1, t2, t3⟩ := HBy.out.cell
  go_wp2_with fail
  refine (few_any _ _ _ _ _ _ 500 w1 HAy.out).mono ?_
  rintro e w2 ⟨rfl, hE1⟩
  clear t0 t1 t2 t3
  replace HBy := Lib.hid (HBy.out.ext hE1)
  replace HAy := Lib.hid (HAy.out.ext hE1)
  replace HL := Lib.hid (HL.out.ext hE1)
  replace HE := Lib.hid (HE.out.trans (hE1))
  clear hE1
  cases hf1 : fewV (.mk ky sy ny iy) 500 with
  | false =>
    go_wp2_with fail
    refine (awake_any _).mono ?_
    rintro e wl ⟨rfl, hEl⟩
    go_wp2_with fail
    go_ret
    exact ⟨rfl, HE.out.trans hEl⟩
  | true =>
  clear hf1
  obtain ⟨t0, t1, t2, t3⟩ := HBy.out.cell
  go_wp2_with fail
  refine (r3right_any _ _ _ _ _ _ w2 HAy.out).mono ?_
  rintro e w3 ⟨rfl, hE1⟩
  rw [rright_eq]
  clear t0 t1 t2 t3
  replace HBy := Lib.hid (HBy.out.ext hE1)
  replace HAy := Lib.hid (HAy.out.ext hE1)
  replace HL := Lib.hid (HL.out.ext hE1)
  replace HE := Lib.hid (HE.out.trans (hE1))
  clear hE1
  generalize hrv : rightV (.mk ky sy ny iy) = rv
  by_cases hr0 : rv = 0
  case neg =>
    have hr1 : (rv != 0) = true := by simpa using hr0
    clear hrv hr0
    go_wp2_with fail
    refine (awake_any _).mono ?_
    rintro e wl ⟨rfl, hEl⟩
    go_wp2_with fail
    go_ret
    exact ⟨rfl, HE.out.trans hEl⟩
  subst hr0
  have hr1 : ((0 : Int) != 0) = false := rfl
  have HRV := Lib.hid hrv
  obtain ⟨a1, a2, a3, a4, a5⟩ := right_parts hrv
  have HTW := Lib.hid (reverse_twice hrv)
  clear hrv a1 a3 a4 a5
  go_wp2_with fail
  clear hr1
  refine wp_region_x0 [MProp.is (.agg #[(.int .i64 ky), (.slice r1 sy.length n1), (.slice r2 ny.length n2), (.slice r3 iy.length n3)]), MProp.rd (reverseV (.mk ky sy ny iy)), MProp.rd (.mk ky sy ny iy), MProp.is (.agg #[(.int .i64 ky), (.slice r1 sy.length n1), (.slice r2 ny.length n2), (.slice r3 iy.length n3)]), MProp.is (.bool true), MProp.is (.bool false)] [0, 1, 2, 3, 4, 5] [] [29, 30, 31, 32, 33, 34] (by kernel_rfl) (by kernel_rfl) (by kernel_rfl) ?_ ?_ ?_
  · refine mem_cons_m ?_ (mem_cons_m ?_ (mem_cons_m ?_ (mem_cons_m ?_ (mem_cons_m ?_ (mem_cons_m ?_ (mem_nil_m))))))
    · refine ⟨_, 29, rfl, by kernel_rfl, ?_⟩
      intro u w9 X hE hX hd K hK
      clear hd
      simp only [overlay, List.setIfInBounds_toArray, List.set] at hK ⊢
      have e9 : Ext w3 w9 := (Ext.refl w3).drew.trans hE
      obtain ⟨s0, s1, s2, s3⟩ := (HBy.out.ext e9).cell
      go_wp2_with fail
      exact hK _ _ X (Ext.refl _) kept_m hX rfl
    · refine ⟨_, 30, rfl, by kernel_rfl, ?_⟩
      intro u w9 X hE hX hd K hK
      have d0 : u 29 = .agg #[(.int .i64 ky), (.slice r1 sy.length n1), (.slice r2 ny.length n2), (.slice r3 iy.length n3)] := hd 0 (by kernel_rfl)
      clear hd
      simp only [overlay, List.setIfInBounds_toArray, List.set, d0] at hK ⊢
      have e9 : Ext w3 w9 := (Ext.refl w3).drew.trans hE
      go_wp2_with fail
      refine (reverse_at rfl (RdX.old HAy.out e9 hX.lo) hX.hi).mono ?_
      rintro e w8 ⟨x8, rfl, hx8, hE8⟩
      go_wp2_with fail
      exact hK _ _ X hE8 kept_m (hX.ext hE8) hx8
    · refine ⟨_, 31, rfl, by kernel_rfl, ?_⟩
      intro u w9 X hE hX hd K hK
      have d1 : RdX X w9 (reverseV (.mk ky sy ny iy)) (u 30) := hd 1 (by kernel_rfl)
      clear hd
      simp only [overlay, List.setIfInBounds_toArray, List.set] at hK ⊢
      have e9 : Ext w3 w9 := (Ext.refl w3).drew.trans hE
      go_wp2_with fail
      refine (reverse_at HTW.out d1 hX.hi).mono ?_
      rintro e w8 ⟨x8, rfl, hx8, hE8⟩
      go_wp2_with fail
      exact hK _ _ X hE8 kept_m (hX.ext hE8) hx8
    · refine ⟨_, 32, rfl, by kernel_rfl, ?_⟩
      intro u w9 X hE hX hd K hK
      clear hd
      simp only [overlay, List.setIfInBounds_toArray, List.set] at hK ⊢
      have e9 : Ext w3 w9 := (Ext.refl w3).drew.trans hE
      obtain ⟨s0, s1, s2, s3⟩ := (HBy.out.ext e9).cell
      go_wp2_with fail
      exact hK _ _ X (Ext.refl _) kept_m hX rfl
    · refine ⟨_, 33, rfl, by kernel_rfl, ?_⟩
      intro u w9 X hE hX hd K hK
      have d2 : RdX X w9 (.mk ky sy ny iy) (u 31) := hd 2 (by kernel_rfl)
      have d3 : u 32 = .agg #[(.int .i64 ky), (.slice r1 sy.length n1), (.slice r2 ny.length n2), (.slice r3 iy.length n3)] := hd 3 (by kernel_rfl)
      clear hd
      simp only [overlay, List.setIfInBounds_toArray, List.set, d3] at hK ⊢
      have e9 : Ext w3 w9 := (Ext.refl w3).drew.trans hE
      go_wp2_with fail
      refine (same_true (d2).rd ((RdX.old HAy.out e9 hX.lo)).rd rfl rfl).mono ?_
      rintro e w8 ⟨rfl, hE8⟩
      go_wp2_with fail
      exact hK _ _ X hE8 kept_m (hX.ext hE8) rfl
    · refine ⟨_, 34, rfl, by kernel_rfl, ?_⟩
      intro u w9 X hE hX hd K hK
      have d4 : u 33 = .bool true := hd 4 (by kernel_rfl)
      clear hd
      simp only [overlay, List.setIfInBounds_toArray, List.set, d4] at hK ⊢
      go_wp2_with fail
      exact hK _ _ X (Ext.refl _) kept_m hX rfl
  · exact mem_nil_m
  intro u w9 X hE hX hd
  have d0 : u 29 = .agg #[(.int .i64 ky), (.slice r1 sy.length n1), (.slice r2 ny.length n2), (.slice r3 iy.length n3)] := hd 0 (by decide)
  have d1 : RdX X w9 (reverseV (.mk ky sy ny iy)) (u 30) := hd 1 (by decide)
  have d2 : RdX X w9 (.mk ky sy ny iy) (u 31) := hd 2 (by decide)
  have d3 : u 32 = .agg #[(.int .i64 ky), (.slice r1 sy.length n1), (.slice r2 ny.length n2), (.slice r3 iy.length n3)] := hd 3 (by decide)
  have d4 : u 33 = .bool true := hd 4 (by decide)
  have d5 : u 34 = .bool false := hd 5 (by decide)
  clear hd
  simp only [overlay, List.setIfInBounds_toArray, List.set, d0, d3, d4, d5]
  have e9 : Ext w3 w9 := (Ext.refl w3).drew.trans hE
  clear d0 d1 d2 d3 d4 d5
  clear hX hE
  generalize u 30 = t30z1
  generalize u 31 = t31z1
  clear u
  obtain ⟨wk2, rfl⟩ : ∃ wx : World, wx = w9 := ⟨_, rfl⟩
  replace HBy := Lib.hid (HBy.out.ext e9)
  replace HAy := Lib.hid (HAy.out.ext e9)
  replace HL := Lib.hid (HL.out.ext e9)
  replace HE := Lib.hid (HE.out.trans (e9))
  clear e9
  go_wp2_with fail
  refine wp_region_x0 [MProp.row wk2.heap.size 0 [], MProp.is (.pointer (some ⟨w.heap.size, 1, none⟩)), MProp.is (.slice r1 sy.length n1), MProp.is (.int .i64 (sy.length : Int)), MProp.xrow wk2.heap.size sy.length (List.replicate sy.length 0), MProp.xrow wk2.heap.size 0 [], MProp.row wk2.heap.size 0 [], MProp.row wk2.heap.size 0 [], MProp.xrow wk2.heap.size sy.length (List.replicate sy.length 0), MProp.xrow wk2.heap.size 0 [], MProp.row wk2.heap.size 0 []] [0, 1, 2, 3, 4, 5, 6, 7, 8, 9, 10] [] [35, 36, 37, 38, 39, 40, 41, 5, 6, 7, 8] (by kernel_rfl) (by kernel_rfl) (by kernel_rfl) ?_ ?_ ?_
  · refine mem_cons_m ?_ (mem_cons_m ?_ (mem_cons_m ?_ (mem_cons_m ?_ (mem_cons_m ?_ (mem_cons_m ?_ (mem_cons_m ?_ (mem_cons_m ?_ (mem_cons_m ?_ (mem_cons_m ?_ (mem_cons_m ?_ (mem_nil_m)))))))))))
    · refine ⟨_, 35, rfl, by kernel_rfl, ?_⟩
      intro u w9 X hE hX hd K hK
      clear hd
      simp only [overlay, List.setIfInBounds_toArray, List.set] at hK ⊢
      have hlt' : wk2.heap.size ≤ w9.heap.size := hE.lt
      go_wp2_with fail
      exact hK _ _ X ((Ext.refl _).alloc _) kept_m (hX.ext ((Ext.refl _).alloc _)) ⟨_, rfl, rowI_new' w9 [], hlt', fun hx => by have := (hX _ hx).2; omega⟩
    · refine ⟨_, 36, rfl, by kernel_rfl, ?_⟩
      intro u w9 X hE hX hd K hK
      clear hd
      simp only [overlay, List.setIfInBounds_toArray, List.set] at hK ⊢
      go_wp2_with fail
      exact hK _ _ X (Ext.refl _) kept_m hX rfl
    · refine ⟨_, 37, rfl, by kernel_rfl, ?_⟩
      intro u w9 X hE hX hd K hK
      have d1 : u 36 = .pointer (some ⟨w.heap.size, 1, none⟩) := hd 1 (by kernel_rfl)
      clear hd
      simp only [overlay, List.setIfInBounds_toArray, List.set, d1] at hK ⊢
      have e9 : Ext wk2 w9 := (Ext.refl wk2).drew.trans hE
      obtain ⟨s0, s1, s2, s3⟩ := (HBy.out.ext e9).cell
      go_wp2_with fail
      exact hK _ _ X (Ext.refl _) kept_m hX rfl
    · refine ⟨_, 38, rfl, by kernel_rfl, ?_⟩
      intro u w9 X hE hX hd K hK
      have d2 : u 37 = .slice r1 sy.length n1 := hd 2 (by kernel_rfl)
      clear hd
      simp only [overlay, List.setIfInBounds_toArray, List.set, d2] at hK ⊢
      go_wp2_with fail
      exact hK _ _ X (Ext.refl _) kept_m hX rfl
    · refine ⟨_, 39, rfl, by kernel_rfl, ?_⟩
      intro u w9 X hE hX hd K hK
      have d3 : u 38 = .int .i64 (sy.length : Int) := hd 3 (by kernel_rfl)
      clear hd
      simp only [overlay, List.setIfInBounds_toArray, List.set, d3] at hK ⊢
      have hlt' : wk2.heap.size ≤ w9.heap.size := hE.lt
      have hmk := run_make_ints sy.length (by omega)
      go_wp2_with fail
      exact hK _ _ (fun b => X b ∨ b = w9.heap.size) ((Ext.refl _).alloc _) added_m (hX.add hE _) ⟨_, rfl, RowI.made sy.length, hlt', .inr rfl⟩
    · refine ⟨_, 40, rfl, by kernel_rfl, ?_⟩
      intro u w9 X hE hX hd K hK
      clear hd
      simp only [overlay, List.setIfInBounds_toArray, List.set] at hK ⊢
      have hlt' : wk2.heap.size ≤ w9.heap.size := hE.lt
      go_wp2_with fail
      exact hK _ _ (fun b => X b ∨ b = w9.heap.size) ((Ext.refl _).alloc _) added_m (hX.add hE _) ⟨_, rfl, rowI_new' w9 [], hlt', .inr rfl⟩
    · refine ⟨_, 41, rfl, by kernel_rfl, ?_⟩
      intro u w9 X hE hX hd K hK
      clear hd
      simp only [overlay, List.setIfInBounds_toArray, List.set] at hK ⊢
      have hlt' : wk2.heap.size ≤ w9.heap.size := hE.lt
      go_wp2_with fail
      exact hK _ _ X ((Ext.refl _).alloc _) kept_m (hX.ext ((Ext.refl _).alloc _)) ⟨_, rfl, rowI_new' w9 [], hlt', fun hx => by have := (hX _ hx).2; omega⟩
    · refine ⟨_, 5, rfl, by kernel_rfl, ?_⟩
      intro u w9 X hE hX hd K hK
      have d0 : ∃ g, u 35 = .slice (some ⟨g, 0, none⟩) 0 0 ∧ RowI w9 g [] ∧ wk2.heap.size ≤ g ∧ ¬ X g := hd 0 (by kernel_rfl)
      clear hd
      simp only [overlay, List.setIfInBounds_toArray, List.set] at hK ⊢
      obtain ⟨g, hv, hr, hb, hx⟩ := d0
      simp only [hv] at hK ⊢
      go_wp2_with fail
      exact hK _ _ X (Ext.refl _) kept_m hX ⟨g, rfl, hr, hb, hx⟩
    · refine ⟨_, 6, rfl, by kernel_rfl, ?_⟩
      intro u w9 X hE hX hd K hK
      have d4 : ∃ g, u 39 = .slice (some ⟨g, 0, none⟩) sy.length sy.length ∧ RowI w9 g (List.replicate sy.length 0) ∧ wk2.heap.size ≤ g ∧ X g := hd 4 (by kernel_rfl)
      clear hd
      simp only [overlay, List.setIfInBounds_toArray, List.set] at hK ⊢
      obtain ⟨g, hv, hr, hb, hx⟩ := d4
      simp only [hv] at hK ⊢
      go_wp2_with fail
      exact hK _ _ X (Ext.refl _) kept_m hX ⟨g, rfl, hr, hb, hx⟩
    · refine ⟨_, 7, rfl, by kernel_rfl, ?_⟩
      intro u w9 X hE hX hd K hK
      have d5 : ∃ g, u 40 = .slice (some ⟨g, 0, none⟩) 0 0 ∧ RowI w9 g [] ∧ wk2.heap.size ≤ g ∧ X g := hd 5 (by kernel_rfl)
      clear hd
      simp only [overlay, List.setIfInBounds_toArray, List.set] at hK ⊢
      obtain ⟨g, hv, hr, hb, hx⟩ := d5
      simp only [hv] at hK ⊢
      go_wp2_with fail
      exact hK _ _ X (Ext.refl _) kept_m hX ⟨g, rfl, hr, hb, hx⟩
    · refine ⟨_, 8, rfl, by kernel_rfl, ?_⟩
      intro u w9 X hE hX hd K hK
      have d6 : ∃ g, u 41 = .slice (some ⟨g, 0, none⟩) 0 0 ∧ RowI w9 g [] ∧ wk2.heap.size ≤ g ∧ ¬ X g := hd 6 (by kernel_rfl)
      clear hd
      simp only [overlay, List.setIfInBounds_toArray, List.set] at hK ⊢
      obtain ⟨g, hv, hr, hb, hx⟩ := d6
      simp only [hv] at hK ⊢
      go_wp2_with fail
      exact hK _ _ X (Ext.refl _) kept_m hX ⟨g, rfl, hr, hb, hx⟩
  · exact mem_nil_m
  intro u w9 X hE hX hd
  have d0 : ∃ g, u 35 = .slice (some ⟨g, 0, none⟩) 0 0 ∧ RowI w9 g [] ∧ wk2.heap.size ≤ g ∧ ¬ X g := hd 0 (by decide)
  have d1 : u 36 = .pointer (some ⟨w.heap.size, 1, none⟩) := hd 1 (by decide)
  have d2 : u 37 = .slice r1 sy.length n1 := hd 2 (by decide)
  have d3 : u 38 = .int .i64 (sy.length : Int) := hd 3 (by decide)
  have d4 : ∃ g, u 39 = .slice (some ⟨g, 0, none⟩) sy.length sy.length ∧ RowI w9 g (List.replicate sy.length 0) ∧ wk2.heap.size ≤ g ∧ X g := hd 4 (by decide)
  have d5 : ∃ g, u 40 = .slice (some ⟨g, 0, none⟩) 0 0 ∧ RowI w9 g [] ∧ wk2.heap.size ≤ g ∧ X g := hd 5 (by decide)
  have d6 : ∃ g, u 41 = .slice (some ⟨g, 0, none⟩) 0 0 ∧ RowI w9 g [] ∧ wk2.heap.size ≤ g ∧ ¬ X g := hd 6 (by decide)
  have d7 : ∃ g, u 5 = .slice (some ⟨g, 0, none⟩) 0 0 ∧ RowI w9 g [] ∧ wk2.heap.size ≤ g ∧ ¬ X g := hd 7 (by decide)
  have d8 : ∃ g, u 6 = .slice (some ⟨g, 0, none⟩) sy.length sy.length ∧ RowI w9 g (List.replicate sy.length 0) ∧ wk2.heap.size ≤ g ∧ X g := hd 8 (by decide)
  have d9 : ∃ g, u 7 = .slice (some ⟨g, 0, none⟩) 0 0 ∧ RowI w9 g [] ∧ wk2.heap.size ≤ g ∧ X g := hd 9 (by decide)
  have d10 : ∃ g, u 8 = .slice (some ⟨g, 0, none⟩) 0 0 ∧ RowI w9 g [] ∧ wk2.heap.size ≤ g ∧ ¬ X g := hd 10 (by decide)
  clear hd
  simp only [overlay, List.setIfInBounds_toArray, List.set, d1, d2, d3]
  have e9 : Ext wk2 w9 := (Ext.refl wk2).drew.trans hE
  obtain ⟨go, hvo, hro, hbo, hxo⟩ := d7
  obtain ⟨gb, hvb, hrb, hbb, hxb⟩ := d8
  obtain ⟨gw, hvw, hrw, hbw, hxw⟩ := d9
  obtain ⟨gt, hvt, hrt, hbt, hxt⟩ := d10
  have hob : go ≠ gb := fun e => hxo (by rw [e]; exact hxb)
  have how : go ≠ gw := fun e => hxo (by rw [e]; exact hxw)
  have htb : gt ≠ gb := fun e => hxt (by rw [e]; exact hxb)
  have htw : gt ≠ gw := fun e => hxt (by rw [e]; exact hxw)
  have hwb : 0 < sy.length → gw ≠ gb := fun h0 e => by
    subst e
    have h1 := hrw
    unfold RowI at h1 hrb
    rw [h1] at hrb
    simp only [Option.some.injEq, Obj.cells.injEq] at hrb
    have := congrArg Array.size hrb.1
    simp at this
    omega
  simp only [hvo, hvb, hvw, hvt]
  have Hwk2 := Lib.hid hwb
  have HRO := Lib.hid hro
  have HRB := Lib.hid hrb
  have HRW := Lib.hid hrw
  have HRT := Lib.hid hrt
  clear d0 d4 d5 d6 hvo hvb hvw hvt hX hE hwb hro hrb hrw hrt hxo hxb hxw hxt
  clear d1 d2 d3
  generalize u 35 = t35
  generalize u 39 = t39
  generalize u 40 = t40
  generalize u 41 = t41
  clear u X
  have hlw9 := e9.lt
  obtain ⟨t0, t1, t2, t3⟩ := (HBy.out.ext e9).cell
  go_wp2_with fail
  clear t0 t1 t2 t3
  go_loopw [5, 7, 8, 9] (fun ov wv tv i wr => ∃ (j : Nat) (lo : List Int) (bo oo co pw_ : Nat) (bt ot ct : Nat) (pw : Option Addr), j ≤ sy.length ∧ i = .int .i64 j ∧ ov = .slice (some ⟨bo, oo, none⟩) j co ∧ wv = .slice pw j pw_ ∧ tv = .slice (some ⟨bt, ot, none⟩) j ct ∧
      (j ≤ co ∧ co ≤ 9223372036854775807) ∧ (j ≤ ct ∧ ct ≤ 9223372036854775807) ∧ Ext wk2 wr ∧ OwnI wk2.heap.size (fun x => x = gb ∧ 0 < sy.length) wr (.slice pw j pw_) j (idL j) ∧ RowI wr gb (List.replicate sy.length 0) ∧
      (IntsAt (fun b => b ≠ gb ∧ (Value.slice pw j pw_).ownBlock ≠ some b) wr (some ⟨bo, oo, none⟩) lo ∧ IntsAt (fun b => b ≠ gb ∧ (Value.slice pw j pw_).ownBlock ≠ some b) wr (some ⟨bt, ot, none⟩) (revAxes j)) ∧ Hid (lo.Perm (idL j))) (fun _ _ _ i _ => sy.length - (intOf i).toNat)
  case atStart => exact ⟨0, [], go, 0, 0, 0, gt, 0, 0, some ⟨gw, 0, none⟩, Nat.zero_le _, rfl, rfl, rfl, rfl, ⟨by omega, by omega⟩, ⟨by omega, by omega⟩, e9, OwnI.of_row (xs := []) HRW.out rfl (by omega) hbw (fun h => Hwk2.out h.2 h.1) (by simp), HRB.out, ⟨fun i hi => by simp at hi, fun i hi => by simp [revAxes] at hi⟩, List.Perm.refl _⟩
  case round =>
    obtain ⟨j, lo, bo, oo, co, pw_, bt, ot, ct, pw, hj, rfl, rfl, rfl, rfl, ⟨hco1, hco2⟩, ⟨hct1, hct2⟩, hEr, hOw, hRb, ⟨hIo, hIt⟩, hP⟩ := hrel
    have HOw := Lib.hid hOw
    have HRb := Lib.hid hRb
    have HIo := Lib.hid hIo
    have HIt := Lib.hid hIt
    have HEr := Lib.hid hEr
    have HLO : Hid (lo.length = j) := by
      show _ = _
      rw [List.Perm.length_eq hP, idL_length]
    have HP : Hid (lo.Perm (idL j)) := hP
    have hgbl := hRb.lt
    clear hP hOw hRb hIo hIt hEr HRO HRB HRW HRT
    by_cases hlj : j < sy.length
    · have hlj' : (j : Int) < sy.length := by omega
      obtain ⟨t0, t1, t2, t3⟩ := (HBy.out.ext HEr.out).cell
      go_upto_if 52 with (fail)
      clear t0 t1 t2 t3
      go_cut [10] (fun kv wq => ∃ k : Nat, k ≤ j ∧ kv = .int .i64 k ∧ wr = wq)
      case first =>
        by_cases hjl : j < l.length
        · obtain ⟨b5, o5, hpl, hb5, hc5, hc6, hc7⟩ := (HL.out.ext HEr.out) j hjl
          subst hpl
          have hjl' : (j : Int) < l.length := by omega
          generalize l.getD j 0 = z at *
          have hm1 : 0 ≤ z % ((j : Int) + 1) := Int.emod_nonneg _ (by omega)
          have hm2 : z % ((j : Int) + 1) < (j : Int) + 1 := Int.emod_lt_of_pos _ (by omega)
          have hm3 : z.tmod ((j : Int) + 1) = z % ((j : Int) + 1) := Int.tmod_eq_emod_of_nonneg hc6
          obtain ⟨k, hk⟩ := Int.eq_ofNat_of_zero_le hm1
          rw [hk] at hm1 hm2 hm3
          have hk2 : k ≤ j := by omega
          go_wp2_with fail
          go_meet
          case rel => exact ⟨k, hk2, rfl, rfl⟩
        · have hjl' : ¬ (j : Int) < l.length := by omega
          go_wp2_with fail
          go_meet
          case rel => exact ⟨0, Nat.zero_le _, rfl, rfl⟩
      case rest =>
        obtain ⟨k, hk, rfl, hw⟩ := hcut
        subst hw
        have HTK : Hid ((lo.take k).length = k) := by
          show _ = _
          rw [List.length_take, HLO.out]; omega
        have HDK : Hid ((lo.drop k).length = j - k) := by
          show _ = _
          rw [List.length_drop, HLO.out]
        have hkj' : (k : Int) ≤ j := by omega
        go_wp2_with fail
        refine wp_region_z1 [MProp.row wr.heap.size 0 [], MProp.is (.slice (some ⟨bo, oo, none⟩) j co), MProp.is (.int .i64 (k : Int)), MProp.rdi (lo.take k), MProp.chain wr.heap.size (lo.take k), MProp.is (.int .i64 (j : Int)), MProp.rdi ([(j : Int)]), MProp.chain wr.heap.size (lo.take k ++ [(j : Int)]), MProp.is (.slice (some ⟨bo, oo, none⟩) j co), MProp.is (.int .i64 (k : Int)), MProp.rdi (lo.drop k), MProp.chain wr.heap.size ((lo.take k ++ [(j : Int)]) ++ lo.drop k)] [0, 1, 2, 3, 5, 6, 8, 9, 10] [4, 7, 11] [61, 62, 63, 64, 66, 67, 69, 70, 71, 65, 68, 72] 12 (by kernel_rfl) (by kernel_rfl) (by kernel_rfl) (by kernel_rfl) rfl ?_ ?_ ?_ ?_
        · exact mem_cons_m (zst_row _ _ _) (mem_cons_m (zst_is _) (mem_cons_m (zst_is _) (mem_cons_m (zst_rdi _) (mem_cons_m (zst_is _) (mem_cons_m (zst_rdi _) (mem_cons_m (zst_is _) (mem_cons_m (zst_is _) (mem_cons_m (zst_rdi _) (mem_nil_m)))))))))
        · refine mem_cons_m ?_ (mem_cons_m ?_ (mem_cons_m ?_ (mem_cons_m ?_ (mem_cons_m ?_ (mem_cons_m ?_ (mem_cons_m ?_ (mem_cons_m ?_ (mem_cons_m ?_ (mem_nil_m)))))))))
          · refine ⟨_, 61, rfl, by kernel_rfl, ?_⟩
            intro u w9 X hE hX hd K hK
            clear hd
            simp only [overlay, List.setIfInBounds_toArray, List.set] at hK ⊢
            have hlt' : wr.heap.size ≤ w9.heap.size := hE.lt
            go_wp2_with fail
            exact hK _ _ X ((Ext.refl _).alloc _) kept_m (hX.ext ((Ext.refl _).alloc _)) ⟨_, rfl, rowI_new' w9 [], hlt', fun hx => by have := (hX _ hx).2; omega⟩
          · refine ⟨_, 62, rfl, by kernel_rfl, ?_⟩
            intro u w9 X hE hX hd K hK
            clear hd
            simp only [overlay, List.setIfInBounds_toArray, List.set] at hK ⊢
            go_wp2_with fail
            exact hK _ _ X (Ext.refl _) kept_m hX rfl
          · refine ⟨_, 63, rfl, by kernel_rfl, ?_⟩
            intro u w9 X hE hX hd K hK
            clear hd
            simp only [overlay, List.setIfInBounds_toArray, List.set] at hK ⊢
            go_wp2_with fail
            exact hK _ _ X (Ext.refl _) kept_m hX rfl
          · refine ⟨_, 64, rfl, by kernel_rfl, ?_⟩
            intro u w9 X hE hX hd K hK
            have d1 : u 62 = .slice (some ⟨bo, oo, none⟩) j co := hd 1 (by kernel_rfl)
            have d2 : u 63 = .int .i64 (k : Int) := hd 2 (by kernel_rfl)
            clear hd
            simp only [overlay, List.setIfInBounds_toArray, List.set, d1, d2] at hK ⊢
            have e9 : Ext wr w9 := (Ext.refl wr).drew.trans hE
            go_wp2_with fail
            have hh := RdIX.old (HIo.out.take k) (c := co) (by rw [HTK.out]; exact ⟨by omega, by omega, by omega⟩) e9 hX.lo
            rw [HTK.out] at hh
            exact hK _ _ X (Ext.refl _) kept_m hX hh
          · refine ⟨_, 66, rfl, by kernel_rfl, ?_⟩
            intro u w9 X hE hX hd K hK
            clear hd
            simp only [overlay, List.setIfInBounds_toArray, List.set] at hK ⊢
            go_wp2_with fail
            exact hK _ _ X (Ext.refl _) kept_m hX rfl
          · refine ⟨_, 67, rfl, by kernel_rfl, ?_⟩
            intro u w9 X hE hX hd K hK
            have d5 : u 66 = .int .i64 (j : Int) := hd 5 (by kernel_rfl)
            clear hd
            simp only [overlay, List.setIfInBounds_toArray, List.set, d5] at hK ⊢
            go_wp2_with fail
            exact hK _ _ X ((Ext.refl _).alloc _) kept_m (hX.ext ((Ext.refl _).alloc _)) (rdix_one w9 j (by omega) hX.hi)
          · refine ⟨_, 69, rfl, by kernel_rfl, ?_⟩
            intro u w9 X hE hX hd K hK
            clear hd
            simp only [overlay, List.setIfInBounds_toArray, List.set] at hK ⊢
            go_wp2_with fail
            exact hK _ _ X (Ext.refl _) kept_m hX rfl
          · refine ⟨_, 70, rfl, by kernel_rfl, ?_⟩
            intro u w9 X hE hX hd K hK
            clear hd
            simp only [overlay, List.setIfInBounds_toArray, List.set] at hK ⊢
            go_wp2_with fail
            exact hK _ _ X (Ext.refl _) kept_m hX rfl
          · refine ⟨_, 71, rfl, by kernel_rfl, ?_⟩
            intro u w9 X hE hX hd K hK
            have d8 : u 69 = .slice (some ⟨bo, oo, none⟩) j co := hd 8 (by kernel_rfl)
            have d9 : u 70 = .int .i64 (k : Int) := hd 9 (by kernel_rfl)
            clear hd
            simp only [overlay, List.setIfInBounds_toArray, List.set, d8, d9] at hK ⊢
            have e9 : Ext wr w9 := (Ext.refl wr).drew.trans hE
            by_cases hkc : k < co
            · have hkc' : (k : Int) < co := by omega
              go_wp2_with fail
              have hh := RdIX.old (HIo.out.drop k) (c := co - k) (by rw [HDK.out]; exact ⟨by omega, by omega, by omega⟩) e9 hX.lo
              rw [HDK.out] at hh
              first
                | exact hK _ _ X (Ext.refl _) kept_m hX hh
                | omega
            · have hjk : j = k := by omega
              have hck : co = k := by omega
              have hd0 : lo.drop k = [] := List.drop_of_length_le (by have := HLO.out; omega)
              clear hkc
              subst hjk
              subst hck
              go_wp2_with fail
              all_goals first
                | exact hK _ _ X (Ext.refl _) kept_m hX ⟨_, _, by rw [hd0]; rfl, by rw [hd0]; exact ⟨by simp, by simp, by simp⟩, by rw [hd0]; exact fun i hi => by simp at hi⟩
                | trace_state
        · refine mem_cons_m ?_ (mem_cons_m ?_ (mem_cons_m ?_ (mem_nil_m)))
          · refine ⟨_, 65, rfl, by kernel_rfl, ?_⟩
            intro u w9 X hE hX hd K hK
            have d0 : ∃ g, u 61 = .slice (some ⟨g, 0, none⟩) 0 0 ∧ RowI w9 g [] ∧ wr.heap.size ≤ g ∧ ¬ X g := hd 0 (by kernel_rfl)
            have d3 : RdIX X w9 (lo.take k) (u 64) := hd 3 (by kernel_rfl)
            clear hd
            simp only [overlay, List.setIfInBounds_toArray, List.set] at hK ⊢
            obtain ⟨g, hv0, hr0, hb0, hx0⟩ := d0
            obtain ⟨p3, c3, hv3, hk3, hi3⟩ := d3
            simp only [hv0, hv3] at hK ⊢
            refine wpList_chain rfl _ _ rfl wr.drew X _ 0 [] p3 c3 (lo.take k) rfl (.inl ⟨rfl, rfl, g, rfl, hr0, hb0, hx0⟩) rfl hi3 hE hX (by have := HTK.out; have := HDK.out; have := HLO.out; simp; omega) ?_
            intro v' w' X' f0 f1 f2 f3 f4
            rw [Nat.zero_add, List.nil_append] at f4
            obtain ⟨pv, cv, rfl, _⟩ := f4.own.1.form
            exact hK _ _ X' f0 f1 f2 f3 ⟨pv, cv, rfl, f4⟩
          · refine ⟨_, 68, rfl, by kernel_rfl, ?_⟩
            intro u w9 X hE hX hd K hK
            have d4 : ∃ p c, u 65 = .slice p (lo.take k).length c ∧ ChainRow wr.heap.size X w9 (.slice p (lo.take k).length c) (lo.take k).length (lo.take k) := hd 4 (by kernel_rfl)
            have d6 : RdIX X w9 ([(j : Int)]) (u 67) := hd 6 (by kernel_rfl)
            clear hd
            simp only [overlay, List.setIfInBounds_toArray, List.set] at hK ⊢
            obtain ⟨p0, c0, hv0, hc0⟩ := d4
            obtain ⟨p3, c3, hv3, hk3, hi3⟩ := d6
            simp only [hv0, hv3] at hK ⊢
            refine wpList_chain rfl _ _ rfl wr.drew X _ (lo.take k).length (lo.take k) p3 c3 ([(j : Int)]) rfl hc0 rfl hi3 hE hX (by have := HTK.out; have := HDK.out; have := HLO.out; simp; omega) ?_
            intro v' w' X' f0 f1 f2 f3 f4
            rw [← List.length_append] at f4
            obtain ⟨pv, cv, rfl, _⟩ := f4.own.1.form
            exact hK _ _ X' f0 f1 f2 f3 ⟨pv, cv, rfl, f4⟩
          · refine ⟨_, 72, rfl, by kernel_rfl, ?_⟩
            intro u w9 X hE hX hd K hK
            have d7 : ∃ p c, u 68 = .slice p (lo.take k ++ [(j : Int)]).length c ∧ ChainRow wr.heap.size X w9 (.slice p (lo.take k ++ [(j : Int)]).length c) (lo.take k ++ [(j : Int)]).length (lo.take k ++ [(j : Int)]) := hd 7 (by kernel_rfl)
            have d10 : RdIX X w9 (lo.drop k) (u 71) := hd 10 (by kernel_rfl)
            clear hd
            simp only [overlay, List.setIfInBounds_toArray, List.set] at hK ⊢
            obtain ⟨p0, c0, hv0, hc0⟩ := d7
            obtain ⟨p3, c3, hv3, hk3, hi3⟩ := d10
            simp only [hv0, hv3] at hK ⊢
            refine wpList_chain rfl _ _ rfl wr.drew X _ (lo.take k ++ [(j : Int)]).length (lo.take k ++ [(j : Int)]) p3 c3 (lo.drop k) rfl hc0 rfl hi3 hE hX (by have := HTK.out; have := HDK.out; have := HLO.out; simp; omega) ?_
            intro v' w' X' f0 f1 f2 f3 f4
            rw [← List.length_append] at f4
            obtain ⟨pv, cv, rfl, _⟩ := f4.own.1.form
            exact hK _ _ X' f0 f1 f2 f3 ⟨pv, cv, rfl, f4⟩
        intro u w9 X hE hX hd hdc
        have d0 : ∃ g, u 61 = .slice (some ⟨g, 0, none⟩) 0 0 ∧ RowI w9 g [] ∧ wr.heap.size ≤ g ∧ ¬ X g := hd 0 (by decide)
        have d1 : u 62 = .slice (some ⟨bo, oo, none⟩) j co := hd 1 (by decide)
        have d2 : u 63 = .int .i64 (k : Int) := hd 2 (by decide)
        have d3 : RdIX X w9 (lo.take k) (u 64) := hd 3 (by decide)
        have d5 : u 66 = .int .i64 (j : Int) := hd 5 (by decide)
        have d6 : RdIX X w9 ([(j : Int)]) (u 67) := hd 6 (by decide)
        have d8 : u 69 = .slice (some ⟨bo, oo, none⟩) j co := hd 8 (by decide)
        have d9 : u 70 = .int .i64 (k : Int) := hd 9 (by decide)
        have d10 : RdIX X w9 (lo.drop k) (u 71) := hd 10 (by decide)
        have d11 : ∃ p c, u 72 = .slice p ((lo.take k ++ [(j : Int)]) ++ lo.drop k).length c ∧ ChainRow wr.heap.size X w9 (.slice p ((lo.take k ++ [(j : Int)]) ++ lo.drop k).length c) ((lo.take k ++ [(j : Int)]) ++ lo.drop k).length ((lo.take k ++ [(j : Int)]) ++ lo.drop k) := hdc 2 rfl
        clear hd hdc
        simp only [overlay, List.setIfInBounds_toArray, List.set, d1, d2, d5, d8, d9]
        have e9 : Ext wr w9 := (Ext.refl wr).drew.trans hE
        obtain ⟨pL, cL, hv11, hc11⟩ := d11
        simp only [hv11]
        clear hv11 d0 d3 d6 d10 hX hE
        have hOn := hc11.own.1
        have hP2 := perm_step (k := k) HP.out
        have hLL : ((lo.take k ++ [(j : Int)]) ++ lo.drop k).length = j + 1 := by
          have := HTK.out
          have := HDK.out
          simp only [List.length_append, List.length_singleton]
          omega
        rw [hLL] at hOn ⊢
        clear hc11 HIo
        generalize (lo.take k ++ [(j : Int)]) ++ lo.drop k = lo2 at *
        have HP2 := Lib.hid hP2
        obtain ⟨go2, rfl, hg2B, hg2lt, _, _, _⟩ := hOn.atB (j := 0) (by omega)
        obtain ⟨p', c', hpt, ⟨hk1, hk2', hk3⟩, hIo2⟩ := hOn.ints
        rw [hLL] at hpt hk1 hk3
        simp only [Value.slice.injEq] at hpt
        obtain ⟨rfl, _, rfl⟩ := hpt
        have HIo2 := Lib.hid hIo2
        clear hIo2 hOn hP2 hLL HTK HDK HLO HP
        generalize u 61 = t61
        generalize u 64 = t64
        generalize u 65 = t65
        generalize u 67 = t67
        generalize u 68 = t68
        generalize u 71 = t71
        clear d1 d2 d5 d8 d9
        clear u X
        go_wp2_with fail
        refine OnlyN.mk ?_
        have hown := HOw.out.2.2.1.lt
        have hownX := HOw.out.2.2.2.1
        have hEa := (HEr.out.trans e9).alloc (.cells #[.int .i64 (j : Int)] 3)
        have hOa := (HOw.out.ext e9).ext ((Ext.refl _).alloc (.cells #[.int .i64 (j : Int)] 3))
        have hnc : (w9.alloc (.cells #[.int .i64 (j : Int)] 3)).cell? ⟨w9.heap.size, 0, none⟩ = some (.int .i64 (j : Int)) := by simp
        have hlw := hEa.lt
        have hl9w := e9.lt
        have hsza : (w9.alloc (.cells #[.int .i64 (j : Int)] 3)).heap.size = w9.heap.size + 1 := by simp
        have HSZA := Lib.hid hsza
        have HOA := Lib.hid hOa
        have HOX := Lib.hid hownX
        have HOL := Lib.hid hown
        clear hsza hOa hown hownX
        go_wp2_with (at_builtin; refine wpList_append_int rfl _ _ rfl wk2.heap.size (fun x => x = gb ∧ 0 < sy.length) (.slice pw j pw_) j (idL j) j rfl HOA.out ⟨w9.heap.size, 0, none⟩ 1 rfl hnc (fun b hb => by have := hb.1; have := HSZA.out; omega) (by omega) (by omega) hlw ?_)
        intro g9 cap9 w10 hon9 hgrow9 hat9 hlt9 hB9
        have HGROW := Lib.hid hgrow9
        have hE10 : Ext wk2 w10 := hEa.grown hgrow9 hlw (fun q e => (HOL.out q e).1)
        have hkeep : ∀ b, b < w9.heap.size → (Value.slice pw j pw_).ownBlock ≠ some b → w10.heap[b]? = w9.heap[b]? := fun b hb hne =>
          (HGROW.out.block b (by have := HSZA.out; omega) (fun e => hne e.symm)).trans (((Ext.refl w9).alloc _).block hb)
        have hgbo : (Value.slice pw j pw_).ownBlock ≠ some gb := fun e => HOX.out gb e ⟨rfl, by omega⟩
        have hoo : ∀ b, wr.heap.size ≤ b → (Value.slice pw j pw_).ownBlock ≠ some b := fun b hb e => by
          have := (HOL.out b e).2
          omega
        have hg9 : ∀ b, b < w9.heap.size → (Value.slice pw j pw_).ownBlock ≠ some b → g9 ≠ b := fun b hb hne e => by
          rcases hat9 with h | h
          · exact hne (by rw [h, e])
          · have := HSZA.out; omega
        have hR10 : RowI w10 gb (List.replicate sy.length 0) := (HRb.out.ext e9).kept (hkeep gb (by omega) hgbo)
        have hI10 : IntsAt (fun b => b ≠ gb ∧ g9 ≠ b) w10 (some ⟨go2, 0, none⟩) lo2 := HIo2.out.mono fun b hb hlt => ⟨⟨by have := hb.1; omega, hg9 b hlt (hoo b hb.1)⟩, hkeep b hlt (hoo b hb.1)⟩
        have hT10 : IntsAt (fun b => b ≠ gb ∧ g9 ≠ b) w10 (some ⟨bt, ot, none⟩) (revAxes j) := (HIt.out.ext e9).mono fun b hb hlt => ⟨⟨hb.1, hg9 b hlt hb.2⟩, hkeep b hlt hb.2⟩
        rw [← idL_succ] at hon9
        have HON := Lib.hid hon9
        have HR10 := Lib.hid hR10
        have HI10 := Lib.hid hI10
        have HT10 := Lib.hid hT10
        have hgbl10 := hR10.lt
        have hE11 := (Ext.refl w10).alloc (.cells #[.int .i64 (j : Int)] 3)
        have hrow := rowI_new w10 [(j : Int)]
        change RowI (w10.alloc (.cells #[.int .i64 (j : Int)] 3)) _ _ at hrow
        have hOr := OwnI.of_row (B := w10.heap.size) (X := fun _ => False) (n := 1) (xs := [(j : Int)]) hrow rfl (by omega) (Nat.le_refl _) (fun h => h) (fun x hx => by rw [List.mem_singleton] at hx; omega)
        have HOr := Lib.hid hOr
        clear hkeep hoo hg9 hR10 hI10 hT10 hon9 hrow hOr HOA hnc hgbo
        go_wp2_with (at_builtin; refine wpList_append_ints rfl _ _ rfl _ w10.heap.size (fun _ => False) (.slice (some ⟨w10.heap.size, 0, none⟩) 1 1) 1 [(j : Int)] (some ⟨bt, ot, none⟩) ct (revAxes j) rfl HOr.out (by rw [revAxes_length]; rfl) (HT10.out.ext hE11) (fun _ h => h.elim) (by rw [revAxes_length]; omega) hE11.lt ?_)
        intro v' w11 hOt hgr11 hat11
        have hE12 : Ext w10 w11 := hE11.grown hgr11 hE11.lt (fun q e => by simp [Value.ownBlock] at e; omega)
        rw [revAxes_length, Nat.add_comm 1 j] at hOt
        replace hOt : OwnI w10.heap.size (fun _ => False) w11 v' (j + 1) (revAxes (j + 1)) := by
          rw [rev_succ]
          exact hOt
        obtain ⟨pt', ct', rfl, hct'⟩ := hOt.form
        obtain ⟨gt', rfl, hgt1, hgt2, _, _, _⟩ := hOt.atB (j := 0) (by omega)
        obtain ⟨p', c', hpt, ⟨hk4, hk5, hk6⟩, hIt2⟩ := hOt.ints
        rw [revAxes_length] at hpt hk4 hk6
        simp only [Value.slice.injEq] at hpt
        obtain ⟨h0, _, rfl⟩ := hpt
        rw [← h0] at hIt2
        have HREL := Lib.hid (And.intro (hE10.trans hE12) (And.intro (HON.out.ext hE12) (And.intro (HR10.out.ext hE12) (And.intro (HI10.out.ext hE12) (hIt2.mono (G := fun b => b ≠ gb ∧ g9 ≠ b) fun b hb hlt => ⟨⟨by have := hb.1; omega, by have := hb.1; have := (HON.out.2.2.1.lt g9 rfl).2; omega⟩, rfl⟩)))))
        clear h0 hOt hIt2 HON HR10 HI10 HT10 hE11 HOr hE10 hE12
        go_wp2_with fail
        go_roundw
        case rel => exact ⟨j + 1, lo2, go2, 0, cL, cap9, gt', 0, ct', some ⟨g9, 0, none⟩, by omega, by go_num, rfl, rfl, rfl, ⟨by omega, by omega⟩, ⟨by omega, by omega⟩, HREL.out.1, HREL.out.2.1, HREL.out.2.2.1, ⟨(HREL.out.2.2.2.1.mono fun b hb _ => ⟨⟨hb.1, fun e => hb.2 (by simpa [Value.ownBlock] using e)⟩, rfl⟩), (HREL.out.2.2.2.2.mono fun b hb _ => ⟨⟨hb.1, fun e => hb.2 (by simpa [Value.ownBlock] using e)⟩, rfl⟩)⟩, HP2.out⟩
        case measure => simp [intOf]; omega
    · have hjr : j = sy.length := by omega
      subst hjr
      obtain ⟨t0, t1, t2, t3⟩ := (HBy.out.ext HEr.out).cell
      have HKP : Hid (∀ b, b < wr.heap.size → b ≠ gb → wr.heap[b]? = wr.heap[b]?) := fun _ _ _ => rfl
      obtain ⟨wo, rfl⟩ : ∃ wx : World, wx = wr := ⟨_, rfl⟩
      go_wp2_with fail
      clear t0 t1 t2 t3 hlj HKP
      go_loopw [11] (fun i wq => ∃ q : Nat, q ≤ sy.length ∧ i = .int .i64 q ∧ Ext wk2 wq ∧ RowI wq gb (bkN q lo sy.length) ∧ Hid (∀ b, b < wo.heap.size → b ≠ gb → wq.heap[b]? = wo.heap[b]?)) (fun i _ => sy.length - (intOf i).toNat)
      case atStart => exact ⟨0, Nat.zero_le _, rfl, HEr.out, HRb.out, fun _ _ _ => rfl⟩
      case round =>
        obtain ⟨q, hq, rfl, hEq, hRq, HK⟩ := hrel
        by_cases hlq : q < sy.length
        · have hlq' : (q : Int) < sy.length := by omega
          obtain ⟨b6, o6, hp6, hf6, hc6, _, _⟩ := HIo.out q (by rw [HLO.out]; exact hlq)
          simp only [Option.some.injEq, Addr.mk.injEq, and_true] at hp6
          obtain ⟨rfl, rfl⟩ := hp6
          have hc7 : wr.cell? ⟨bo, oo + q, none⟩ = some (.int .i64 (lo.getD q 0)) := (World.cell?_of_block (HK.out bo (World.block_lt_of_cell? wo _ hc6) hf6.1)).trans hc6
          have hlo := perm_get HP.out hlq
          have hbl := bkN_length q lo sy.length
          have hcb := hRq.cell (j := (lo.getD q 0).toNat) (by rw [hbl]; omega)
          have hfb := hRq.free (lo.getD q 0).toNat
          have hR7 : RowI (wr.setCell ⟨gb, (lo.getD q 0).toNat, none⟩ (.int .i64 (q : Int))) gb (bkN (q + 1) lo sy.length) := hRq.set _ _
          have hE7 : Ext wk2 (wr.setCell ⟨gb, (lo.getD q 0).toNat, none⟩ (.int .i64 (q : Int))) := hEq.setCell (p := ⟨gb, (lo.getD q 0).toNat, none⟩) hbb _
          have HK7 : Hid (∀ b, b < wo.heap.size → b ≠ gb → (wr.setCell ⟨gb, (lo.getD q 0).toNat, none⟩ (.int .i64 (q : Int))).heap[b]? = wo.heap[b]?) := fun b hb hne => (Below.heap_setCell _ _ _ _ (by simpa using hne)).trans (HK.out b hb hne)
          have HR7 := Lib.hid hR7
          clear hc6 hRq hR7 hbl
          generalize (bkN q lo sy.length).getD (lo.getD q 0).toNat 0 = old at *
          generalize lo.getD q 0 = a at *
          have hal : a.toNat < sy.length := by omega
          have hal2 : a < (sy.length : Int) := by omega
          go_wp2_with fail
          generalize wr.setCell ⟨gb, a.toNat, none⟩ (.int .i64 (q : Int)) = w7 at *
          clear hc7 hcb hfb
          go_roundw
          case rel => exact ⟨q + 1, by omega, by go_num, hE7, HR7.out, HK7.out⟩
          case measure => simp [intOf]; omega
        · have hqr : q = sy.length := by omega
          subst hqr
          have hpi := perm_inv HP.out
          have hO9 : IntsAt (fun _ => True) wr (some ⟨bo, oo, none⟩) lo := HIo.out.mono fun b hb hlt => ⟨trivial, HK.out b hlt hb.1⟩
          have hT9 : IntsAt (fun _ => True) wr (some ⟨bt, ot, none⟩) (revAxes sy.length) := HIt.out.mono fun b hb hlt => ⟨trivial, HK.out b hlt hb.1⟩
          obtain ⟨p', c', hpt, ⟨hk4, hk5, hk6⟩, hIw⟩ := HOw.out.ints
          rw [idL_length] at hpt hk4 hk6
          simp only [Value.slice.injEq] at hpt
          obtain ⟨rfl, _, rfl⟩ := hpt
          have hW9 : IntsAt (fun _ => True) wr pw (idL sy.length) := by
            rcases Nat.eq_zero_or_pos sy.length with h0 | h0
            · intro i hi
              rw [idL_length] at hi
              omega
            · exact hIw.mono fun b hb hlt => ⟨trivial, HK.out b hlt (fun e => hb.2 ⟨e, h0⟩)⟩
          have hB9 := hRq.ints (fun x hx => by
            obtain ⟨i, hi, e⟩ := List.mem_iff_getElem.1 hx
            have h1 := hpi.rb i (by rw [← hpi.lb]; exact hi)
            simp only [List.getD, hi, List.getElem?_eq_getElem, Option.getD_some] at h1
            rw [← e]; omega)
          have hbl := bkN_length sy.length lo sy.length
          have HBL := Lib.hid hbl
          have hr := HRV.out
          have HA1 := Lib.hid (axes_perm hpi rfl hr)
          have HA2 := Lib.hid (axes_back hpi rfl hr)
          have HA3 := Lib.hid (show axesV (vecV (idL sy.length)) (.mk ky sy ny iy) = (.mk ky sy ny iy, 0) by rw [axes_perm (idL_inv sy.length) rfl hr, trans_id rfl hr])
          have HA4 := Lib.hid (show axesV (vecV (revAxes sy.length)) (.mk ky sy ny iy) = (reverseV (.mk ky sy ny iy), 0) by rw [axes_perm (rev_inv sy.length) rfl hr, reverse_trans hr])
          generalize bkN sy.length lo sy.length = bk at *
          have HIo := Lib.hid hO9
          have HIt := Lib.hid hT9
          have HIw := Lib.hid hW9
          have HIb := Lib.hid hB9
          replace HBy := Lib.hid (HBy.out.ext hEq)
          replace HAy := Lib.hid (HAy.out.ext hEq)
          replace HE := Lib.hid (HE.out.trans hEq)
          have HLI : Hid ((idL sy.length).length = sy.length) := idL_length _
          have HLR : Hid ((revAxes sy.length).length = sy.length) := revAxes_length _
          have hsl8 : sy.length ≤ 17592186044416 := by omega
          clear hpi hO9 hT9 hW9 hB9 hIw hbl hr hRq HOw HRb HEr HP HL HRV HTW Hwk2 HK
          go_wp2_with fail
          refine wp_region_y2 [MProp.rdi (lo), MProp.rd (vecV (lo)), MProp.is (.agg #[(.int .i64 ky), (.slice r1 sy.length n1), (.slice r2 ny.length n2), (.slice r3 iy.length n3)]), MProp.rd2 (transV lo (.mk ky sy ny iy)) 0, MProp.rd2 (transV lo (.mk ky sy ny iy)) 0, MProp.rd (transV lo (.mk ky sy ny iy)), MProp.is (.int .i64 0), MProp.box] [0, 1, 2, 3, 4, 5, 6, 7] [6] [95, 96, 97, 98, 94, 99, 100, 12] 8 9 (by kernel_rfl) (by kernel_rfl) (by kernel_rfl) rfl rfl ?_ ?_ ?_
          · refine mem_cons_m ?_ (mem_cons_m ?_ (mem_cons_m ?_ (mem_cons_m ?_ (mem_cons_m ?_ (mem_cons_m ?_ (mem_cons_m ?_ (mem_cons_m ?_ (mem_nil_m))))))))
            · refine ⟨_, 95, rfl, by kernel_rfl, ?_⟩
              intro u w9 X hE hX hd K hK
              clear hd
              simp only [overlay, List.setIfInBounds_toArray, List.set] at hK ⊢
              have e9 : Ext wr w9 := (Ext.refl wr).drew.trans hE
              go_wp2_with fail
              have hh := RdIX.old HIo.out (c := co) (by rw [HLO.out]; exact ⟨by omega, by omega, hsl8⟩) e9 hX.lo
              rw [HLO.out] at hh
              exact hK _ _ X (Ext.refl _) kept_m hX hh
            · refine ⟨_, 96, rfl, by kernel_rfl, ?_⟩
              intro u w9 X hE hX hd K hK
              have d0 : RdIX X w9 (lo) (u 95) := hd 0 (by kernel_rfl)
              clear hd
              simp only [overlay, List.setIfInBounds_toArray, List.set] at hK ⊢
              have e9 : Ext wr w9 := (Ext.refl wr).drew.trans hE
              go_wp2_with fail
              refine (vec_rd d0 hX.hi).mono ?_
              rintro e w8 ⟨x8, rfl, hx8, hE8⟩
              go_wp2_with fail
              exact hK _ _ X hE8 kept_m (hX.ext hE8) hx8
            · refine ⟨_, 97, rfl, by kernel_rfl, ?_⟩
              intro u w9 X hE hX hd K hK
              clear hd
              simp only [overlay, List.setIfInBounds_toArray, List.set] at hK ⊢
              have e9 : Ext wr w9 := (Ext.refl wr).drew.trans hE
              obtain ⟨s0, s1, s2, s3⟩ := (HBy.out.ext e9).cell
              go_wp2_with fail
              exact hK _ _ X (Ext.refl _) kept_m hX rfl
            · refine ⟨_, 98, rfl, by kernel_rfl, ?_⟩
              intro u w9 X hE hX hd K hK
              have d1 : RdX X w9 (vecV (lo)) (u 96) := hd 1 (by kernel_rfl)
              have d2 : u 97 = .agg #[(.int .i64 ky), (.slice r1 sy.length n1), (.slice r2 ny.length n2), (.slice r3 iy.length n3)] := hd 2 (by kernel_rfl)
              clear hd
              simp only [overlay, List.setIfInBounds_toArray, List.set, d2] at hK ⊢
              have e9 : Ext wr w9 := (Ext.refl wr).drew.trans hE
              go_wp2_with fail
              refine (axes_at HA1.out d1 (RdX.old HAy.out e9 hX.lo) hX.hi).mono ?_
              rintro e w8 ⟨x8, rfl, hx8, hE8⟩
              go_wp2_with fail
              exact hK _ _ X hE8 kept_m (hX.ext hE8) ⟨x8, rfl, hx8⟩
            · refine ⟨_, 94, rfl, by kernel_rfl, ?_⟩
              intro u w9 X hE hX hd K hK
              have d3 : ∃ x, u 98 = .tuple #[x, .int .i64 0] ∧ RdX X w9 (transV lo (.mk ky sy ny iy)) x := hd 3 (by kernel_rfl)
              clear hd
              simp only [overlay, List.setIfInBounds_toArray, List.set] at hK ⊢
              obtain ⟨x8, hv8, hx8⟩ := d3
              simp only [hv8] at hK ⊢
              go_wp2_with fail
              exact hK _ _ X (Ext.refl _) kept_m hX ⟨x8, rfl, hx8⟩
            · refine ⟨_, 99, rfl, by kernel_rfl, ?_⟩
              intro u w9 X hE hX hd K hK
              have d4 : ∃ x, u 94 = .tuple #[x, .int .i64 0] ∧ RdX X w9 (transV lo (.mk ky sy ny iy)) x := hd 4 (by kernel_rfl)
              clear hd
              simp only [overlay, List.setIfInBounds_toArray, List.set] at hK ⊢
              obtain ⟨x8, hv8, hx8⟩ := d4
              simp only [hv8] at hK ⊢
              go_wp2_with fail
              exact hK _ _ X (Ext.refl _) kept_m hX hx8
            · refine ⟨_, 100, rfl, by kernel_rfl, ?_⟩
              intro u w9 X hE hX hd K hK
              have d4 : ∃ x, u 94 = .tuple #[x, .int .i64 0] ∧ RdX X w9 (transV lo (.mk ky sy ny iy)) x := hd 4 (by kernel_rfl)
              clear hd
              simp only [overlay, List.setIfInBounds_toArray, List.set] at hK ⊢
              obtain ⟨x8, hv8, hx8⟩ := d4
              simp only [hv8] at hK ⊢
              go_wp2_with fail
              exact hK _ _ X (Ext.refl _) kept_m hX rfl
            · refine ⟨_, 12, rfl, by kernel_rfl, ?_⟩
              intro u w9 X hE hX hd K hK
              clear hd
              simp only [overlay, List.setIfInBounds_toArray, List.set] at hK ⊢
              go_wp2_with fail
              exact hK _ _ (fun b => X b ∨ b = w9.heap.size) ((Ext.refl _).alloc _) added_m (hX.add hE _) ⟨_, rfl, box_new _ _ _ _ _, .inr rfl⟩
          · refine mem_cons_m ?_ (mem_nil_m)
            · refine ⟨_, rfl, ?_⟩
              intro u w9 X hd
              have d4 : ∃ x, u 94 = .tuple #[x, .int .i64 0] ∧ RdX X w9 (transV lo (.mk ky sy ny iy)) x := hd 4 (by kernel_rfl)
              clear hd
              obtain ⟨x8, hv8, hx8⟩ := d4
              simp only [overlay, List.setIfInBounds_toArray, List.set, hv8]
              exact ⟨.int .i64 0, .inl ⟨by kernel_rfl, fun w8 => by go_simp⟩, rfl⟩
          intro u w9 X hE hX hd
          have d0 : RdIX X w9 (lo) (u 95) := hd 0 (by decide)
          have d1 : RdX X w9 (vecV (lo)) (u 96) := hd 1 (by decide)
          have d2 : u 97 = .agg #[(.int .i64 ky), (.slice r1 sy.length n1), (.slice r2 ny.length n2), (.slice r3 iy.length n3)] := hd 2 (by decide)
          have d3 : ∃ x, u 98 = .tuple #[x, .int .i64 0] ∧ RdX X w9 (transV lo (.mk ky sy ny iy)) x := hd 3 (by decide)
          have d4 : ∃ x, u 94 = .tuple #[x, .int .i64 0] ∧ RdX X w9 (transV lo (.mk ky sy ny iy)) x := hd 4 (by decide)
          have d5 : RdX X w9 (transV lo (.mk ky sy ny iy)) (u 99) := hd 5 (by decide)
          have d6 : u 100 = .int .i64 0 := hd 6 (by decide)
          have d7 : ∃ b, u 12 = .pointer (some ⟨b, 0, none⟩) ∧ Box4 w9 b (.int .i64 0) (.slice none 0 0) (.slice none 0 0) (.slice none 0 0) ∧ X b := hd 7 (by decide)
          clear hd
          simp only [overlay, List.setIfInBounds_toArray, List.set, d2, d6]
          have e9 : Ext wr w9 := (Ext.refl wr).drew.trans hE
          obtain ⟨boz51, hvb, hbox, hxb⟩ := d7
          obtain ⟨c0, c1, c2, c3, hva, hA9⟩ := d5
          obtain ⟨kz51, paz51, laz51, maz51, pbz51, lbz51, mbz51, pcz51, lcz51, mcz51, rfl, rfl, rfl, rfl⟩ := hA9.form
          have hbo := hX boz51 hxb
          simp only [hvb, hva]
          obtain ⟨s0, s1, s2, s3⟩ := hbox.cell
          have f0 := hbox.free 0
          have f1 := hbox.free 1
          have f2 := hbox.free 2
          have f3 := hbox.free 3
          obtain ⟨gg1, gg2, gg3⟩ := hbox.put4 e9 hbo.1 (.int .i64 kz51) (.slice paz51 laz51 maz51) (.slice pbz51 lbz51 mbz51) (.slice pcz51 lcz51 mcz51)
          have hAn := ArrAt.mono (G := fun _ => True) (fun b hb _ => ⟨trivial, gg3 b (fun e => hb.2 (by rw [e]; exact hxb))⟩) _ _ _ _ _ hA9
          have HGG := Lib.hid (And.intro gg1 (And.intro gg2 hAn))
          clear gg1 gg2 gg3 hAn hA9 hbo hxb hbox
          clear d0 d1 d2 d3 d4 d6
          clear hX hE
          generalize u 95 = t95z51 at *
          generalize u 96 = t96z51 at *
          generalize u 98 = t98z51 at *
          generalize u 94 = t94z51 at *
          clear hvb hva
          clear u
          go_wp2_with fail
          refine OnlyN.mk ?_
          obtain ⟨gg1, gg2, hAn⟩ := HGG.out
          clear HGG s0 s1 s2 s3 f0 f1 f2 f3 e9
          generalize ((((w9.setCell ⟨boz51, 0, none⟩ (.int .i64 kz51)).setCell ⟨boz51, 1, none⟩ (.slice paz51 laz51 maz51)).setCell ⟨boz51, 2, none⟩ (.slice pbz51 lbz51 mbz51)).setCell ⟨boz51, 3, none⟩ (.slice pcz51 lcz51 mcz51)) = wk52 at *
          replace HBy := Lib.hid (HBy.out.ext gg1)
          replace HAy := Lib.hid (HAy.out.ext gg1)
          replace HIo := Lib.hid (HIo.out.ext gg1)
          replace HIb := Lib.hid (HIb.out.ext gg1)
          replace HIw := Lib.hid (HIw.out.ext gg1)
          replace HIt := Lib.hid (HIt.out.ext gg1)
          replace HE := Lib.hid (HE.out.trans (gg1))
          have HBa := Lib.hid gg2
          have HAa := Lib.hid hAn
          clear gg1 gg2 hAn
          go_wp2_with fail
          refine wp_region_y2 [MProp.rdi (bk), MProp.rd (vecV (bk)), MProp.is (.agg #[(.int .i64 kz51), (.slice paz51 laz51 maz51), (.slice pbz51 lbz51 mbz51), (.slice pcz51 lcz51 mcz51)]), MProp.rd2 (.mk ky sy ny iy) 0, MProp.rd2 (.mk ky sy ny iy) 0, MProp.rd (.mk ky sy ny iy), MProp.is (.int .i64 0), MProp.box] [0, 1, 2, 3, 4, 5, 6, 7] [6] [102, 103, 104, 105, 101, 106, 107, 14] 8 9 (by kernel_rfl) (by kernel_rfl) (by kernel_rfl) rfl rfl ?_ ?_ ?_
          · refine mem_cons_m ?_ (mem_cons_m ?_ (mem_cons_m ?_ (mem_cons_m ?_ (mem_cons_m ?_ (mem_cons_m ?_ (mem_cons_m ?_ (mem_cons_m ?_ (mem_nil_m))))))))
            · refine ⟨_, 102, rfl, by kernel_rfl, ?_⟩
              intro u w9 X hE hX hd K hK
              clear hd
              simp only [overlay, List.setIfInBounds_toArray, List.set] at hK ⊢
              have e9 : Ext wk52 w9 := (Ext.refl wk52).drew.trans hE
              go_wp2_with fail
              have hh := RdIX.old HIb.out (c := sy.length) (by rw [HBL.out]; exact ⟨Nat.le_refl _, by omega, hsl8⟩) e9 hX.lo
              rw [HBL.out] at hh
              exact hK _ _ X (Ext.refl _) kept_m hX hh
            · refine ⟨_, 103, rfl, by kernel_rfl, ?_⟩
              intro u w9 X hE hX hd K hK
              have d0 : RdIX X w9 (bk) (u 102) := hd 0 (by kernel_rfl)
              clear hd
              simp only [overlay, List.setIfInBounds_toArray, List.set] at hK ⊢
              have e9 : Ext wk52 w9 := (Ext.refl wk52).drew.trans hE
              go_wp2_with fail
              refine (vec_rd d0 hX.hi).mono ?_
              rintro e w8 ⟨x8, rfl, hx8, hE8⟩
              go_wp2_with fail
              exact hK _ _ X hE8 kept_m (hX.ext hE8) hx8
            · refine ⟨_, 104, rfl, by kernel_rfl, ?_⟩
              intro u w9 X hE hX hd K hK
              clear hd
              simp only [overlay, List.setIfInBounds_toArray, List.set] at hK ⊢
              have e9 : Ext wk52 w9 := (Ext.refl wk52).drew.trans hE
              obtain ⟨s0, s1, s2, s3⟩ := (HBa.out.ext e9).cell
              go_wp2_with fail
              exact hK _ _ X (Ext.refl _) kept_m hX rfl
            · refine ⟨_, 105, rfl, by kernel_rfl, ?_⟩
              intro u w9 X hE hX hd K hK
              have d1 : RdX X w9 (vecV (bk)) (u 103) := hd 1 (by kernel_rfl)
              have d2 : u 104 = .agg #[(.int .i64 kz51), (.slice paz51 laz51 maz51), (.slice pbz51 lbz51 mbz51), (.slice pcz51 lcz51 mcz51)] := hd 2 (by kernel_rfl)
              clear hd
              simp only [overlay, List.setIfInBounds_toArray, List.set, d2] at hK ⊢
              have e9 : Ext wk52 w9 := (Ext.refl wk52).drew.trans hE
              go_wp2_with fail
              refine (axes_at HA2.out d1 (RdX.old HAa.out e9 hX.lo) hX.hi).mono ?_
              rintro e w8 ⟨x8, rfl, hx8, hE8⟩
              go_wp2_with fail
              exact hK _ _ X hE8 kept_m (hX.ext hE8) ⟨x8, rfl, hx8⟩
            · refine ⟨_, 101, rfl, by kernel_rfl, ?_⟩
              intro u w9 X hE hX hd K hK
              have d3 : ∃ x, u 105 = .tuple #[x, .int .i64 0] ∧ RdX X w9 (.mk ky sy ny iy) x := hd 3 (by kernel_rfl)
              clear hd
              simp only [overlay, List.setIfInBounds_toArray, List.set] at hK ⊢
              obtain ⟨x8, hv8, hx8⟩ := d3
              simp only [hv8] at hK ⊢
              go_wp2_with fail
              exact hK _ _ X (Ext.refl _) kept_m hX ⟨x8, rfl, hx8⟩
            · refine ⟨_, 106, rfl, by kernel_rfl, ?_⟩
              intro u w9 X hE hX hd K hK
              have d4 : ∃ x, u 101 = .tuple #[x, .int .i64 0] ∧ RdX X w9 (.mk ky sy ny iy) x := hd 4 (by kernel_rfl)
              clear hd
              simp only [overlay, List.setIfInBounds_toArray, List.set] at hK ⊢
              obtain ⟨x8, hv8, hx8⟩ := d4
              simp only [hv8] at hK ⊢
              go_wp2_with fail
              exact hK _ _ X (Ext.refl _) kept_m hX hx8
            · refine ⟨_, 107, rfl, by kernel_rfl, ?_⟩
              intro u w9 X hE hX hd K hK
              have d4 : ∃ x, u 101 = .tuple #[x, .int .i64 0] ∧ RdX X w9 (.mk ky sy ny iy) x := hd 4 (by kernel_rfl)
              clear hd
              simp only [overlay, List.setIfInBounds_toArray, List.set] at hK ⊢
              obtain ⟨x8, hv8, hx8⟩ := d4
              simp only [hv8] at hK ⊢
              go_wp2_with fail
              exact hK _ _ X (Ext.refl _) kept_m hX rfl
            · refine ⟨_, 14, rfl, by kernel_rfl, ?_⟩
              intro u w9 X hE hX hd K hK
              clear hd
              simp only [overlay, List.setIfInBounds_toArray, List.set] at hK ⊢
              go_wp2_with fail
              exact hK _ _ (fun b => X b ∨ b = w9.heap.size) ((Ext.refl _).alloc _) added_m (hX.add hE _) ⟨_, rfl, box_new _ _ _ _ _, .inr rfl⟩
          · refine mem_cons_m ?_ (mem_nil_m)
            · refine ⟨_, rfl, ?_⟩
              intro u w9 X hd
              have d4 : ∃ x, u 101 = .tuple #[x, .int .i64 0] ∧ RdX X w9 (.mk ky sy ny iy) x := hd 4 (by kernel_rfl)
              clear hd
              obtain ⟨x8, hv8, hx8⟩ := d4
              simp only [overlay, List.setIfInBounds_toArray, List.set, hv8]
              exact ⟨.int .i64 0, .inl ⟨by kernel_rfl, fun w8 => by go_simp⟩, rfl⟩
          intro u w9 X hE hX hd
          have d0 : RdIX X w9 (bk) (u 102) := hd 0 (by decide)
          have d1 : RdX X w9 (vecV (bk)) (u 103) := hd 1 (by decide)
          have d2 : u 104 = .agg #[(.int .i64 kz51), (.slice paz51 laz51 maz51), (.slice pbz51 lbz51 mbz51), (.slice pcz51 lcz51 mcz51)] := hd 2 (by decide)
          have d3 : ∃ x, u 105 = .tuple #[x, .int .i64 0] ∧ RdX X w9 (.mk ky sy ny iy) x := hd 3 (by decide)
          have d4 : ∃ x, u 101 = .tuple #[x, .int .i64 0] ∧ RdX X w9 (.mk ky sy ny iy) x := hd 4 (by decide)
          have d5 : RdX X w9 (.mk ky sy ny iy) (u 106) := hd 5 (by decide)
          have d6 : u 107 = .int .i64 0 := hd 6 (by decide)
          have d7 : ∃ b, u 14 = .pointer (some ⟨b, 0, none⟩) ∧ Box4 w9 b (.int .i64 0) (.slice none 0 0) (.slice none 0 0) (.slice none 0 0) ∧ X b := hd 7 (by decide)
          clear hd
          simp only [overlay, List.setIfInBounds_toArray, List.set, d2, d6]
          have e9 : Ext wk52 w9 := (Ext.refl wk52).drew.trans hE
          obtain ⟨boz53, hvb, hbox, hxb⟩ := d7
          obtain ⟨c0, c1, c2, c3, hva, hA9⟩ := d5
          obtain ⟨kz53, paz53, laz53, maz53, pbz53, lbz53, mbz53, pcz53, lcz53, mcz53, rfl, rfl, rfl, rfl⟩ := hA9.form
          have hbo := hX boz53 hxb
          simp only [hvb, hva]
          obtain ⟨s0, s1, s2, s3⟩ := hbox.cell
          have f0 := hbox.free 0
          have f1 := hbox.free 1
          have f2 := hbox.free 2
          have f3 := hbox.free 3
          obtain ⟨gg1, gg2, gg3⟩ := hbox.put4 e9 hbo.1 (.int .i64 kz53) (.slice paz53 laz53 maz53) (.slice pbz53 lbz53 mbz53) (.slice pcz53 lcz53 mcz53)
          have hAn := ArrAt.mono (G := fun _ => True) (fun b hb _ => ⟨trivial, gg3 b (fun e => hb.2 (by rw [e]; exact hxb))⟩) _ _ _ _ _ hA9
          have HGG := Lib.hid (And.intro gg1 (And.intro gg2 hAn))
          clear gg1 gg2 gg3 hAn hA9 hbo hxb hbox
          clear d0 d1 d2 d3 d4 d6
          clear hX hE
          generalize u 102 = t102z53 at *
          generalize u 103 = t103z53 at *
          generalize u 105 = t105z53 at *
          generalize u 101 = t101z53 at *
          clear hvb hva
          clear u
          go_wp2_with fail
          refine OnlyN.mk ?_
          obtain ⟨gg1, gg2, hAn⟩ := HGG.out
          clear HGG s0 s1 s2 s3 f0 f1 f2 f3 e9
          generalize ((((w9.setCell ⟨boz53, 0, none⟩ (.int .i64 kz53)).setCell ⟨boz53, 1, none⟩ (.slice paz53 laz53 maz53)).setCell ⟨boz53, 2, none⟩ (.slice pbz53 lbz53 mbz53)).setCell ⟨boz53, 3, none⟩ (.slice pcz53 lcz53 mcz53)) = wk54 at *
          replace HBy := Lib.hid (HBy.out.ext gg1)
          replace HAy := Lib.hid (HAy.out.ext gg1)
          replace HBa := Lib.hid (HBa.out.ext gg1)
          replace HAa := Lib.hid (HAa.out.ext gg1)
          replace HIo := Lib.hid (HIo.out.ext gg1)
          replace HIb := Lib.hid (HIb.out.ext gg1)
          replace HIw := Lib.hid (HIw.out.ext gg1)
          replace HIt := Lib.hid (HIt.out.ext gg1)
          replace HE := Lib.hid (HE.out.trans (gg1))
          have HBb := Lib.hid gg2
          have HAb := Lib.hid hAn
          clear gg1 gg2 hAn
          go_wp2_with fail
          refine wp_region_y2 [MProp.rdi (idL sy.length), MProp.rd (vecV (idL sy.length)), MProp.is (.agg #[(.int .i64 ky), (.slice r1 sy.length n1), (.slice r2 ny.length n2), (.slice r3 iy.length n3)]), MProp.rd2 (.mk ky sy ny iy) 0, MProp.rd2 (.mk ky sy ny iy) 0, MProp.rd (.mk ky sy ny iy), MProp.is (.int .i64 0), MProp.box] [0, 1, 2, 3, 4, 5, 6, 7] [6] [109, 110, 111, 112, 108, 113, 114, 16] 8 9 (by kernel_rfl) (by kernel_rfl) (by kernel_rfl) rfl rfl ?_ ?_ ?_
          · refine mem_cons_m ?_ (mem_cons_m ?_ (mem_cons_m ?_ (mem_cons_m ?_ (mem_cons_m ?_ (mem_cons_m ?_ (mem_cons_m ?_ (mem_cons_m ?_ (mem_nil_m))))))))
            · refine ⟨_, 109, rfl, by kernel_rfl, ?_⟩
              intro u w9 X hE hX hd K hK
              clear hd
              simp only [overlay, List.setIfInBounds_toArray, List.set] at hK ⊢
              have e9 : Ext wk54 w9 := (Ext.refl wk54).drew.trans hE
              go_wp2_with fail
              have hh := RdIX.old HIw.out (c := pw_) (by rw [HLI.out]; exact ⟨by omega, by omega, hsl8⟩) e9 hX.lo
              rw [HLI.out] at hh
              exact hK _ _ X (Ext.refl _) kept_m hX hh
            · refine ⟨_, 110, rfl, by kernel_rfl, ?_⟩
              intro u w9 X hE hX hd K hK
              have d0 : RdIX X w9 (idL sy.length) (u 109) := hd 0 (by kernel_rfl)
              clear hd
              simp only [overlay, List.setIfInBounds_toArray, List.set] at hK ⊢
              have e9 : Ext wk54 w9 := (Ext.refl wk54).drew.trans hE
              go_wp2_with fail
              refine (vec_rd d0 hX.hi).mono ?_
              rintro e w8 ⟨x8, rfl, hx8, hE8⟩
              go_wp2_with fail
              exact hK _ _ X hE8 kept_m (hX.ext hE8) hx8
            · refine ⟨_, 111, rfl, by kernel_rfl, ?_⟩
              intro u w9 X hE hX hd K hK
              clear hd
              simp only [overlay, List.setIfInBounds_toArray, List.set] at hK ⊢
              have e9 : Ext wk54 w9 := (Ext.refl wk54).drew.trans hE
              obtain ⟨s0, s1, s2, s3⟩ := (HBy.out.ext e9).cell
              go_wp2_with fail
              exact hK _ _ X (Ext.refl _) kept_m hX rfl
            · refine ⟨_, 112, rfl, by kernel_rfl, ?_⟩
              intro u w9 X hE hX hd K hK
              have d1 : RdX X w9 (vecV (idL sy.length)) (u 110) := hd 1 (by kernel_rfl)
              have d2 : u 111 = .agg #[(.int .i64 ky), (.slice r1 sy.length n1), (.slice r2 ny.length n2), (.slice r3 iy.length n3)] := hd 2 (by kernel_rfl)
              clear hd
              simp only [overlay, List.setIfInBounds_toArray, List.set, d2] at hK ⊢
              have e9 : Ext wk54 w9 := (Ext.refl wk54).drew.trans hE
              go_wp2_with fail
              refine (axes_at HA3.out d1 (RdX.old HAy.out e9 hX.lo) hX.hi).mono ?_
              rintro e w8 ⟨x8, rfl, hx8, hE8⟩
              go_wp2_with fail
              exact hK _ _ X hE8 kept_m (hX.ext hE8) ⟨x8, rfl, hx8⟩
            · refine ⟨_, 108, rfl, by kernel_rfl, ?_⟩
              intro u w9 X hE hX hd K hK
              have d3 : ∃ x, u 112 = .tuple #[x, .int .i64 0] ∧ RdX X w9 (.mk ky sy ny iy) x := hd 3 (by kernel_rfl)
              clear hd
              simp only [overlay, List.setIfInBounds_toArray, List.set] at hK ⊢
              obtain ⟨x8, hv8, hx8⟩ := d3
              simp only [hv8] at hK ⊢
              go_wp2_with fail
              exact hK _ _ X (Ext.refl _) kept_m hX ⟨x8, rfl, hx8⟩
            · refine ⟨_, 113, rfl, by kernel_rfl, ?_⟩
              intro u w9 X hE hX hd K hK
              have d4 : ∃ x, u 108 = .tuple #[x, .int .i64 0] ∧ RdX X w9 (.mk ky sy ny iy) x := hd 4 (by kernel_rfl)
              clear hd
              simp only [overlay, List.setIfInBounds_toArray, List.set] at hK ⊢
              obtain ⟨x8, hv8, hx8⟩ := d4
              simp only [hv8] at hK ⊢
              go_wp2_with fail
              exact hK _ _ X (Ext.refl _) kept_m hX hx8
            · refine ⟨_, 114, rfl, by kernel_rfl, ?_⟩
              intro u w9 X hE hX hd K hK
              have d4 : ∃ x, u 108 = .tuple #[x, .int .i64 0] ∧ RdX X w9 (.mk ky sy ny iy) x := hd 4 (by kernel_rfl)
              clear hd
              simp only [overlay, List.setIfInBounds_toArray, List.set] at hK ⊢
              obtain ⟨x8, hv8, hx8⟩ := d4
              simp only [hv8] at hK ⊢
              go_wp2_with fail
              exact hK _ _ X (Ext.refl _) kept_m hX rfl
            · refine ⟨_, 16, rfl, by kernel_rfl, ?_⟩
              intro u w9 X hE hX hd K hK
              clear hd
              simp only [overlay, List.setIfInBounds_toArray, List.set] at hK ⊢
              go_wp2_with fail
              exact hK _ _ (fun b => X b ∨ b = w9.heap.size) ((Ext.refl _).alloc _) added_m (hX.add hE _) ⟨_, rfl, box_new _ _ _ _ _, .inr rfl⟩
          · refine mem_cons_m ?_ (mem_nil_m)
            · refine ⟨_, rfl, ?_⟩
              intro u w9 X hd
              have d4 : ∃ x, u 108 = .tuple #[x, .int .i64 0] ∧ RdX X w9 (.mk ky sy ny iy) x := hd 4 (by kernel_rfl)
              clear hd
              obtain ⟨x8, hv8, hx8⟩ := d4
              simp only [overlay, List.setIfInBounds_toArray, List.set, hv8]
              exact ⟨.int .i64 0, .inl ⟨by kernel_rfl, fun w8 => by go_simp⟩, rfl⟩
          intro u w9 X hE hX hd
          have d0 : RdIX X w9 (idL sy.length) (u 109) := hd 0 (by decide)
          have d1 : RdX X w9 (vecV (idL sy.length)) (u 110) := hd 1 (by decide)
          have d2 : u 111 = .agg #[(.int .i64 ky), (.slice r1 sy.length n1), (.slice r2 ny.length n2), (.slice r3 iy.length n3)] := hd 2 (by decide)
          have d3 : ∃ x, u 112 = .tuple #[x, .int .i64 0] ∧ RdX X w9 (.mk ky sy ny iy) x := hd 3 (by decide)
          have d4 : ∃ x, u 108 = .tuple #[x, .int .i64 0] ∧ RdX X w9 (.mk ky sy ny iy) x := hd 4 (by decide)
          have d5 : RdX X w9 (.mk ky sy ny iy) (u 113) := hd 5 (by decide)
          have d6 : u 114 = .int .i64 0 := hd 6 (by decide)
          have d7 : ∃ b, u 16 = .pointer (some ⟨b, 0, none⟩) ∧ Box4 w9 b (.int .i64 0) (.slice none 0 0) (.slice none 0 0) (.slice none 0 0) ∧ X b := hd 7 (by decide)
          clear hd
          simp only [overlay, List.setIfInBounds_toArray, List.set, d2, d6]
          have e9 : Ext wk54 w9 := (Ext.refl wk54).drew.trans hE
          obtain ⟨boz55, hvb, hbox, hxb⟩ := d7
          obtain ⟨c0, c1, c2, c3, hva, hA9⟩ := d5
          obtain ⟨kz55, paz55, laz55, maz55, pbz55, lbz55, mbz55, pcz55, lcz55, mcz55, rfl, rfl, rfl, rfl⟩ := hA9.form
          have hbo := hX boz55 hxb
          simp only [hvb, hva]
          obtain ⟨s0, s1, s2, s3⟩ := hbox.cell
          have f0 := hbox.free 0
          have f1 := hbox.free 1
          have f2 := hbox.free 2
          have f3 := hbox.free 3
          obtain ⟨gg1, gg2, gg3⟩ := hbox.put4 e9 hbo.1 (.int .i64 kz55) (.slice paz55 laz55 maz55) (.slice pbz55 lbz55 mbz55) (.slice pcz55 lcz55 mcz55)
          have hAn := ArrAt.mono (G := fun _ => True) (fun b hb _ => ⟨trivial, gg3 b (fun e => hb.2 (by rw [e]; exact hxb))⟩) _ _ _ _ _ hA9
          have HGG := Lib.hid (And.intro gg1 (And.intro gg2 hAn))
          clear gg1 gg2 gg3 hAn hA9 hbo hxb hbox
          clear d0 d1 d2 d3 d4 d6
          clear hX hE
          generalize u 109 = t109z55 at *
          generalize u 110 = t110z55 at *
          generalize u 112 = t112z55 at *
          generalize u 108 = t108z55 at *
          clear hvb hva
          clear u
          go_wp2_with fail
          refine OnlyN.mk ?_
          obtain ⟨gg1, gg2, hAn⟩ := HGG.out
          clear HGG s0 s1 s2 s3 f0 f1 f2 f3 e9
          generalize ((((w9.setCell ⟨boz55, 0, none⟩ (.int .i64 kz55)).setCell ⟨boz55, 1, none⟩ (.slice paz55 laz55 maz55)).setCell ⟨boz55, 2, none⟩ (.slice pbz55 lbz55 mbz55)).setCell ⟨boz55, 3, none⟩ (.slice pcz55 lcz55 mcz55)) = wk56 at *
          replace HBy := Lib.hid (HBy.out.ext gg1)
          replace HAy := Lib.hid (HAy.out.ext gg1)
          replace HBa := Lib.hid (HBa.out.ext gg1)
          replace HAa := Lib.hid (HAa.out.ext gg1)
          replace HBb := Lib.hid (HBb.out.ext gg1)
          replace HAb := Lib.hid (HAb.out.ext gg1)
          replace HIo := Lib.hid (HIo.out.ext gg1)
          replace HIb := Lib.hid (HIb.out.ext gg1)
          replace HIw := Lib.hid (HIw.out.ext gg1)
          replace HIt := Lib.hid (HIt.out.ext gg1)
          replace HE := Lib.hid (HE.out.trans (gg1))
          have HBc := Lib.hid gg2
          have HAc := Lib.hid hAn
          clear gg1 gg2 hAn
          go_wp2_with fail
          refine wp_region_y2 [MProp.rdi (revAxes sy.length), MProp.rd (vecV (revAxes sy.length)), MProp.is (.agg #[(.int .i64 ky), (.slice r1 sy.length n1), (.slice r2 ny.length n2), (.slice r3 iy.length n3)]), MProp.rd2 (reverseV (.mk ky sy ny iy)) 0, MProp.rd2 (reverseV (.mk ky sy ny iy)) 0, MProp.rd (reverseV (.mk ky sy ny iy)), MProp.is (.int .i64 0), MProp.box] [0, 1, 2, 3, 4, 5, 6, 7] [6] [116, 117, 118, 119, 115, 120, 121, 18] 8 9 (by kernel_rfl) (by kernel_rfl) (by kernel_rfl) rfl rfl ?_ ?_ ?_
          · refine mem_cons_m ?_ (mem_cons_m ?_ (mem_cons_m ?_ (mem_cons_m ?_ (mem_cons_m ?_ (mem_cons_m ?_ (mem_cons_m ?_ (mem_cons_m ?_ (mem_nil_m))))))))
            · refine ⟨_, 116, rfl, by kernel_rfl, ?_⟩
              intro u w9 X hE hX hd K hK
              clear hd
              simp only [overlay, List.setIfInBounds_toArray, List.set] at hK ⊢
              have e9 : Ext wk56 w9 := (Ext.refl wk56).drew.trans hE
              go_wp2_with fail
              have hh := RdIX.old HIt.out (c := ct) (by rw [HLR.out]; exact ⟨by omega, by omega, hsl8⟩) e9 hX.lo
              rw [HLR.out] at hh
              exact hK _ _ X (Ext.refl _) kept_m hX hh
            · refine ⟨_, 117, rfl, by kernel_rfl, ?_⟩
              intro u w9 X hE hX hd K hK
              have d0 : RdIX X w9 (revAxes sy.length) (u 116) := hd 0 (by kernel_rfl)
              clear hd
              simp only [overlay, List.setIfInBounds_toArray, List.set] at hK ⊢
              have e9 : Ext wk56 w9 := (Ext.refl wk56).drew.trans hE
              go_wp2_with fail
              refine (vec_rd d0 hX.hi).mono ?_
              rintro e w8 ⟨x8, rfl, hx8, hE8⟩
              go_wp2_with fail
              exact hK _ _ X hE8 kept_m (hX.ext hE8) hx8
            · refine ⟨_, 118, rfl, by kernel_rfl, ?_⟩
              intro u w9 X hE hX hd K hK
              clear hd
              simp only [overlay, List.setIfInBounds_toArray, List.set] at hK ⊢
              have e9 : Ext wk56 w9 := (Ext.refl wk56).drew.trans hE
              obtain ⟨s0, s1, s2, s3⟩ := (HBy.out.ext e9).cell
              go_wp2_with fail
              exact hK _ _ X (Ext.refl _) kept_m hX rfl
            · refine ⟨_, 119, rfl, by kernel_rfl, ?_⟩
              intro u w9 X hE hX hd K hK
              have d1 : RdX X w9 (vecV (revAxes sy.length)) (u 117) := hd 1 (by kernel_rfl)
              have d2 : u 118 = .agg #[(.int .i64 ky), (.slice r1 sy.length n1), (.slice r2 ny.length n2), (.slice r3 iy.length n3)] := hd 2 (by kernel_rfl)
              clear hd
              simp only [overlay, List.setIfInBounds_toArray, List.set, d2] at hK ⊢
              have e9 : Ext wk56 w9 := (Ext.refl wk56).drew.trans hE
              go_wp2_with fail
              refine (axes_at HA4.out d1 (RdX.old HAy.out e9 hX.lo) hX.hi).mono ?_
              rintro e w8 ⟨x8, rfl, hx8, hE8⟩
              go_wp2_with fail
              exact hK _ _ X hE8 kept_m (hX.ext hE8) ⟨x8, rfl, hx8⟩
            · refine ⟨_, 115, rfl, by kernel_rfl, ?_⟩
              intro u w9 X hE hX hd K hK
              have d3 : ∃ x, u 119 = .tuple #[x, .int .i64 0] ∧ RdX X w9 (reverseV (.mk ky sy ny iy)) x := hd 3 (by kernel_rfl)
              clear hd
              simp only [overlay, List.setIfInBounds_toArray, List.set] at hK ⊢
              obtain ⟨x8, hv8, hx8⟩ := d3
              simp only [hv8] at hK ⊢
              go_wp2_with fail
              exact hK _ _ X (Ext.refl _) kept_m hX ⟨x8, rfl, hx8⟩
            · refine ⟨_, 120, rfl, by kernel_rfl, ?_⟩
              intro u w9 X hE hX hd K hK
              have d4 : ∃ x, u 115 = .tuple #[x, .int .i64 0] ∧ RdX X w9 (reverseV (.mk ky sy ny iy)) x := hd 4 (by kernel_rfl)
              clear hd
              simp only [overlay, List.setIfInBounds_toArray, List.set] at hK ⊢
              obtain ⟨x8, hv8, hx8⟩ := d4
              simp only [hv8] at hK ⊢
              go_wp2_with fail
              exact hK _ _ X (Ext.refl _) kept_m hX hx8
            · refine ⟨_, 121, rfl, by kernel_rfl, ?_⟩
              intro u w9 X hE hX hd K hK
              have d4 : ∃ x, u 115 = .tuple #[x, .int .i64 0] ∧ RdX X w9 (reverseV (.mk ky sy ny iy)) x := hd 4 (by kernel_rfl)
              clear hd
              simp only [overlay, List.setIfInBounds_toArray, List.set] at hK ⊢
              obtain ⟨x8, hv8, hx8⟩ := d4
              simp only [hv8] at hK ⊢
              go_wp2_with fail
              exact hK _ _ X (Ext.refl _) kept_m hX rfl
            · refine ⟨_, 18, rfl, by kernel_rfl, ?_⟩
              intro u w9 X hE hX hd K hK
              clear hd
              simp only [overlay, List.setIfInBounds_toArray, List.set] at hK ⊢
              go_wp2_with fail
              exact hK _ _ (fun b => X b ∨ b = w9.heap.size) ((Ext.refl _).alloc _) added_m (hX.add hE _) ⟨_, rfl, box_new _ _ _ _ _, .inr rfl⟩
          · refine mem_cons_m ?_ (mem_nil_m)
            · refine ⟨_, rfl, ?_⟩
              intro u w9 X hd
              have d4 : ∃ x, u 115 = .tuple #[x, .int .i64 0] ∧ RdX X w9 (reverseV (.mk ky sy ny iy)) x := hd 4 (by kernel_rfl)
              clear hd
              obtain ⟨x8, hv8, hx8⟩ := d4
              simp only [overlay, List.setIfInBounds_toArray, List.set, hv8]
              exact ⟨.int .i64 0, .inl ⟨by kernel_rfl, fun w8 => by go_simp⟩, rfl⟩
          intro u w9 X hE hX hd
          have d0 : RdIX X w9 (revAxes sy.length) (u 116) := hd 0 (by decide)
          have d1 : RdX X w9 (vecV (revAxes sy.length)) (u 117) := hd 1 (by decide)
          have d2 : u 118 = .agg #[(.int .i64 ky), (.slice r1 sy.length n1), (.slice r2 ny.length n2), (.slice r3 iy.length n3)] := hd 2 (by decide)
          have d3 : ∃ x, u 119 = .tuple #[x, .int .i64 0] ∧ RdX X w9 (reverseV (.mk ky sy ny iy)) x := hd 3 (by decide)
          have d4 : ∃ x, u 115 = .tuple #[x, .int .i64 0] ∧ RdX X w9 (reverseV (.mk ky sy ny iy)) x := hd 4 (by decide)
          have d5 : RdX X w9 (reverseV (.mk ky sy ny iy)) (u 120) := hd 5 (by decide)
          have d6 : u 121 = .int .i64 0 := hd 6 (by decide)
          have d7 : ∃ b, u 18 = .pointer (some ⟨b, 0, none⟩) ∧ Box4 w9 b (.int .i64 0) (.slice none 0 0) (.slice none 0 0) (.slice none 0 0) ∧ X b := hd 7 (by decide)
          clear hd
          simp only [overlay, List.setIfInBounds_toArray, List.set, d2, d6]
          have e9 : Ext wk56 w9 := (Ext.refl wk56).drew.trans hE
          obtain ⟨boz57, hvb, hbox, hxb⟩ := d7
          obtain ⟨c0, c1, c2, c3, hva, hA9⟩ := d5
          obtain ⟨kz57, paz57, laz57, maz57, pbz57, lbz57, mbz57, pcz57, lcz57, mcz57, rfl, rfl, rfl, rfl⟩ := hA9.form
          have hbo := hX boz57 hxb
          simp only [hvb, hva]
          obtain ⟨s0, s1, s2, s3⟩ := hbox.cell
          have f0 := hbox.free 0
          have f1 := hbox.free 1
          have f2 := hbox.free 2
          have f3 := hbox.free 3
          obtain ⟨gg1, gg2, gg3⟩ := hbox.put4 e9 hbo.1 (.int .i64 kz57) (.slice paz57 laz57 maz57) (.slice pbz57 lbz57 mbz57) (.slice pcz57 lcz57 mcz57)
          have hAn := ArrAt.mono (G := fun _ => True) (fun b hb _ => ⟨trivial, gg3 b (fun e => hb.2 (by rw [e]; exact hxb))⟩) _ _ _ _ _ hA9
          have HGG := Lib.hid (And.intro gg1 (And.intro gg2 hAn))
          clear gg1 gg2 gg3 hAn hA9 hbo hxb hbox
          clear d0 d1 d2 d3 d4 d6
          clear hX hE
          generalize u 116 = t116z57 at *
          generalize u 117 = t117z57 at *
          generalize u 119 = t119z57 at *
          generalize u 115 = t115z57 at *
          clear hvb hva
          clear u
          go_wp2_with fail
          refine OnlyN.mk ?_
          obtain ⟨gg1, gg2, hAn⟩ := HGG.out
          clear HGG s0 s1 s2 s3 f0 f1 f2 f3 e9
          generalize ((((w9.setCell ⟨boz57, 0, none⟩ (.int .i64 kz57)).setCell ⟨boz57, 1, none⟩ (.slice paz57 laz57 maz57)).setCell ⟨boz57, 2, none⟩ (.slice pbz57 lbz57 mbz57)).setCell ⟨boz57, 3, none⟩ (.slice pcz57 lcz57 mcz57)) = wk58 at *
          replace HBy := Lib.hid (HBy.out.ext gg1)
          replace HAy := Lib.hid (HAy.out.ext gg1)
          replace HBa := Lib.hid (HBa.out.ext gg1)
          replace HAa := Lib.hid (HAa.out.ext gg1)
          replace HBb := Lib.hid (HBb.out.ext gg1)
          replace HAb := Lib.hid (HAb.out.ext gg1)
          replace HBc := Lib.hid (HBc.out.ext gg1)
          replace HAc := Lib.hid (HAc.out.ext gg1)
          replace HIo := Lib.hid (HIo.out.ext gg1)
          replace HIb := Lib.hid (HIb.out.ext gg1)
          replace HIw := Lib.hid (HIw.out.ext gg1)
          replace HIt := Lib.hid (HIt.out.ext gg1)
          replace HE := Lib.hid (HE.out.trans (gg1))
          have HBd := Lib.hid gg2
          have HAd := Lib.hid hAn
          clear gg1 gg2 hAn
          clear HA1 HA2 HA3 HA4 HIo HIb HIw HIt
          go_wp2_with fail
          refine wp_region_x0 [MProp.is (.agg #[(.int .i64 kz53), (.slice paz53 laz53 maz53), (.slice pbz53 lbz53 mbz53), (.slice pcz53 lcz53 mcz53)]), MProp.is (.agg #[(.int .i64 ky), (.slice r1 sy.length n1), (.slice r2 ny.length n2), (.slice r3 iy.length n3)]), MProp.is (.bool true), MProp.is (.bool true), MProp.is (.agg #[(.int .i64 kz55), (.slice paz55 laz55 maz55), (.slice pbz55 lbz55 mbz55), (.slice pcz55 lcz55 mcz55)]), MProp.is (.agg #[(.int .i64 ky), (.slice r1 sy.length n1), (.slice r2 ny.length n2), (.slice r3 iy.length n3)]), MProp.is (.bool true), MProp.is (.bool true), MProp.is (.bool true), MProp.is (.agg #[(.int .i64 kz57), (.slice paz57 laz57 maz57), (.slice pbz57 lbz57 mbz57), (.slice pcz57 lcz57 mcz57)]), MProp.is (.agg #[(.int .i64 ky), (.slice r1 sy.length n1), (.slice r2 ny.length n2), (.slice r3 iy.length n3)]), MProp.rd (reverseV (.mk ky sy ny iy)), MProp.is (.bool true), MProp.is (.bool true), MProp.is (.bool true), MProp.is (.bool true), MProp.is (.bool true), MProp.is (.bool true)] [0, 1, 2, 3, 4, 5, 6, 7, 8, 9, 10, 11, 12, 13, 14, 15, 16, 17] [] [136, 137, 138, 139, 140, 141, 142, 143, 144, 145, 146, 147, 148, 149, 150, 151, 152, 4] (by kernel_rfl) (by kernel_rfl) (by kernel_rfl) ?_ ?_ ?_
          · refine mem_cons_m ?_ (mem_cons_m ?_ (mem_cons_m ?_ (mem_cons_m ?_ (mem_cons_m ?_ (mem_cons_m ?_ (mem_cons_m ?_ (mem_cons_m ?_ (mem_cons_m ?_ (mem_cons_m ?_ (mem_cons_m ?_ (mem_cons_m ?_ (mem_cons_m ?_ (mem_cons_m ?_ (mem_cons_m ?_ (mem_cons_m ?_ (mem_cons_m ?_ (mem_cons_m ?_ (mem_nil_m))))))))))))))))))
            · refine ⟨_, 136, rfl, by kernel_rfl, ?_⟩
              intro u w9 X hE hX hd K hK
              clear hd
              simp only [overlay, List.setIfInBounds_toArray, List.set] at hK ⊢
              have e9 : Ext wk58 w9 := (Ext.refl wk58).drew.trans hE
              obtain ⟨s0, s1, s2, s3⟩ := (HBb.out.ext e9).cell
              go_wp2_with fail
              exact hK _ _ X (Ext.refl _) kept_m hX rfl
            · refine ⟨_, 137, rfl, by kernel_rfl, ?_⟩
              intro u w9 X hE hX hd K hK
              clear hd
              simp only [overlay, List.setIfInBounds_toArray, List.set] at hK ⊢
              have e9 : Ext wk58 w9 := (Ext.refl wk58).drew.trans hE
              obtain ⟨s0, s1, s2, s3⟩ := (HBy.out.ext e9).cell
              go_wp2_with fail
              exact hK _ _ X (Ext.refl _) kept_m hX rfl
            · refine ⟨_, 138, rfl, by kernel_rfl, ?_⟩
              intro u w9 X hE hX hd K hK
              have d0 : u 136 = .agg #[(.int .i64 kz53), (.slice paz53 laz53 maz53), (.slice pbz53 lbz53 mbz53), (.slice pcz53 lcz53 mcz53)] := hd 0 (by kernel_rfl)
              have d1 : u 137 = .agg #[(.int .i64 ky), (.slice r1 sy.length n1), (.slice r2 ny.length n2), (.slice r3 iy.length n3)] := hd 1 (by kernel_rfl)
              clear hd
              simp only [overlay, List.setIfInBounds_toArray, List.set, d0, d1] at hK ⊢
              have e9 : Ext wk58 w9 := (Ext.refl wk58).drew.trans hE
              go_wp2_with fail
              refine (same_true ((RdX.old HAb.out e9 hX.lo)).rd ((RdX.old HAy.out e9 hX.lo)).rd rfl rfl).mono ?_
              rintro e w8 ⟨rfl, hE8⟩
              go_wp2_with fail
              exact hK _ _ X hE8 kept_m (hX.ext hE8) rfl
            · refine ⟨_, 139, rfl, by kernel_rfl, ?_⟩
              intro u w9 X hE hX hd K hK
              have d2 : u 138 = .bool true := hd 2 (by kernel_rfl)
              clear hd
              simp only [overlay, List.setIfInBounds_toArray, List.set, d2] at hK ⊢
              go_wp2_with fail
              exact hK _ _ X (Ext.refl _) kept_m hX rfl
            · refine ⟨_, 140, rfl, by kernel_rfl, ?_⟩
              intro u w9 X hE hX hd K hK
              have d3 : u 139 = .bool true := hd 3 (by kernel_rfl)
              clear hd
              simp only [overlay, List.setIfInBounds_toArray, List.set, d3] at hK ⊢
              have e9 : Ext wk58 w9 := (Ext.refl wk58).drew.trans hE
              obtain ⟨s0, s1, s2, s3⟩ := (HBc.out.ext e9).cell
              go_wp2_with fail
              exact hK _ _ X (Ext.refl _) kept_m hX rfl
            · refine ⟨_, 141, rfl, by kernel_rfl, ?_⟩
              intro u w9 X hE hX hd K hK
              have d3 : u 139 = .bool true := hd 3 (by kernel_rfl)
              clear hd
              simp only [overlay, List.setIfInBounds_toArray, List.set, d3] at hK ⊢
              have e9 : Ext wk58 w9 := (Ext.refl wk58).drew.trans hE
              obtain ⟨s0, s1, s2, s3⟩ := (HBy.out.ext e9).cell
              go_wp2_with fail
              exact hK _ _ X (Ext.refl _) kept_m hX rfl
            · refine ⟨_, 142, rfl, by kernel_rfl, ?_⟩
              intro u w9 X hE hX hd K hK
              have d4 : u 140 = .agg #[(.int .i64 kz55), (.slice paz55 laz55 maz55), (.slice pbz55 lbz55 mbz55), (.slice pcz55 lcz55 mcz55)] := hd 4 (by kernel_rfl)
              have d5 : u 141 = .agg #[(.int .i64 ky), (.slice r1 sy.length n1), (.slice r2 ny.length n2), (.slice r3 iy.length n3)] := hd 5 (by kernel_rfl)
              have d3 : u 139 = .bool true := hd 3 (by kernel_rfl)
              clear hd
              simp only [overlay, List.setIfInBounds_toArray, List.set, d4, d5, d3] at hK ⊢
              have e9 : Ext wk58 w9 := (Ext.refl wk58).drew.trans hE
              go_wp2_with fail
              refine (same_true ((RdX.old HAc.out e9 hX.lo)).rd ((RdX.old HAy.out e9 hX.lo)).rd rfl rfl).mono ?_
              rintro e w8 ⟨rfl, hE8⟩
              go_wp2_with fail
              exact hK _ _ X hE8 kept_m (hX.ext hE8) rfl
            · refine ⟨_, 143, rfl, by kernel_rfl, ?_⟩
              intro u w9 X hE hX hd K hK
              have d3 : u 139 = .bool true := hd 3 (by kernel_rfl)
              have d6 : u 142 = .bool true := hd 6 (by kernel_rfl)
              clear hd
              simp only [overlay, List.setIfInBounds_toArray, List.set, d3, d6] at hK ⊢
              go_wp2_with fail
              exact hK _ _ X (Ext.refl _) kept_m hX rfl
            · refine ⟨_, 144, rfl, by kernel_rfl, ?_⟩
              intro u w9 X hE hX hd K hK
              have d7 : u 143 = .bool true := hd 7 (by kernel_rfl)
              clear hd
              simp only [overlay, List.setIfInBounds_toArray, List.set, d7] at hK ⊢
              go_wp2_with fail
              exact hK _ _ X (Ext.refl _) kept_m hX rfl
            · refine ⟨_, 145, rfl, by kernel_rfl, ?_⟩
              intro u w9 X hE hX hd K hK
              have d8 : u 144 = .bool true := hd 8 (by kernel_rfl)
              clear hd
              simp only [overlay, List.setIfInBounds_toArray, List.set, d8] at hK ⊢
              have e9 : Ext wk58 w9 := (Ext.refl wk58).drew.trans hE
              obtain ⟨s0, s1, s2, s3⟩ := (HBd.out.ext e9).cell
              go_wp2_with fail
              exact hK _ _ X (Ext.refl _) kept_m hX rfl
            · refine ⟨_, 146, rfl, by kernel_rfl, ?_⟩
              intro u w9 X hE hX hd K hK
              have d8 : u 144 = .bool true := hd 8 (by kernel_rfl)
              clear hd
              simp only [overlay, List.setIfInBounds_toArray, List.set, d8] at hK ⊢
              have e9 : Ext wk58 w9 := (Ext.refl wk58).drew.trans hE
              obtain ⟨s0, s1, s2, s3⟩ := (HBy.out.ext e9).cell
              go_wp2_with fail
              exact hK _ _ X (Ext.refl _) kept_m hX rfl
            · refine ⟨_, 147, rfl, by kernel_rfl, ?_⟩
              intro u w9 X hE hX hd K hK
              have d10 : u 146 = .agg #[(.int .i64 ky), (.slice r1 sy.length n1), (.slice r2 ny.length n2), (.slice r3 iy.length n3)] := hd 10 (by kernel_rfl)
              have d8 : u 144 = .bool true := hd 8 (by kernel_rfl)
              clear hd
              simp only [overlay, List.setIfInBounds_toArray, List.set, d10, d8] at hK ⊢
              have e9 : Ext wk58 w9 := (Ext.refl wk58).drew.trans hE
              go_wp2_with fail
              refine (reverse_at rfl (RdX.old HAy.out e9 hX.lo) hX.hi).mono ?_
              rintro e w8 ⟨x8, rfl, hx8, hE8⟩
              go_wp2_with fail
              exact hK _ _ X hE8 kept_m (hX.ext hE8) hx8
            · refine ⟨_, 148, rfl, by kernel_rfl, ?_⟩
              intro u w9 X hE hX hd K hK
              have d9 : u 145 = .agg #[(.int .i64 kz57), (.slice paz57 laz57 maz57), (.slice pbz57 lbz57 mbz57), (.slice pcz57 lcz57 mcz57)] := hd 9 (by kernel_rfl)
              have d11 : RdX X w9 (reverseV (.mk ky sy ny iy)) (u 147) := hd 11 (by kernel_rfl)
              have d8 : u 144 = .bool true := hd 8 (by kernel_rfl)
              clear hd
              simp only [overlay, List.setIfInBounds_toArray, List.set, d9, d8] at hK ⊢
              have e9 : Ext wk58 w9 := (Ext.refl wk58).drew.trans hE
              go_wp2_with fail
              refine (same_true ((RdX.old HAd.out e9 hX.lo)).rd (d11).rd rfl rfl).mono ?_
              rintro e w8 ⟨rfl, hE8⟩
              go_wp2_with fail
              exact hK _ _ X hE8 kept_m (hX.ext hE8) rfl
            · refine ⟨_, 149, rfl, by kernel_rfl, ?_⟩
              intro u w9 X hE hX hd K hK
              have d8 : u 144 = .bool true := hd 8 (by kernel_rfl)
              have d12 : u 148 = .bool true := hd 12 (by kernel_rfl)
              clear hd
              simp only [overlay, List.setIfInBounds_toArray, List.set, d8, d12] at hK ⊢
              go_wp2_with fail
              exact hK _ _ X (Ext.refl _) kept_m hX rfl
            · refine ⟨_, 150, rfl, by kernel_rfl, ?_⟩
              intro u w9 X hE hX hd K hK
              have d13 : u 149 = .bool true := hd 13 (by kernel_rfl)
              clear hd
              simp only [overlay, List.setIfInBounds_toArray, List.set, d13] at hK ⊢
              go_wp2_with fail
              exact hK _ _ X (Ext.refl _) kept_m hX rfl
            · refine ⟨_, 151, rfl, by kernel_rfl, ?_⟩
              intro u w9 X hE hX hd K hK
              have d14 : u 150 = .bool true := hd 14 (by kernel_rfl)
              clear hd
              simp only [overlay, List.setIfInBounds_toArray, List.set, d14] at hK ⊢
              have e9 : Ext wk58 w9 := (Ext.refl wk58).drew.trans hE
              go_wp2_with fail
              refine (awake_any _).mono ?_
              rintro e w8 ⟨rfl, hE8⟩
              go_wp2_with fail
              exact hK _ _ X hE8 kept_m (hX.ext hE8) rfl
            · refine ⟨_, 152, rfl, by kernel_rfl, ?_⟩
              intro u w9 X hE hX hd K hK
              have d14 : u 150 = .bool true := hd 14 (by kernel_rfl)
              have d15 : u 151 = .bool true := hd 15 (by kernel_rfl)
              clear hd
              simp only [overlay, List.setIfInBounds_toArray, List.set, d14, d15] at hK ⊢
              go_wp2_with fail
              exact hK _ _ X (Ext.refl _) kept_m hX rfl
            · refine ⟨_, 4, rfl, by kernel_rfl, ?_⟩
              intro u w9 X hE hX hd K hK
              have d16 : u 152 = .bool true := hd 16 (by kernel_rfl)
              clear hd
              simp only [overlay, List.setIfInBounds_toArray, List.set, d16] at hK ⊢
              go_wp2_with fail
              exact hK _ _ X (Ext.refl _) kept_m hX rfl
          · exact mem_nil_m
          intro u w9 X hE hX hd
          have d0 : u 136 = .agg #[(.int .i64 kz53), (.slice paz53 laz53 maz53), (.slice pbz53 lbz53 mbz53), (.slice pcz53 lcz53 mcz53)] := hd 0 (by decide)
          have d1 : u 137 = .agg #[(.int .i64 ky), (.slice r1 sy.length n1), (.slice r2 ny.length n2), (.slice r3 iy.length n3)] := hd 1 (by decide)
          have d2 : u 138 = .bool true := hd 2 (by decide)
          have d3 : u 139 = .bool true := hd 3 (by decide)
          have d4 : u 140 = .agg #[(.int .i64 kz55), (.slice paz55 laz55 maz55), (.slice pbz55 lbz55 mbz55), (.slice pcz55 lcz55 mcz55)] := hd 4 (by decide)
          have d5 : u 141 = .agg #[(.int .i64 ky), (.slice r1 sy.length n1), (.slice r2 ny.length n2), (.slice r3 iy.length n3)] := hd 5 (by decide)
          have d6 : u 142 = .bool true := hd 6 (by decide)
          have d7 : u 143 = .bool true := hd 7 (by decide)
          have d8 : u 144 = .bool true := hd 8 (by decide)
          have d9 : u 145 = .agg #[(.int .i64 kz57), (.slice paz57 laz57 maz57), (.slice pbz57 lbz57 mbz57), (.slice pcz57 lcz57 mcz57)] := hd 9 (by decide)
          have d10 : u 146 = .agg #[(.int .i64 ky), (.slice r1 sy.length n1), (.slice r2 ny.length n2), (.slice r3 iy.length n3)] := hd 10 (by decide)
          have d11 : RdX X w9 (reverseV (.mk ky sy ny iy)) (u 147) := hd 11 (by decide)
          have d12 : u 148 = .bool true := hd 12 (by decide)
          have d13 : u 149 = .bool true := hd 13 (by decide)
          have d14 : u 150 = .bool true := hd 14 (by decide)
          have d15 : u 151 = .bool true := hd 15 (by decide)
          have d16 : u 152 = .bool true := hd 16 (by decide)
          have d17 : u 4 = .bool true := hd 17 (by decide)
          clear hd
          simp only [overlay, List.setIfInBounds_toArray, List.set, d0, d1, d2, d3, d4, d5, d6, d7, d8, d9, d10, d12, d13, d14, d15, d16, d17]
          have e9 : Ext wk58 w9 := (Ext.refl wk58).drew.trans hE
          clear d0 d1 d2 d3 d4 d5 d6 d7 d8 d9 d10 d11 d12 d13 d14 d15 d16 d17
          clear hX hE
          generalize u 147 = t147z59
          clear u
          obtain ⟨wk60, rfl⟩ : ∃ wx : World, wx = w9 := ⟨_, rfl⟩
          replace HBy := Lib.hid (HBy.out.ext e9)
          replace HAy := Lib.hid (HAy.out.ext e9)
          replace HBa := Lib.hid (HBa.out.ext e9)
          replace HAa := Lib.hid (HAa.out.ext e9)
          replace HBb := Lib.hid (HBb.out.ext e9)
          replace HAb := Lib.hid (HAb.out.ext e9)
          replace HBc := Lib.hid (HBc.out.ext e9)
          replace HAc := Lib.hid (HAc.out.ext e9)
          replace HBd := Lib.hid (HBd.out.ext e9)
          replace HAd := Lib.hid (HAd.out.ext e9)
          replace HE := Lib.hid (HE.out.trans (e9))
          clear e9
          go_wp2_with fail
          go_ret
          exact ⟨rfl, HE.out⟩

end Go.Proofs.Ytcmnlnamgnbemaa
