/-
  THE WALKS of order.contents, compare, Compare, Less. (Printed by gen_ordb.py.)
-/
import Derived.Test.YtgkemmdghmklfaaCells
import Derived.Laws.EntriesVeiled
namespace Go.Proofs.Ytgkemmdghmklfaa
set_option linter.unusedSimpArgs false
set_option linter.unusedVariables false
open Go.RowKit

theorem itemsV_some : ∀ (l : List Arr) (d wt : Int) (z : Int × Int), itemsV l d wt = some z → ∀ t ∈ l, rightV t = 0
  | [], _, _, _, _, t, ht => by simp at ht
  | x :: r, d, wt, z, h, t, ht => by
    rw [itemsV] at h
    split at h
    · cases h
    · rename_i h1
      rcases List.mem_cons.1 ht with rfl | ht
      · exact Classical.byContradiction fun hc => h1 hc
      · exact itemsV_some r _ _ z h t ht
/-- The items of a right array are right. -/
theorem right_items {k : Int} {s n : List Int} {it : List Arr} (h : rightV (.mk k s n it) = 0) : ∀ t ∈ it, rightV t = 0 := by
  unfold rightV at h
  rw [visitV] at h
  split at h
  · rename_i h1; exact absurd h h1
  · split at h
    · cases h
    · split at h
      · cases h
      · rename_i hz
        exact itemsV_some it _ _ _ hz
/-- How many elements. -/
theorem right_vol {k : Int} {s n : List Int} {it : List Arr} (h : rightV (.mk k s n it) = 0) : (if k = 3 then it.length else n.length) = volN s ∧ volN s ≤ 65536 := by
  obtain ⟨h1, h2, h3, h4, h5⟩ := right_parts h
  have h6 := shapeSize_hi s
  unfold volN
  by_cases hk : k = 3
  · rw [if_pos hk]; have := (h5 hk).2; omega
  · rw [if_neg hk]; have := (h4 hk).2; omega

theorem cst_new {F G : Nat → Prop} {w : World} {x y : Arr} {k : Int} {X1 X2 X3 Y1 Y2 Y3 : Value} (rk : Nat) (T3 T4 : TypeId) (hx : ArrAt F w x (.int .i64 k) X1 X2 X3) (hy : ArrAt G w y (.int .i64 k) Y1 Y2 Y3) :
    CSt F G ((((w.alloc (.cells #[.int .i64 k, X1, X2, X3] 26)).alloc (.cells #[.int .i64 k, Y1, Y2, Y3] 26)).alloc (.cells #[.int .i64 (rk : Int)] T3)).alloc
      (.cells #[.func (.func 162) #[] #[.pointer (some ⟨w.heap.size + 1 + 1, 0, none⟩), .pointer (some ⟨w.heap.size, 0, none⟩), .pointer (some ⟨w.heap.size + 1, 0, none⟩), .pointer (some ⟨w.heap.size + 1 + 1 + 1, 0, none⟩)]] T4))
      (w.heap.size + 1 + 1) w.heap.size (w.heap.size + 1) (w.heap.size + 1 + 1 + 1) rk x y k X1 X2 X3 Y1 Y2 Y3 := by
  have hE : Ext w ((((w.alloc (.cells #[.int .i64 k, X1, X2, X3] 26)).alloc (.cells #[.int .i64 k, Y1, Y2, Y3] 26)).alloc (.cells #[.int .i64 (rk : Int)] T3)).alloc
      (.cells #[.func (.func 162) #[] #[.pointer (some ⟨w.heap.size + 1 + 1, 0, none⟩), .pointer (some ⟨w.heap.size, 0, none⟩), .pointer (some ⟨w.heap.size + 1, 0, none⟩), .pointer (some ⟨w.heap.size + 1 + 1 + 1, 0, none⟩)]] T4)) := ((((Ext.refl _).alloc _).alloc _).alloc _).alloc _
  have h1 := box_new w (.int .i64 k) X1 X2 X3
  have h2 := box_new (w.alloc (.cells #[.int .i64 k, X1, X2, X3] 26)) (.int .i64 k) Y1 Y2 Y3
  rw [World.size_alloc] at h2
  have h30 : ∀ (W : World) (v : Value), (W.alloc (.cells #[v] T3)).cell? ⟨W.heap.size, 0, none⟩ = some v := fun W v => by simp
  have h3 := h30 ((w.alloc (.cells #[.int .i64 k, X1, X2, X3] 26)).alloc (.cells #[.int .i64 k, Y1, Y2, Y3] 26)) (.int .i64 (rk : Int))
  rw [World.size_alloc, World.size_alloc] at h3
  have h4 : ∀ (W : World) (v : Value), (W.alloc (.cells #[v] T4)).cell? ⟨W.heap.size, 0, none⟩ = some v := fun W v => by simp
  have h5 := h4 (((w.alloc (.cells #[.int .i64 k, X1, X2, X3] 26)).alloc (.cells #[.int .i64 k, Y1, Y2, Y3] 26)).alloc (.cells #[.int .i64 (rk : Int)] T3))
    (.func (.func 162) #[] #[.pointer (some ⟨w.heap.size + 1 + 1, 0, none⟩), .pointer (some ⟨w.heap.size, 0, none⟩), .pointer (some ⟨w.heap.size + 1, 0, none⟩), .pointer (some ⟨w.heap.size + 1 + 1 + 1, 0, none⟩)])
  rw [World.size_alloc, World.size_alloc, World.size_alloc] at h5
  exact ⟨((Ext.refl _).alloc _).cell h3, (((h1.ext ((Ext.refl _).alloc _)).ext ((Ext.refl _).alloc _)).ext ((Ext.refl _).alloc _)), (h2.ext ((Ext.refl _).alloc _)).ext ((Ext.refl _).alloc _), h5, hx.ext hE, hy.ext hE⟩

set_option maxRecDepth 1000000 in
set_option maxHeartbeats 16000000 in
theorem contents_any (f : Arr → Arr → Int) (F G : Nat → Prop) (x y : Arr) (c0 c1 c2 c3 d0 d1 d2 d3 : Value) (w : World) (hx : ArrAt F w x c0 c1 c2 c3) (hy : ArrAt G w y d0 d1 d2 d3) (hrx : rightV x = 0) (hry : rightV y = 0)
    (hf : ∀ k s n it k' s' n' it', x = .mk k s n it → y = .mk k' s' n' it' → ∀ i j, i < it.length → j < it'.length → ∀ (w : World) (c0 c1 c2 c3 d0 d1 d2 d3 : Value), ArrAt F w (it.getD i default) c0 c1 c2 c3 → ArrAt G w (it'.getD j default) d0 d1 d2 d3 →
      Calls Try.prog 100 #[.agg #[c0, c1, c2, c3], .agg #[d0, d1, d2, d3]] w fun e w' => e = .returned (.int .i64 (f (it.getD i default) (it'.getD j default))) ∧ Ext w w') :
    Calls Try.prog 144 #[.agg #[c0, c1, c2, c3], .agg #[d0, d1, d2, d3]] w fun e w' => e = .returned (.int .i64 (contA f x y)) ∧ Ext w w' := by
  obtain ⟨kx, sx, nx, ix⟩ := x
  obtain ⟨ky, sy, ny, iy⟩ := y
  have hx' := hx
  have hy' := hy
  unfold ArrAt at hx' hy'
  obtain ⟨rfl, hkx, ⟨p1, m1, rfl, ⟨o1, o1', o1''⟩, i1⟩, ⟨p2, m2, rfl, ⟨o2, o2', o2''⟩, i2⟩, ⟨p3, m3, rfl, ⟨o3, o3', o3''⟩, i3⟩⟩ := hx'
  obtain ⟨rfl, hky, ⟨q1, n1, rfl, ⟨r1, r1', r1''⟩, j1⟩, ⟨q2, n2, rfl, ⟨r2, r2', r2''⟩, j2⟩, ⟨q3, n3, rfl, ⟨r3, r3', r3''⟩, j3⟩⟩ := hy'
  have HX := Lib.hid hx
  have HY := Lib.hid hy
  have HSX := Lib.hid i1
  have HSY := Lib.hid j1
  clear hx hy i1 i2 i3 j1 j2 j3
  have HF := Lib.hid (fun i j => hf _ _ _ _ _ _ _ _ rfl rfl i j)
  have HRX := Lib.hid hrx
  have HRY := Lib.hid hry
  clear hf hrx hry
  by_cases hk : kx = ky
  rotate_left
  · have hc : contA f (.mk kx sx nx ix) (.mk ky sy ny iy) = 0 := by rw [contA, if_pos (.inl hk)]
    have HCN := Lib.hid hc
    have hk2 : (kx != ky) = true := by simpa using hk
    clear hc hk
    go_enter Try.func144, Try.ntmps144
    go_wp2_with fail
    go_ret
    exact ⟨ret_int HCN.out.symm, ((Ext.refl w).alloc _).alloc _⟩
  subst hk
  by_cases hl : sx.length = sy.length
  rotate_left
  · have hc : contA f (.mk kx sx nx ix) (.mk kx sy ny iy) = 0 := by rw [contA, if_pos (.inr hl)]
    have HCN := Lib.hid hc
    have hk2 : ((sx.length : Int) != (sy.length : Int)) = true := by simp; omega
    clear hc hl
    go_enter Try.func144, Try.ntmps144
    go_wp2_with fail
    go_ret
    exact ⟨ret_int HCN.out.symm, ((Ext.refl w).alloc _).alloc _⟩
  have hc : contA f (.mk kx sx nx ix) (.mk kx sy ny iy) = contG (leafV f kx nx ny ix iy) sx sy 0 0 := by rw [contA, if_neg (by simp [hl])]; rfl
  have HCN := Lib.hid hc
  have hk2 : ((sx.length : Int) != (sy.length : Int)) = false := by simp; omega
  have HLEN := Lib.hid hl
  have hpx := right_parts HRX.out
  have hpy := right_parts HRY.out
  have hvx := right_vol HRX.out
  have hvy := right_vol HRY.out
  have HALL := Lib.hid (cells_any f F G (w.heap.size + 1 + 1) w.heap.size (w.heap.size + 1) (w.heap.size + 1 + 1 + 1) kx sx nx sy ny ix iy (.slice p1 sx.length m1) (.slice p2 nx.length m2) (.slice p3 ix.length m3) (.slice q1 sy.length n1) (.slice q2 ny.length n2) (.slice q3 iy.length n3) hl hpx.2.1 hpx.2.2.1 hpy.2.2.1 (by rw [hvx.1]; exact hvx.2) (by rw [hvy.1]; exact hvy.2) (fun _ => HF.out) sx.length 0 (by omega) 0 0)
  have HVX := Lib.hid hvx
  have HVY := Lib.hid hvy
  clear hc hl hpx hpy hvx hvy HF
  go_enter Try.func144, Try.ntmps144
  go_wp2_with fail
  have hcs := fun T3 T4 => cst_new (F := F) (G := G) sx.length T3 T4 HX.out HY.out
  have hEw : ∀ o1 o2 o3 o4, Ext w ((((w.alloc o1).alloc o2).alloc o3).alloc o4) := fun _ _ _ _ => ((((Ext.refl _).alloc _).alloc _).alloc _).alloc _
  refine (HALL.out _ (hcs _ _) (by omega) (by omega) (fun _ => ?_) (fun _ => ?_)).mono ?_
  · rw [Nat.zero_add, List.drop_zero, HVX.out.1]; exact Nat.le_refl _
  · rw [Nat.zero_add, List.drop_zero, HVY.out.1]; exact Nat.le_refl _
  rintro e w' ⟨rfl, hE⟩
  rw [List.drop_zero, List.drop_zero, ← HCN.out]
  have hE2 := (hEw _ _ _ _).trans hE
  clear hE hEw hcs
  go_wp2_with fail
  go_ret
  exact ⟨rfl, hE2⟩

theorem or_four (a b c d : Int) : orV [a, b, c, d] = if a ≠ 0 then a else if b ≠ 0 then b else if c ≠ 0 then c else d := by
  simp only [orV]
  repeat' split
  all_goals (try rfl)
  all_goals omega
theorem or_cmp (m : Nat) (kx ky : Int) (sx nx sy ny : List Int) (ix iy : List Arr) : orV [sgn kx ky, sgn sx.length sy.length, contA (cmpF m) (.mk kx sx nx ix) (.mk ky sy ny iy), lexV sx sy] = cmpF (m + 1) (.mk kx sx nx ix) (.mk ky sy ny iy) := by
  rw [or_four, cmpF]
  by_cases h1 : kx = ky
  · have e1 := sgn_zero.2 h1
    by_cases h2 : sx.length = sy.length
    · have e2 : sgn (sx.length : Int) (sy.length : Int) = 0 := sgn_zero.2 (by omega)
      simp only [sgn_eq, h1, h2, ne_eq, not_true_eq_false, if_false]
    · have e2 : ¬ sgn (sx.length : Int) (sy.length : Int) = 0 := fun h => h2 (by have := sgn_zero.1 h; omega)
      simp only [sgn_eq, h1, ne_eq, not_true_eq_false, if_false, e2, h2, not_false_eq_true, if_true]
  · have e1 : ¬ sgn kx ky = 0 := fun h => h1 (sgn_zero.1 h)
    simp only [ne_eq, e1, h1, not_false_eq_true, if_true]

set_option maxRecDepth 1000000 in
set_option maxHeartbeats 16000000 in
theorem compare_any (F G : Nat → Prop) : ∀ (m : Nat) (x y : Arr) (c0 c1 c2 c3 d0 d1 d2 d3 : Value) (w : World), szA x < m → ArrAt F w x c0 c1 c2 c3 → ArrAt G w y d0 d1 d2 d3 → rightV x = 0 → rightV y = 0 →
    Calls Try.prog 100 #[.agg #[c0, c1, c2, c3], .agg #[d0, d1, d2, d3]] w fun e w' => e = .returned (.int .i64 (cmpF m x y)) ∧ Ext w w' := by
  intro m
  induction m with
  | zero => intro x y c0 c1 c2 c3 d0 d1 d2 d3 w h; omega
  | succ m ih =>
  intro x y c0 c1 c2 c3 d0 d1 d2 d3 w hm hx hy hrx hry
  obtain ⟨kx, sx, nx, ix⟩ := x
  obtain ⟨ky, sy, ny, iy⟩ := y
  have hx' := hx
  have hy' := hy
  unfold ArrAt at hx' hy'
  obtain ⟨rfl, hkx, ⟨p1, m1, rfl, ⟨o1, o1', o1''⟩, i1⟩, ⟨p2, m2, rfl, ⟨o2, o2', o2''⟩, i2⟩, ⟨p3, m3, rfl, ⟨o3, o3', o3''⟩, i3⟩⟩ := hx'
  obtain ⟨rfl, hky, ⟨q1, n1, rfl, ⟨r1, r1', r1''⟩, j1⟩, ⟨q2, n2, rfl, ⟨r2, r2', r2''⟩, j2⟩, ⟨q3, n3, rfl, ⟨r3, r3', r3''⟩, j3⟩⟩ := hy'
  have HX := Lib.hid hx
  have HY := Lib.hid hy
  have HSX := Lib.hid i1
  have HSY := Lib.hid j1
  clear hx hy i1 i2 i3 j1 j2 j3
  have HCT := Lib.hid (fun (w' : World) (e : Ext w w') => contents_any (cmpF m) F G (.mk kx sx nx ix) (.mk ky sy ny iy) _ _ _ _ _ _ _ _ w' (HX.out.ext e) (HY.out.ext e) hrx hry (by
    intro k s n it k' s' n' it' e1 e2 i j hi hj w c0 c1 c2 c3 d0 d1 d2 d3 h1 h2
    cases e1
    cases e2
    have m1 : ix.getD i default ∈ ix := by simp [List.getD, hi]
    have m2 : iy.getD j default ∈ iy := by simp [List.getD, hj]
    have hs := szA_item (k := kx) (s := sx) (n := nx) m1
    exact ih _ _ _ _ _ _ _ _ _ _ w (by omega) h1 h2 (right_items hrx _ m1) (right_items hry _ m2)))
  have HV := Lib.hid (or_cmp m kx ky sx nx sy ny ix iy)
  generalize cmpF (m + 1) (.mk kx sx nx ix) (.mk ky sy ny iy) = cv at *
  generalize hct : contA (cmpF m) (.mk kx sx nx ix) (.mk ky sy ny iy) = ct at *
  have hctb : -1 ≤ ct ∧ ct ≤ 1 := by rw [← hct]; exact contA_bd (cmpF_bd m) _ _
  have hlxb := lexV_bd sx sy
  have hs1 := sgn_bd kx ky
  have hs2 := sgn_bd (sx.length : Int) (sy.length : Int)
  clear ih hrx hry hm hct
  go_enter Try.func100, Try.ntmps100
  go_wp2_with fail
  have hE0 : Ext w (((w.alloc (.cells #[.int .i64 kx, .slice p1 sx.length m1, .slice p2 nx.length m2, .slice p3 ix.length m3] 26)).alloc (.cells #[.int .i64 ky, .slice q1 sy.length n1, .slice q2 ny.length n2, .slice q3 iy.length n3] 26))) := ((Ext.refl _).alloc _).alloc _
  have hBX := (box_new w (.int .i64 kx) (.slice p1 sx.length m1) (.slice p2 nx.length m2) (.slice p3 ix.length m3)).ext ((Ext.refl _).alloc (.cells #[.int .i64 ky, .slice q1 sy.length n1, .slice q2 ny.length n2, .slice q3 iy.length n3] 26))
  have hBY := box_new (w.alloc (.cells #[.int .i64 kx, .slice p1 sx.length m1, .slice p2 nx.length m2, .slice p3 ix.length m3] 26)) (.int .i64 ky) (.slice q1 sy.length n1) (.slice q2 ny.length n2) (.slice q3 iy.length n3)
  rw [World.size_alloc] at hBY
  have HAx := Lib.hid (HX.out.ext hE0)
  have HAy := Lib.hid (HY.out.ext hE0)
  have HIx := Lib.hid (HSX.out.ext hE0)
  have HIy := Lib.hid (HSY.out.ext hE0)
  generalize ((w.alloc (.cells #[.int .i64 kx, .slice p1 sx.length m1, .slice p2 nx.length m2, .slice p3 ix.length m3] 26)).alloc (.cells #[.int .i64 ky, .slice q1 sy.length n1, .slice q2 ny.length n2, .slice q3 iy.length n3] 26)) = w1 at hE0 hBX hBY HAx HAy HIx HIy ⊢
  have HBx := Lib.hid hBX
  have HBy := Lib.hid hBY
  have HE := Lib.hid hE0
  have HE1 := Lib.hid hE0
  clear hBX hBY hE0 HX HY HSX HSY
  refine wp_region_x0 [MProp.is (.pointer (some ⟨w.heap.size, 0, none⟩)), MProp.is (.int .i64 kx), MProp.is (.pointer (some ⟨w.heap.size + 1, 0, none⟩)), MProp.is (.int .i64 ky), MProp.is (.int .i64 (sgn kx ky)), MProp.is (.pointer (some ⟨w.heap.size, 1, none⟩)), MProp.is (.slice p1 sx.length m1), MProp.is (.int .i64 (sx.length : Int)), MProp.is (.pointer (some ⟨w.heap.size + 1, 1, none⟩)), MProp.is (.slice q1 sy.length n1), MProp.is (.int .i64 (sy.length : Int)), MProp.is (.int .i64 (sgn sx.length sy.length)), MProp.is (.agg #[(.int .i64 kx), (.slice p1 sx.length m1), (.slice p2 nx.length m2), (.slice p3 ix.length m3)]), MProp.is (.agg #[(.int .i64 ky), (.slice q1 sy.length n1), (.slice q2 ny.length n2), (.slice q3 iy.length n3)]), MProp.is (.int .i64 ct), MProp.is (.pointer (some ⟨w.heap.size, 1, none⟩)), MProp.is (.slice p1 sx.length m1), MProp.is (.pointer (some ⟨w.heap.size + 1, 1, none⟩)), MProp.is (.slice q1 sy.length n1), MProp.is (.int .i64 (lexV sx sy)), MProp.rdi [sgn kx ky, sgn sx.length sy.length, ct, lexV sx sy], MProp.is (.int .i64 cv), MProp.is (.int .i64 cv)] [0, 1, 2, 3, 4, 5, 6, 7, 8, 9, 10, 11, 12, 13, 14, 15, 16, 17, 18, 19, 20, 21, 22] [] [5, 6, 7, 8, 9, 10, 11, 12, 13, 14, 15, 16, 17, 18, 19, 20, 21, 22, 23, 24, 25, 26, 4] (by kernel_rfl) (by kernel_rfl) (by kernel_rfl) ?_ ?_ ?_
  · refine mem_cons_m ?_ (mem_cons_m ?_ (mem_cons_m ?_ (mem_cons_m ?_ (mem_cons_m ?_ (mem_cons_m ?_ (mem_cons_m ?_ (mem_cons_m ?_ (mem_cons_m ?_ (mem_cons_m ?_ (mem_cons_m ?_ (mem_cons_m ?_ (mem_cons_m ?_ (mem_cons_m ?_ (mem_cons_m ?_ (mem_cons_m ?_ (mem_cons_m ?_ (mem_cons_m ?_ (mem_cons_m ?_ (mem_cons_m ?_ (mem_cons_m ?_ (mem_cons_m ?_ (mem_cons_m ?_ (mem_nil_m)))))))))))))))))))))))
    · refine ⟨_, 5, rfl, by kernel_rfl, ?_⟩
      intro u w9 X hE hX hd K hK
      clear hd
      simp only [overlay, List.setIfInBounds_toArray, List.set] at hK ⊢
      go_wp2_with fail
      exact hK _ _ X (Ext.refl _) kept_m hX rfl
    · refine ⟨_, 6, rfl, by kernel_rfl, ?_⟩
      intro u w9 X hE hX hd K hK
      have d0 : u 5 = .pointer (some ⟨w.heap.size, 0, none⟩) := hd 0 (by kernel_rfl)
      clear hd
      simp only [overlay, List.setIfInBounds_toArray, List.set, d0] at hK ⊢
      have e9 : Ext w1 w9 := (Ext.refl w1).drew.trans hE
      obtain ⟨s0, s1, s2, s3⟩ := (HBx.out.ext e9).cell
      go_wp2_with fail
      exact hK _ _ X (Ext.refl _) kept_m hX rfl
    · refine ⟨_, 7, rfl, by kernel_rfl, ?_⟩
      intro u w9 X hE hX hd K hK
      clear hd
      simp only [overlay, List.setIfInBounds_toArray, List.set] at hK ⊢
      go_wp2_with fail
      exact hK _ _ X (Ext.refl _) kept_m hX rfl
    · refine ⟨_, 8, rfl, by kernel_rfl, ?_⟩
      intro u w9 X hE hX hd K hK
      have d2 : u 7 = .pointer (some ⟨w.heap.size + 1, 0, none⟩) := hd 2 (by kernel_rfl)
      clear hd
      simp only [overlay, List.setIfInBounds_toArray, List.set, d2] at hK ⊢
      have e9 : Ext w1 w9 := (Ext.refl w1).drew.trans hE
      obtain ⟨s0, s1, s2, s3⟩ := (HBy.out.ext e9).cell
      go_wp2_with fail
      exact hK _ _ X (Ext.refl _) kept_m hX rfl
    · refine ⟨_, 9, rfl, by kernel_rfl, ?_⟩
      intro u w9 X hE hX hd K hK
      have d1 : u 6 = .int .i64 kx := hd 1 (by kernel_rfl)
      have d3 : u 8 = .int .i64 ky := hd 3 (by kernel_rfl)
      clear hd
      simp only [overlay, List.setIfInBounds_toArray, List.set, d1, d3] at hK ⊢
      have e9 : Ext w1 w9 := (Ext.refl w1).drew.trans hE
      go_wp2_with fail
      refine (same_ext (ccmpk_any kx ky w9)).mono ?_
      rintro e w8 ⟨rfl, hE8⟩
      go_wp2_with fail
      exact hK _ _ X hE8 kept_m (hX.ext hE8) rfl
    · refine ⟨_, 10, rfl, by kernel_rfl, ?_⟩
      intro u w9 X hE hX hd K hK
      clear hd
      simp only [overlay, List.setIfInBounds_toArray, List.set] at hK ⊢
      go_wp2_with fail
      exact hK _ _ X (Ext.refl _) kept_m hX rfl
    · refine ⟨_, 11, rfl, by kernel_rfl, ?_⟩
      intro u w9 X hE hX hd K hK
      have d5 : u 10 = .pointer (some ⟨w.heap.size, 1, none⟩) := hd 5 (by kernel_rfl)
      clear hd
      simp only [overlay, List.setIfInBounds_toArray, List.set, d5] at hK ⊢
      have e9 : Ext w1 w9 := (Ext.refl w1).drew.trans hE
      obtain ⟨s0, s1, s2, s3⟩ := (HBx.out.ext e9).cell
      go_wp2_with fail
      exact hK _ _ X (Ext.refl _) kept_m hX rfl
    · refine ⟨_, 12, rfl, by kernel_rfl, ?_⟩
      intro u w9 X hE hX hd K hK
      have d6 : u 11 = .slice p1 sx.length m1 := hd 6 (by kernel_rfl)
      clear hd
      simp only [overlay, List.setIfInBounds_toArray, List.set, d6] at hK ⊢
      go_wp2_with fail
      exact hK _ _ X (Ext.refl _) kept_m hX rfl
    · refine ⟨_, 13, rfl, by kernel_rfl, ?_⟩
      intro u w9 X hE hX hd K hK
      clear hd
      simp only [overlay, List.setIfInBounds_toArray, List.set] at hK ⊢
      go_wp2_with fail
      exact hK _ _ X (Ext.refl _) kept_m hX rfl
    · refine ⟨_, 14, rfl, by kernel_rfl, ?_⟩
      intro u w9 X hE hX hd K hK
      have d8 : u 13 = .pointer (some ⟨w.heap.size + 1, 1, none⟩) := hd 8 (by kernel_rfl)
      clear hd
      simp only [overlay, List.setIfInBounds_toArray, List.set, d8] at hK ⊢
      have e9 : Ext w1 w9 := (Ext.refl w1).drew.trans hE
      obtain ⟨s0, s1, s2, s3⟩ := (HBy.out.ext e9).cell
      go_wp2_with fail
      exact hK _ _ X (Ext.refl _) kept_m hX rfl
    · refine ⟨_, 15, rfl, by kernel_rfl, ?_⟩
      intro u w9 X hE hX hd K hK
      have d9 : u 14 = .slice q1 sy.length n1 := hd 9 (by kernel_rfl)
      clear hd
      simp only [overlay, List.setIfInBounds_toArray, List.set, d9] at hK ⊢
      go_wp2_with fail
      exact hK _ _ X (Ext.refl _) kept_m hX rfl
    · refine ⟨_, 16, rfl, by kernel_rfl, ?_⟩
      intro u w9 X hE hX hd K hK
      have d7 : u 12 = .int .i64 (sx.length : Int) := hd 7 (by kernel_rfl)
      have d10 : u 15 = .int .i64 (sy.length : Int) := hd 10 (by kernel_rfl)
      clear hd
      simp only [overlay, List.setIfInBounds_toArray, List.set, d7, d10] at hK ⊢
      have e9 : Ext w1 w9 := (Ext.refl w1).drew.trans hE
      go_wp2_with fail
      refine (same_ext (ccmp_any sx.length sy.length w9)).mono ?_
      rintro e w8 ⟨rfl, hE8⟩
      go_wp2_with fail
      exact hK _ _ X hE8 kept_m (hX.ext hE8) rfl
    · refine ⟨_, 17, rfl, by kernel_rfl, ?_⟩
      intro u w9 X hE hX hd K hK
      clear hd
      simp only [overlay, List.setIfInBounds_toArray, List.set] at hK ⊢
      have e9 : Ext w1 w9 := (Ext.refl w1).drew.trans hE
      obtain ⟨s0, s1, s2, s3⟩ := (HBx.out.ext e9).cell
      go_wp2_with fail
      exact hK _ _ X (Ext.refl _) kept_m hX rfl
    · refine ⟨_, 18, rfl, by kernel_rfl, ?_⟩
      intro u w9 X hE hX hd K hK
      clear hd
      simp only [overlay, List.setIfInBounds_toArray, List.set] at hK ⊢
      have e9 : Ext w1 w9 := (Ext.refl w1).drew.trans hE
      obtain ⟨s0, s1, s2, s3⟩ := (HBy.out.ext e9).cell
      go_wp2_with fail
      exact hK _ _ X (Ext.refl _) kept_m hX rfl
    · refine ⟨_, 19, rfl, by kernel_rfl, ?_⟩
      intro u w9 X hE hX hd K hK
      have d12 : u 17 = .agg #[(.int .i64 kx), (.slice p1 sx.length m1), (.slice p2 nx.length m2), (.slice p3 ix.length m3)] := hd 12 (by kernel_rfl)
      have d13 : u 18 = .agg #[(.int .i64 ky), (.slice q1 sy.length n1), (.slice q2 ny.length n2), (.slice q3 iy.length n3)] := hd 13 (by kernel_rfl)
      clear hd
      simp only [overlay, List.setIfInBounds_toArray, List.set, d12, d13] at hK ⊢
      have e9 : Ext w1 w9 := (Ext.refl w1).drew.trans hE
      go_wp2_with fail
      refine (HCT.out w9 (HE1.out.trans e9)).mono ?_
      rintro e w8 ⟨rfl, hE8⟩
      go_wp2_with fail
      exact hK _ _ X hE8 kept_m (hX.ext hE8) rfl
    · refine ⟨_, 20, rfl, by kernel_rfl, ?_⟩
      intro u w9 X hE hX hd K hK
      clear hd
      simp only [overlay, List.setIfInBounds_toArray, List.set] at hK ⊢
      go_wp2_with fail
      exact hK _ _ X (Ext.refl _) kept_m hX rfl
    · refine ⟨_, 21, rfl, by kernel_rfl, ?_⟩
      intro u w9 X hE hX hd K hK
      have d15 : u 20 = .pointer (some ⟨w.heap.size, 1, none⟩) := hd 15 (by kernel_rfl)
      clear hd
      simp only [overlay, List.setIfInBounds_toArray, List.set, d15] at hK ⊢
      have e9 : Ext w1 w9 := (Ext.refl w1).drew.trans hE
      obtain ⟨s0, s1, s2, s3⟩ := (HBx.out.ext e9).cell
      go_wp2_with fail
      exact hK _ _ X (Ext.refl _) kept_m hX rfl
    · refine ⟨_, 22, rfl, by kernel_rfl, ?_⟩
      intro u w9 X hE hX hd K hK
      clear hd
      simp only [overlay, List.setIfInBounds_toArray, List.set] at hK ⊢
      go_wp2_with fail
      exact hK _ _ X (Ext.refl _) kept_m hX rfl
    · refine ⟨_, 23, rfl, by kernel_rfl, ?_⟩
      intro u w9 X hE hX hd K hK
      have d17 : u 22 = .pointer (some ⟨w.heap.size + 1, 1, none⟩) := hd 17 (by kernel_rfl)
      clear hd
      simp only [overlay, List.setIfInBounds_toArray, List.set, d17] at hK ⊢
      have e9 : Ext w1 w9 := (Ext.refl w1).drew.trans hE
      obtain ⟨s0, s1, s2, s3⟩ := (HBy.out.ext e9).cell
      go_wp2_with fail
      exact hK _ _ X (Ext.refl _) kept_m hX rfl
    · refine ⟨_, 24, rfl, by kernel_rfl, ?_⟩
      intro u w9 X hE hX hd K hK
      have d16 : u 21 = .slice p1 sx.length m1 := hd 16 (by kernel_rfl)
      have d18 : u 23 = .slice q1 sy.length n1 := hd 18 (by kernel_rfl)
      clear hd
      simp only [overlay, List.setIfInBounds_toArray, List.set, d16, d18] at hK ⊢
      have e9 : Ext w1 w9 := (Ext.refl w1).drew.trans hE
      go_wp2_with fail
      refine (same_ext (scompare_any F G p1 q1 m1 n1 sx sy w9 (HIx.out.ext e9) (HIy.out.ext e9) (by unfold lenMax; omega) (by unfold lenMax; omega))).mono ?_
      rintro e w8 ⟨rfl, hE8⟩
      go_wp2_with fail
      exact hK _ _ X hE8 kept_m (hX.ext hE8) rfl
    · refine ⟨_, 25, rfl, by kernel_rfl, ?_⟩
      intro u w9 X hE hX hd K hK
      have d4 : u 9 = .int .i64 (sgn kx ky) := hd 4 (by kernel_rfl)
      have d11 : u 16 = .int .i64 (sgn sx.length sy.length) := hd 11 (by kernel_rfl)
      have d14 : u 19 = .int .i64 ct := hd 14 (by kernel_rfl)
      have d19 : u 24 = .int .i64 (lexV sx sy) := hd 19 (by kernel_rfl)
      clear hd
      simp only [overlay, List.setIfInBounds_toArray, List.set, d4, d11, d14, d19] at hK ⊢
      go_wp2_with fail
      exact hK _ _ X ((Ext.refl _).alloc _) kept_m (hX.ext ((Ext.refl _).alloc _)) (rdix_lit w9 [sgn kx ky, sgn sx.length sy.length, ct, lexV sx sy] (by simp) (fun z hz => by simp only [List.mem_cons, List.not_mem_nil, or_false] at hz; rcases hz with rfl | rfl | rfl | rfl <;> omega) hX.hi)
    · refine ⟨_, 26, rfl, by kernel_rfl, ?_⟩
      intro u w9 X hE hX hd K hK
      have d20 : RdIX X w9 [sgn kx ky, sgn sx.length sy.length, ct, lexV sx sy] (u 25) := hd 20 (by kernel_rfl)
      clear hd
      simp only [overlay, List.setIfInBounds_toArray, List.set] at hK ⊢
      obtain ⟨po, co, hvo, hko, hio⟩ := d20
      simp only [hvo] at hK ⊢
      go_wp2_with fail
      have hor := or_any _ po co [sgn kx ky, sgn sx.length sy.length, ct, lexV sx sy] w9 hio (by unfold lenMax; simp)
      rw [HV.out] at hor
      refine hor.mono ?_
      rintro e w8 ⟨rfl, rfl⟩
      go_wp2_with fail
      exact hK _ _ X (Ext.refl _) kept_m hX rfl
    · refine ⟨_, 4, rfl, by kernel_rfl, ?_⟩
      intro u w9 X hE hX hd K hK
      have d21 : u 26 = .int .i64 cv := hd 21 (by kernel_rfl)
      clear hd
      simp only [overlay, List.setIfInBounds_toArray, List.set, d21] at hK ⊢
      go_wp2_with fail
      exact hK _ _ X (Ext.refl _) kept_m hX rfl
  · exact mem_nil_m
  intro u w9 X hE hX hd
  have d0 : u 5 = .pointer (some ⟨w.heap.size, 0, none⟩) := hd 0 (by decide)
  have d1 : u 6 = .int .i64 kx := hd 1 (by decide)
  have d2 : u 7 = .pointer (some ⟨w.heap.size + 1, 0, none⟩) := hd 2 (by decide)
  have d3 : u 8 = .int .i64 ky := hd 3 (by decide)
  have d4 : u 9 = .int .i64 (sgn kx ky) := hd 4 (by decide)
  have d5 : u 10 = .pointer (some ⟨w.heap.size, 1, none⟩) := hd 5 (by decide)
  have d6 : u 11 = .slice p1 sx.length m1 := hd 6 (by decide)
  have d7 : u 12 = .int .i64 (sx.length : Int) := hd 7 (by decide)
  have d8 : u 13 = .pointer (some ⟨w.heap.size + 1, 1, none⟩) := hd 8 (by decide)
  have d9 : u 14 = .slice q1 sy.length n1 := hd 9 (by decide)
  have d10 : u 15 = .int .i64 (sy.length : Int) := hd 10 (by decide)
  have d11 : u 16 = .int .i64 (sgn sx.length sy.length) := hd 11 (by decide)
  have d12 : u 17 = .agg #[(.int .i64 kx), (.slice p1 sx.length m1), (.slice p2 nx.length m2), (.slice p3 ix.length m3)] := hd 12 (by decide)
  have d13 : u 18 = .agg #[(.int .i64 ky), (.slice q1 sy.length n1), (.slice q2 ny.length n2), (.slice q3 iy.length n3)] := hd 13 (by decide)
  have d14 : u 19 = .int .i64 ct := hd 14 (by decide)
  have d15 : u 20 = .pointer (some ⟨w.heap.size, 1, none⟩) := hd 15 (by decide)
  have d16 : u 21 = .slice p1 sx.length m1 := hd 16 (by decide)
  have d17 : u 22 = .pointer (some ⟨w.heap.size + 1, 1, none⟩) := hd 17 (by decide)
  have d18 : u 23 = .slice q1 sy.length n1 := hd 18 (by decide)
  have d19 : u 24 = .int .i64 (lexV sx sy) := hd 19 (by decide)
  have d20 : RdIX X w9 [sgn kx ky, sgn sx.length sy.length, ct, lexV sx sy] (u 25) := hd 20 (by decide)
  have d21 : u 26 = .int .i64 cv := hd 21 (by decide)
  have d22 : u 4 = .int .i64 cv := hd 22 (by decide)
  clear hd
  simp only [overlay, List.setIfInBounds_toArray, List.set, d0, d1, d2, d3, d4, d5, d6, d7, d8, d9, d10, d11, d12, d13, d14, d15, d16, d17, d18, d19, d21, d22]
  have e9 : Ext w1 w9 := (Ext.refl w1).drew.trans hE
  clear d0 d1 d2 d3 d4 d5 d6 d7 d8 d9 d10 d11 d12 d13 d14 d15 d16 d17 d18 d19 d20 d21 d22
  clear hX hE
  generalize u 25 = t25z1
  generalize u 26 = t26z1
  clear u
  obtain ⟨wk2, rfl⟩ : ∃ wx : World, wx = w9 := ⟨_, rfl⟩
  replace HBx := Lib.hid (HBx.out.ext e9)
  replace HAx := Lib.hid (HAx.out.ext e9)
  replace HBy := Lib.hid (HBy.out.ext e9)
  replace HAy := Lib.hid (HAy.out.ext e9)
  replace HE := Lib.hid (HE.out.trans (e9))
  clear e9
  go_wp2_with fail
  go_ret
  exact ⟨rfl, HE.out⟩

/-- order.Compare and Less. -/
def ocmpV (x y : Arr) : Int := if rightV x ≠ 0 ∨ rightV y ≠ 0 then 0 else cmpF (szA x + 1) x y
set_option maxRecDepth 100000 in
set_option maxHeartbeats 2000000 in
theorem ocompare_any (F G : Nat → Prop) (x y : Arr) (c0 c1 c2 c3 d0 d1 d2 d3 : Value) (w : World) (hx : ArrAt F w x c0 c1 c2 c3) (hy : ArrAt G w y d0 d1 d2 d3) :
    Calls Try.prog 52 #[.agg #[c0, c1, c2, c3], .agg #[d0, d1, d2, d3]] w fun e w' => e = .returned (.int .i64 (ocmpV x y)) ∧ Ext w w' := by
  obtain ⟨kx, sx, nx, ix⟩ := x
  obtain ⟨ky, sy, ny, iy⟩ := y
  have hx' := hx
  have hy' := hy
  unfold ArrAt at hx' hy'
  obtain ⟨rfl, hkx, ⟨p1, m1, rfl, ⟨o1, o1', o1''⟩, i1⟩, ⟨p2, m2, rfl, ⟨o2, o2', o2''⟩, i2⟩, ⟨p3, m3, rfl, ⟨o3, o3', o3''⟩, i3⟩⟩ := hx'
  obtain ⟨rfl, hky, ⟨q1, n1, rfl, ⟨r1, r1', r1''⟩, j1⟩, ⟨q2, n2, rfl, ⟨r2, r2', r2''⟩, j2⟩, ⟨q3, n3, rfl, ⟨r3, r3', r3''⟩, j3⟩⟩ := hy'
  have HX := Lib.hid hx
  have HY := Lib.hid hy
  have HSX := Lib.hid i1
  have HSY := Lib.hid j1
  clear hx hy i1 i2 i3 j1 j2 j3
  have HV : Hid (ocmpV (.mk kx sx nx ix) (.mk ky sy ny iy) = if rightV (.mk kx sx nx ix) ≠ 0 ∨ rightV (.mk ky sy ny iy) ≠ 0 then 0 else cmpF (szA (Arr.mk kx sx nx ix) + 1) (.mk kx sx nx ix) (.mk ky sy ny iy)) := rfl
  generalize ocmpV (.mk kx sx nx ix) (.mk ky sy ny iy) = ov at *
  have HCM := Lib.hid (fun (w' : World) (e : Ext w w') => compare_any F G _ (.mk kx sx nx ix) (.mk ky sy ny iy) _ _ _ _ _ _ _ _ w' (Nat.lt_succ_self _) (HX.out.ext e) (HY.out.ext e))
  go_enter Try.func52, Try.ntmps52
  go_wp2_with fail
  have hE0 : Ext w ((w.alloc (.cells #[.int .i64 kx, .slice p1 sx.length m1, .slice p2 nx.length m2, .slice p3 ix.length m3] 26)).alloc (.cells #[.int .i64 ky, .slice q1 sy.length n1, .slice q2 ny.length n2, .slice q3 iy.length n3] 26)) := ((Ext.refl _).alloc _).alloc _
  have hBX := (box_new w (.int .i64 kx) (.slice p1 sx.length m1) (.slice p2 nx.length m2) (.slice p3 ix.length m3)).ext ((Ext.refl _).alloc (.cells #[.int .i64 ky, .slice q1 sy.length n1, .slice q2 ny.length n2, .slice q3 iy.length n3] 26))
  have hBY := box_new (w.alloc (.cells #[.int .i64 kx, .slice p1 sx.length m1, .slice p2 nx.length m2, .slice p3 ix.length m3] 26)) (.int .i64 ky) (.slice q1 sy.length n1) (.slice q2 ny.length n2) (.slice q3 iy.length n3)
  rw [World.size_alloc] at hBY
  generalize ((w.alloc (.cells #[.int .i64 kx, .slice p1 sx.length m1, .slice p2 nx.length m2, .slice p3 ix.length m3] 26)).alloc (.cells #[.int .i64 ky, .slice q1 sy.length n1, .slice q2 ny.length n2, .slice q3 iy.length n3] 26)) = w1 at hE0 hBX hBY ⊢
  refine (right_any F _ _ _ _ _ w1 (HX.out.ext hE0)).mono ?_
  rintro e w2 ⟨rfl, hE1⟩
  have HBX := Lib.hid (hBX.ext hE1)
  have HBY := Lib.hid (hBY.ext hE1)
  have HE := Lib.hid (hE0.trans hE1)
  clear hBX hBY hE0 hE1
  generalize hr1 : rightV (.mk kx sx nx ix) = r1 at *
  by_cases h1 : r1 = 0
  rotate_left
  · have h1' : (r1 != 0) = true := by simpa using h1
    have HV2 := Lib.hid (show ov = 0 by rw [HV.out, if_pos (.inl h1)])
    clear h1
    go_wp2_with fail
    go_ret
    exact ⟨ret_int HV2.out.symm, HE.out⟩
  subst h1
  obtain ⟨t0, t1, t2, t3⟩ := HBY.out.cell
  go_wp2_with fail
  refine (right_any G _ _ _ _ _ w2 (HY.out.ext HE.out)).mono ?_
  rintro e w3 ⟨rfl, hE1⟩
  clear t0 t1 t2 t3
  replace HBX := Lib.hid (HBX.out.ext hE1)
  replace HBY := Lib.hid (HBY.out.ext hE1)
  replace HE := Lib.hid (HE.out.trans hE1)
  clear hE1
  generalize hr2 : rightV (.mk ky sy ny iy) = r2 at *
  by_cases h2 : r2 = 0
  rotate_left
  · have h2' : (r2 != 0) = true := by simpa using h2
    have HV2 := Lib.hid (show ov = 0 by rw [HV.out, if_pos (.inr h2)])
    clear h2
    go_wp2_with fail
    go_ret
    exact ⟨ret_int HV2.out.symm, HE.out⟩
  subst h2
  have HV2 := Lib.hid (show ov = cmpF (szA (Arr.mk kx sx nx ix) + 1) (.mk kx sx nx ix) (.mk ky sy ny iy) by rw [HV.out, if_neg (by simp)])
  have HCM2 := Lib.hid (HCM.out w3 HE.out (by simp) (by simp))
  clear HV HCM
  obtain ⟨s0, s1, s2, s3⟩ := HBX.out.cell
  obtain ⟨t0, t1, t2, t3⟩ := HBY.out.cell
  go_wp2_with fail
  refine HCM2.out.mono ?_
  rintro e w4 ⟨rfl, hE1⟩
  have hE2 := HE.out.trans hE1
  clear s0 s1 s2 s3 t0 t1 t2 t3 hE1
  go_wp2_with fail
  go_ret
  exact ⟨ret_int HV2.out.symm, hE2⟩
end Go.Proofs.Ytgkemmdghmklfaa
