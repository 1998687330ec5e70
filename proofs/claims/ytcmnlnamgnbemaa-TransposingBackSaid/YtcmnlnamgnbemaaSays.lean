/-
  THE WALK of law21.TransposingSays: it returns true, and turns nothing that was there. (Printed by gen_says.py.)
-/
import Derived.Test.YtcmnlnamgnbemaaTransEq
import Derived.Test.YtcmnlnamgnbemaaFew
import Derived.Test.YtcmnlnamgnbemaaAwake
namespace Go.Proofs.Ytcmnlnamgnbemaa
set_option linter.unusedSimpArgs false
set_option linter.unusedVariables false
open Go.RowKit

/-- Contracts over readings. -/
theorem same_true {w : World} {t : Arr} {v1 v2 x1 x2 : Value} (h1 : Rd w t v1) (h2 : Rd w t v2) (e1 : x1 = v1) (e2 : x2 = v2) : Calls Try.prog 22 #[x1, x2] w fun e w' => e = .returned (.bool true) ∧ Ext w w' := by
  subst e1 e2
  obtain ⟨F, c0, c1, c2, c3, rfl, hA⟩ := h1
  obtain ⟨G, d0, d1, d2, d3, rfl, hB⟩ := h2
  have h := same_any F G _ t t _ _ _ _ _ _ _ _ w (Nat.lt_succ_self _) hA hB
  rw [(sameV_eq t t).2 rfl] at h
  exact h
theorem reverse_rd {X : Nat → Prop} {w : World} {y : Arr} {v : Value} (h : RdX X w y v) (hX : ∀ b, X b → b < w.heap.size) : Calls Try.prog 35 #[v] w fun e w' => ∃ x, e = .returned x ∧ RdX X w' (reverseV y) x ∧ Ext w w' := by
  obtain ⟨c0, c1, c2, c3, rfl, hA⟩ := h
  refine (reverse_any _ y _ _ _ _ w hA).mono ?_
  rintro e w' ⟨e0, e1, e2, e3, rfl, hR, hE⟩
  exact ⟨_, rfl, RdX.new hR (fun b hb _ => .inl hb) hX, hE⟩
theorem rreverse_rd {X : Nat → Prop} {w : World} {y : Arr} {v : Value} (h : RdX X w y v) (hX : ∀ b, X b → b < w.heap.size) : Calls Try.prog 36 #[v] w fun e w' => ∃ x, e = .returned x ∧ RdX X w' (rreverseV y) x ∧ Ext w w' := by
  obtain ⟨c0, c1, c2, c3, rfl, hA⟩ := h
  refine (rreverse_any _ y _ _ _ _ w hA).mono ?_
  rintro e w' ⟨e0, e1, e2, e3, rfl, hR, hE⟩
  exact ⟨_, rfl, RdX.new hR (fun b hb _ => .inl hb) hX, hE⟩

set_option maxRecDepth 100000 in
set_option maxHeartbeats 8000000 in
theorem says_any (F G : Nat → Prop) (x y : Arr) (c0 c1 c2 c3 d0 d1 d2 d3 : Value) (w : World) (hx : ArrAt F w x c0 c1 c2 c3) (hy : ArrAt G w y d0 d1 d2 d3) :
    Calls Try.prog 7 #[.agg #[c0, c1, c2, c3], .agg #[d0, d1, d2, d3]] w fun e w' => e = .returned (.bool true) ∧ Ext w w' := by
  obtain ⟨kx, sx, nx, ix⟩ := x
  obtain ⟨ky, sy, ny, iy⟩ := y
  have hx' := hx
  have hy' := hy
  unfold ArrAt at hx' hy'
  obtain ⟨rfl, hkx, ⟨q1, m1, rfl, ⟨o1, o1', o1''⟩, i1⟩, ⟨q2, m2, rfl, ⟨o2, o2', o2''⟩, i2⟩, ⟨q3, m3, rfl, ⟨o3, o3', o3''⟩, i3⟩⟩ := hx'
  obtain ⟨rfl, hky, ⟨r1, n1, rfl, ⟨p1, p1', p1''⟩, j1⟩, ⟨r2, n2, rfl, ⟨p2, p2', p2''⟩, j2⟩, ⟨r3, n3, rfl, ⟨p3, p3', p3''⟩, j3⟩⟩ := hy'
  have HX := Lib.hid hx
  have HY := Lib.hid hy
  clear hx hy i1 i2 i3 j1 j2 j3
  go_enter Try.func7, Try.ntmps7
  go_wp2_with fail
  have hE0 : Ext w ((w.alloc (.cells #[.int .i64 kx, .slice q1 sx.length m1, .slice q2 nx.length m2, .slice q3 ix.length m3] 26)).alloc (.cells #[.int .i64 ky, .slice r1 sy.length n1, .slice r2 ny.length n2, .slice r3 iy.length n3] 26)) := ((Ext.refl _).alloc _).alloc _
  have hBX := (box_new w (.int .i64 kx) (.slice q1 sx.length m1) (.slice q2 nx.length m2) (.slice q3 ix.length m3)).ext ((Ext.refl _).alloc (.cells #[.int .i64 ky, .slice r1 sy.length n1, .slice r2 ny.length n2, .slice r3 iy.length n3] 26))
  have hBY := box_new (w.alloc (.cells #[.int .i64 kx, .slice q1 sx.length m1, .slice q2 nx.length m2, .slice q3 ix.length m3] 26)) (.int .i64 ky) (.slice r1 sy.length n1) (.slice r2 ny.length n2) (.slice r3 iy.length n3)
  rw [World.size_alloc] at hBY
  generalize ((w.alloc (.cells #[.int .i64 kx, .slice q1 sx.length m1, .slice q2 nx.length m2, .slice q3 ix.length m3] 26)).alloc (.cells #[.int .i64 ky, .slice r1 sy.length n1, .slice r2 ny.length n2, .slice r3 iy.length n3] 26)) = w1 at hE0 hBX hBY ⊢
  refine (few_any F (.mk kx sx nx ix) _ _ _ _ 100 w1 (HX.out.ext hE0)).mono ?_
  rintro e w2 ⟨rfl, hE1⟩
  have hE2 := hE0.trans hE1
  have hBX2 := hBX.ext hE1
  have hBY2 := hBY.ext hE1
  clear hE0 hBX hBY hE1
  obtain ⟨s0, s1, s2, s3⟩ := hBX2.cell
  obtain ⟨t0, t1, t2, t3⟩ := hBY2.cell
  cases hf1 : fewV (.mk kx sx nx ix) 100 with
  | false =>
    go_wp2_with fail
    refine (awake_any _).mono ?_
    rintro e w3 ⟨rfl, hE3⟩
    go_wp2_with fail
    go_ret
    exact ⟨rfl, hE2.trans hE3⟩
  | true =>
    clear hf1
    go_wp2_with fail
    refine (few_any G (.mk ky sy ny iy) _ _ _ _ 500 w2 (HY.out.ext hE2)).mono ?_
    rintro e w3 ⟨rfl, hE3⟩
    have hE4 := hE2.trans hE3
    have hBX := hBX2.ext hE3
    have hBY := hBY2.ext hE3
    clear hE2 hBX2 hBY2 hE3 s0 s1 s2 s3 t0 t1 t2 t3
    obtain ⟨s0, s1, s2, s3⟩ := hBX.cell
    obtain ⟨t0, t1, t2, t3⟩ := hBY.cell
    cases hf2 : fewV (.mk ky sy ny iy) 500 with
    | false =>
      go_wp2_with fail
      refine (awake_any _).mono ?_
      rintro e w3' ⟨rfl, hE5⟩
      go_wp2_with fail
      go_ret
      exact ⟨rfl, hE4.trans hE5⟩
    | true =>
      clear hf2
      go_wp2_with fail
      have hAX := axes_any F G (.mk kx sx nx ix) (.mk ky sy ny iy) _ _ _ _ _ _ _ _ w3 (HX.out.ext hE4) (HY.out.ext hE4)
      have hRAX := fun w' e => raxes_any F G (.mk kx sx nx ix) (.mk ky sy ny iy) _ _ _ _ _ _ _ _ w' (HX.out.ext (w' := w') e) (HY.out.ext (w' := w') e)
      rw [raxes_eq] at hRAX
      generalize axesV (.mk kx sx nx ix) (.mk ky sy ny iy) = res at *
      obtain ⟨rt, err⟩ := res
      dsimp only at hAX hRAX
      have HRAX := Lib.hid hRAX
      refine hAX.mono ?_
      rintro e w4 ⟨a0, a1, a2, a3, rfl, hA, hE5⟩
      clear hAX hRAX s0 s1 s2 s3 t0 t1 t2 t3
      obtain ⟨ka, ua, va, za, ub, vb, zb, uc, vc, zc, rfl, rfl, rfl, rfl⟩ := hA.form
      have hBA := box_new w4 (.int .i64 ka) (.slice ua va za) (.slice ub vb zb) (.slice uc vc zc)
      have hE6 : Ext w3 (w4.alloc (.cells #[.int .i64 ka, .slice ua va za, .slice ub vb zb, .slice uc vc zc] 26)) := hE5.alloc _
      have hA6 := hA.ext ((Ext.refl _).alloc (.cells #[.int .i64 ka, .slice ua va za, .slice ub vb zb, .slice uc vc zc] 26))
      have hBX6 := hBX.ext hE6
      have hBY6 := hBY.ext hE6
      have hE7 := hE4.trans hE6
      obtain ⟨s0, s1, s2, s3⟩ := (hBX.ext hE5).cell
      obtain ⟨t0, t1, t2, t3⟩ := (hBY.ext hE5).cell
      have hl1 := (hBX.ext hE5).lt
      have hl2 := (hBY.ext hE5).lt
      go_wp2_with fail
      clear s0 s1 s2 s3 t0 t1 t2 t3 hl1 hl2
      generalize hba : w4.heap.size = ba at *
      clear hba
      generalize w4.alloc (.cells #[.int .i64 ka, .slice ua va za, .slice ub vb zb, .slice uc vc zc] 26) = w6 at hBA hE6 hA6 hBX6 hBY6 hE7 ⊢
      clear hA hE5 hBX hBY hE4 hE6
      refine (HRAX.out w6 hE7).mono ?_
      rintro e w7 ⟨b0, b1, b2, b3, rfl, hB, hE8⟩
      obtain ⟨kb, xa, ya, wa, xb, yb, wb, xc, yc, wc, rfl, rfl, rfl, rfl⟩ := hB.form
      have hBB := box_new w7 (.int .i64 kb) (.slice xa ya wa) (.slice xb yb wb) (.slice xc yc wc)
      have hE9 : Ext w6 (w7.alloc (.cells #[.int .i64 kb, .slice xa ya wa, .slice xb yb wb, .slice xc yc wc] 26)) := hE8.alloc _
      have hB9 := hB.ext ((Ext.refl _).alloc (.cells #[.int .i64 kb, .slice xa ya wa, .slice xb yb wb, .slice xc yc wc] 26))
      go_wp2_with fail
      generalize hbb : w7.heap.size = bb at *
      clear hbb
      generalize w7.alloc (.cells #[.int .i64 kb, .slice xa ya wa, .slice xb yb wb, .slice xc yc wc] 26) = w5 at hBB hE9 hB9 ⊢
      have HE5 := Lib.hid (hE7.trans hE9)
      have HBA := Lib.hid (hBA.ext hE9)
      have HBB := Lib.hid hBB
      have HBY := Lib.hid (hBY6.ext hE9)
      have HA := Lib.hid (hA6.ext hE9)
      have HB := Lib.hid hB9
      clear hBA hBB hBX6 hBY6 hA6 hB9 hE7 hE9 hE8 hB HRAX
      refine wp_region_x0 [MProp.is (.int .i64 err), MProp.is (.int .i64 err), MProp.is (.bool true), MProp.is (.bool true), MProp.is (.agg #[.int .i64 ka, .slice ua va za, .slice ub vb zb, .slice uc vc zc]), MProp.is (.agg #[.int .i64 kb, .slice xa ya wa, .slice xb yb wb, .slice xc yc wc]), MProp.is (.bool true), MProp.is (.bool true), MProp.is (.bool true), MProp.is (.agg #[.int .i64 ky, .slice r1 sy.length n1, .slice r2 ny.length n2, .slice r3 iy.length n3]), MProp.rd (reverseV (.mk ky sy ny iy)), MProp.is (.agg #[.int .i64 ky, .slice r1 sy.length n1, .slice r2 ny.length n2, .slice r3 iy.length n3]), MProp.rd (reverseV (.mk ky sy ny iy)), MProp.is (.bool true), MProp.is (.bool true), MProp.is (.bool true), MProp.is (.bool true), MProp.is (.bool true), MProp.is (.bool true)] [0, 1, 2, 3, 4, 5, 6, 7, 8, 9, 10, 11, 12, 13, 14, 15, 16, 17, 18] [] [30, 31, 32, 33, 34, 35, 36, 37, 38, 39, 40, 41, 42, 43, 44, 45, 46, 47, 4] (by kernel_rfl) (by kernel_rfl) rfl ?_ ?_ ?_
      · refine mem_cons_m ?_ (mem_cons_m ?_ (mem_cons_m ?_ (mem_cons_m ?_ (mem_cons_m ?_ (mem_cons_m ?_ (mem_cons_m ?_ (mem_cons_m ?_ (mem_cons_m ?_ (mem_cons_m ?_ (mem_cons_m ?_ (mem_cons_m ?_ (mem_cons_m ?_ (mem_cons_m ?_ (mem_cons_m ?_ (mem_cons_m ?_ (mem_cons_m ?_ (mem_cons_m ?_ (mem_cons_m ?_ (mem_nil_m)))))))))))))))))))
        · refine ⟨_, 30, rfl, by kernel_rfl, ?_⟩
          intro u w9 X hE hX hd K hK
          clear hd
          simp only [overlay, List.setIfInBounds_toArray, List.set] at hK ⊢
          go_wp2_with fail
          exact hK _ _ X (Ext.refl _) kept_m hX rfl
        · refine ⟨_, 31, rfl, by kernel_rfl, ?_⟩
          intro u w9 X hE hX hd K hK
          clear hd
          simp only [overlay, List.setIfInBounds_toArray, List.set] at hK ⊢
          go_wp2_with fail
          exact hK _ _ X (Ext.refl _) kept_m hX rfl
        · refine ⟨_, 32, rfl, by kernel_rfl, ?_⟩
          intro u w9 X hE hX hd K hK
          have d0 : u 30 = .int .i64 err := hd 0 (by kernel_rfl)
          have d1 : u 31 = .int .i64 err := hd 1 (by kernel_rfl)
          clear hd
          simp only [overlay, List.setIfInBounds_toArray, List.set, d0, d1] at hK ⊢
          go_wp2_with fail
          exact hK _ _ X (Ext.refl _) kept_m hX rfl
        · refine ⟨_, 33, rfl, by kernel_rfl, ?_⟩
          intro u w9 X hE hX hd K hK
          have d2 : u 32 = .bool true := hd 2 (by kernel_rfl)
          clear hd
          simp only [overlay, List.setIfInBounds_toArray, List.set, d2] at hK ⊢
          go_wp2_with fail
          exact hK _ _ X (Ext.refl _) kept_m hX rfl
        · refine ⟨_, 34, rfl, by kernel_rfl, ?_⟩
          intro u w9 X hE hX hd K hK
          have d3 : u 33 = .bool true := hd 3 (by kernel_rfl)
          clear hd
          simp only [overlay, List.setIfInBounds_toArray, List.set, d3] at hK ⊢
          have e9 : Ext w5 w9 := (Ext.refl w5).drew.trans hE
          obtain ⟨s0, s1, s2, s3⟩ := (HBA.out.ext e9).cell
          go_wp2_with fail
          exact hK _ _ X (Ext.refl _) kept_m hX rfl
        · refine ⟨_, 35, rfl, by kernel_rfl, ?_⟩
          intro u w9 X hE hX hd K hK
          have d3 : u 33 = .bool true := hd 3 (by kernel_rfl)
          clear hd
          simp only [overlay, List.setIfInBounds_toArray, List.set, d3] at hK ⊢
          have e9 : Ext w5 w9 := (Ext.refl w5).drew.trans hE
          obtain ⟨s0, s1, s2, s3⟩ := (HBB.out.ext e9).cell
          go_wp2_with fail
          exact hK _ _ X (Ext.refl _) kept_m hX rfl
        · refine ⟨_, 36, rfl, by kernel_rfl, ?_⟩
          intro u w9 X hE hX hd K hK
          have d4 : u 34 = .agg #[.int .i64 ka, .slice ua va za, .slice ub vb zb, .slice uc vc zc] := hd 4 (by kernel_rfl)
          have d5 : u 35 = .agg #[.int .i64 kb, .slice xa ya wa, .slice xb yb wb, .slice xc yc wc] := hd 5 (by kernel_rfl)
          have d3 : u 33 = .bool true := hd 3 (by kernel_rfl)
          clear hd
          simp only [overlay, List.setIfInBounds_toArray, List.set, d4, d5, d3] at hK ⊢
          have e9 : Ext w5 w9 := (Ext.refl w5).drew.trans hE
          go_wp2_with fail
          refine (same_true (Rd.mk (HA.out.ext e9)) (Rd.mk (HB.out.ext e9)) rfl rfl).mono ?_
          rintro e w8 ⟨rfl, hE8⟩
          go_wp2_with fail
          exact hK _ _ X hE8 kept_m (hX.ext hE8) rfl
        · refine ⟨_, 37, rfl, by kernel_rfl, ?_⟩
          intro u w9 X hE hX hd K hK
          have d3 : u 33 = .bool true := hd 3 (by kernel_rfl)
          have d6 : u 36 = .bool true := hd 6 (by kernel_rfl)
          clear hd
          simp only [overlay, List.setIfInBounds_toArray, List.set, d3, d6] at hK ⊢
          go_wp2_with fail
          exact hK _ _ X (Ext.refl _) kept_m hX rfl
        · refine ⟨_, 38, rfl, by kernel_rfl, ?_⟩
          intro u w9 X hE hX hd K hK
          have d7 : u 37 = .bool true := hd 7 (by kernel_rfl)
          clear hd
          simp only [overlay, List.setIfInBounds_toArray, List.set, d7] at hK ⊢
          go_wp2_with fail
          exact hK _ _ X (Ext.refl _) kept_m hX rfl
        · refine ⟨_, 39, rfl, by kernel_rfl, ?_⟩
          intro u w9 X hE hX hd K hK
          have d8 : u 38 = .bool true := hd 8 (by kernel_rfl)
          clear hd
          simp only [overlay, List.setIfInBounds_toArray, List.set, d8] at hK ⊢
          have e9 : Ext w5 w9 := (Ext.refl w5).drew.trans hE
          obtain ⟨s0, s1, s2, s3⟩ := (HBY.out.ext e9).cell
          go_wp2_with fail
          exact hK _ _ X (Ext.refl _) kept_m hX rfl
        · refine ⟨_, 40, rfl, by kernel_rfl, ?_⟩
          intro u w9 X hE hX hd K hK
          have d9 : u 39 = .agg #[.int .i64 ky, .slice r1 sy.length n1, .slice r2 ny.length n2, .slice r3 iy.length n3] := hd 9 (by kernel_rfl)
          have d8 : u 38 = .bool true := hd 8 (by kernel_rfl)
          clear hd
          simp only [overlay, List.setIfInBounds_toArray, List.set, d9, d8] at hK ⊢
          have e9 : Ext w5 w9 := (Ext.refl w5).drew.trans hE
          go_wp2_with fail
          refine (reverse_rd (RdX.old (HY.out.ext HE5.out) e9 hX.lo) hX.hi).mono ?_
          rintro e w8 ⟨x8, rfl, hx8, hE8⟩
          go_wp2_with fail
          exact hK _ _ X hE8 kept_m (hX.ext hE8) hx8
        · refine ⟨_, 41, rfl, by kernel_rfl, ?_⟩
          intro u w9 X hE hX hd K hK
          have d8 : u 38 = .bool true := hd 8 (by kernel_rfl)
          clear hd
          simp only [overlay, List.setIfInBounds_toArray, List.set, d8] at hK ⊢
          have e9 : Ext w5 w9 := (Ext.refl w5).drew.trans hE
          obtain ⟨s0, s1, s2, s3⟩ := (HBY.out.ext e9).cell
          go_wp2_with fail
          exact hK _ _ X (Ext.refl _) kept_m hX rfl
        · refine ⟨_, 42, rfl, by kernel_rfl, ?_⟩
          intro u w9 X hE hX hd K hK
          have d11 : u 41 = .agg #[.int .i64 ky, .slice r1 sy.length n1, .slice r2 ny.length n2, .slice r3 iy.length n3] := hd 11 (by kernel_rfl)
          have d8 : u 38 = .bool true := hd 8 (by kernel_rfl)
          clear hd
          simp only [overlay, List.setIfInBounds_toArray, List.set, d11, d8] at hK ⊢
          have e9 : Ext w5 w9 := (Ext.refl w5).drew.trans hE
          go_wp2_with fail
          refine (rreverse_rd (RdX.old (HY.out.ext HE5.out) e9 hX.lo) hX.hi).mono ?_
          rintro e w8 ⟨x8, rfl, hx8, hE8⟩
          rw [rreverse_eq] at hx8
          go_wp2_with fail
          exact hK _ _ X hE8 kept_m (hX.ext hE8) hx8
        · refine ⟨_, 43, rfl, by kernel_rfl, ?_⟩
          intro u w9 X hE hX hd K hK
          have d10 : RdX X w9 (reverseV (.mk ky sy ny iy)) (u 40) := hd 10 (by kernel_rfl)
          have d12 : RdX X w9 (reverseV (.mk ky sy ny iy)) (u 42) := hd 12 (by kernel_rfl)
          have d8 : u 38 = .bool true := hd 8 (by kernel_rfl)
          clear hd
          simp only [overlay, List.setIfInBounds_toArray, List.set, d8] at hK ⊢
          go_wp2_with fail
          refine (same_true d10.rd d12.rd rfl rfl).mono ?_
          rintro e w8 ⟨rfl, hE8⟩
          go_wp2_with fail
          exact hK _ _ X hE8 kept_m (hX.ext hE8) rfl
        · refine ⟨_, 44, rfl, by kernel_rfl, ?_⟩
          intro u w9 X hE hX hd K hK
          have d8 : u 38 = .bool true := hd 8 (by kernel_rfl)
          have d13 : u 43 = .bool true := hd 13 (by kernel_rfl)
          clear hd
          simp only [overlay, List.setIfInBounds_toArray, List.set, d8, d13] at hK ⊢
          go_wp2_with fail
          exact hK _ _ X (Ext.refl _) kept_m hX rfl
        · refine ⟨_, 45, rfl, by kernel_rfl, ?_⟩
          intro u w9 X hE hX hd K hK
          have d14 : u 44 = .bool true := hd 14 (by kernel_rfl)
          clear hd
          simp only [overlay, List.setIfInBounds_toArray, List.set, d14] at hK ⊢
          go_wp2_with fail
          exact hK _ _ X (Ext.refl _) kept_m hX rfl
        · refine ⟨_, 46, rfl, by kernel_rfl, ?_⟩
          intro u w9 X hE hX hd K hK
          have d15 : u 45 = .bool true := hd 15 (by kernel_rfl)
          clear hd
          simp only [overlay, List.setIfInBounds_toArray, List.set, d15] at hK ⊢
          go_wp2_with fail
          refine (awake_any _).mono ?_
          rintro e w8 ⟨rfl, hE8⟩
          go_wp2_with fail
          exact hK _ _ X hE8 kept_m (hX.ext hE8) rfl
        · refine ⟨_, 47, rfl, by kernel_rfl, ?_⟩
          intro u w9 X hE hX hd K hK
          have d15 : u 45 = .bool true := hd 15 (by kernel_rfl)
          have d16 : u 46 = .bool true := hd 16 (by kernel_rfl)
          clear hd
          simp only [overlay, List.setIfInBounds_toArray, List.set, d15, d16] at hK ⊢
          go_wp2_with fail
          exact hK _ _ X (Ext.refl _) kept_m hX rfl
        · refine ⟨_, 4, rfl, by kernel_rfl, ?_⟩
          intro u w9 X hE hX hd K hK
          have d17 : u 47 = .bool true := hd 17 (by kernel_rfl)
          clear hd
          simp only [overlay, List.setIfInBounds_toArray, List.set, d17] at hK ⊢
          go_wp2_with fail
          exact hK _ _ X (Ext.refl _) kept_m hX rfl
      · exact mem_nil_m
      intro u w9 X hE hX hd
      have d0 : u 30 = .int .i64 err := hd 0 (by decide)
      have d1 : u 31 = .int .i64 err := hd 1 (by decide)
      have d2 : u 32 = .bool true := hd 2 (by decide)
      have d3 : u 33 = .bool true := hd 3 (by decide)
      have d4 : u 34 = .agg #[.int .i64 ka, .slice ua va za, .slice ub vb zb, .slice uc vc zc] := hd 4 (by decide)
      have d5 : u 35 = .agg #[.int .i64 kb, .slice xa ya wa, .slice xb yb wb, .slice xc yc wc] := hd 5 (by decide)
      have d6 : u 36 = .bool true := hd 6 (by decide)
      have d7 : u 37 = .bool true := hd 7 (by decide)
      have d8 : u 38 = .bool true := hd 8 (by decide)
      have d9 : u 39 = .agg #[.int .i64 ky, .slice r1 sy.length n1, .slice r2 ny.length n2, .slice r3 iy.length n3] := hd 9 (by decide)
      have d10 : RdX X w9 (reverseV (.mk ky sy ny iy)) (u 40) := hd 10 (by decide)
      have d11 : u 41 = .agg #[.int .i64 ky, .slice r1 sy.length n1, .slice r2 ny.length n2, .slice r3 iy.length n3] := hd 11 (by decide)
      have d12 : RdX X w9 (reverseV (.mk ky sy ny iy)) (u 42) := hd 12 (by decide)
      have d13 : u 43 = .bool true := hd 13 (by decide)
      have d14 : u 44 = .bool true := hd 14 (by decide)
      have d15 : u 45 = .bool true := hd 15 (by decide)
      have d16 : u 46 = .bool true := hd 16 (by decide)
      have d17 : u 47 = .bool true := hd 17 (by decide)
      have d18 : u 4 = .bool true := hd 18 (by decide)
      clear hd
      simp only [overlay, List.setIfInBounds_toArray, List.set, d0, d1, d2, d3, d4, d5, d6, d7, d8, d9, d11, d13, d14, d15, d16, d17, d18]
      have e9 : Ext w w9 := HE5.out.trans ((Ext.refl w5).drew.trans hE)
      clear d0 d1 d2 d3 d4 d5 d6 d7 d8 d9 d10 d11 d12 d13 d14 d15 d16 d17 d18 hX hE
      generalize u 40 = t40
      generalize u 42 = t42
      clear u
      go_wp2_with fail
      go_ret
      exact ⟨rfl, e9⟩
end Go.Proofs.Ytcmnlnamgnbemaa
