/-
  THE WALK of order.contents$1: the closure that compares cells, by recursion over the axes. (Printed by gen_cells.py.)
-/
import Derived.Test.YtgkemmdghmklfaaOrdV
import Derived.IntWalk
namespace Go.Proofs.Ytgkemmdghmklfaa
set_option linter.unusedSimpArgs false
set_option linter.unusedVariables false
open Go.RowKit

/-- What the closure reads. -/
structure CSt (F G : Nat → Prop) (w : World) (b5 bx by_ b6 rk : Nat) (x y : Arr) (k : Int) (X1 X2 X3 Y1 Y2 Y3 : Value) : Prop where
  r5 : w.cell? ⟨b5, 0, none⟩ = some (.int .i64 (rk : Int))
  hx : Box4 w bx (.int .i64 k) X1 X2 X3
  hy : Box4 w by_ (.int .i64 k) Y1 Y2 Y3
  fn : w.cell? ⟨b6, 0, none⟩ = some (.func (.func 162) #[] #[.pointer (some ⟨b5, 0, none⟩), .pointer (some ⟨bx, 0, none⟩), .pointer (some ⟨by_, 0, none⟩), .pointer (some ⟨b6, 0, none⟩)])
  ax : ArrAt F w x (.int .i64 k) X1 X2 X3
  ay : ArrAt G w y (.int .i64 k) Y1 Y2 Y3
theorem CSt.ext {F G : Nat → Prop} {w w' : World} {b5 bx by_ b6 rk : Nat} {x y : Arr} {k : Int} {X1 X2 X3 Y1 Y2 Y3 : Value} (h : CSt F G w b5 bx by_ b6 rk x y k X1 X2 X3 Y1 Y2 Y3) (e : Ext w w') : CSt F G w' b5 bx by_ b6 rk x y k X1 X2 X3 Y1 Y2 Y3 :=
  ⟨e.cell h.r5, h.hx.ext e, h.hy.ext e, e.cell h.fn, h.ax.ext e, h.ay.ext e⟩
def leafV (f : Arr → Arr → Int) (k : Int) (nx ny : List Int) (ix iy : List Arr) (i j : Nat) : Int := if k = 3 then f (ix.getD i default) (iy.getD j default) else sgn (nx.getD i 0) (ny.getD j 0)

theorem ItemsAt.getD {F : Nat → Prop} {w : World} {l : List Arr} {p : Option Addr} (h : ItemsAt F w p 0 l) {j : Nat} (hj : j < l.length) :
    ∃ b off c0 c1 c2 c3, p = some ⟨b, off, none⟩ ∧ w.cell? ⟨b, off + j * 4, none⟩ = some c0 ∧ w.cell? ⟨b, off + j * 4 + 1, none⟩ = some c1 ∧
      w.cell? ⟨b, off + j * 4 + 2, none⟩ = some c2 ∧ w.cell? ⟨b, off + j * 4 + 3, none⟩ = some c3 ∧ ArrAt F w (l.getD j default) c0 c1 c2 c3 := by
  obtain ⟨b, off, c0, c1, c2, c3, h1, _, k0, k1, k2, k3, ha⟩ := ItemsAt.get l p 0 j h hj
  rw [Nat.zero_add] at k0 k1 k2 k3
  refine ⟨b, off, c0, c1, c2, c3, h1, k0, k1, k2, k3, ?_⟩
  have : l.getD j default = l[j] := by simp [List.getD, hj]
  rw [this]; exact ha

set_option maxRecDepth 1000000 in
set_option maxHeartbeats 16000000 in
theorem cells_leaf (f : Arr → Arr → Int) (F G : Nat → Prop) (b5 bx by_ b6 : Nat) (k : Int) (sx nx sy ny : List Int) (ix iy : List Arr) (X1 X2 X3 Y1 Y2 Y3 : Value)
    (hf : k = 3 → ∀ i j, i < ix.length → j < iy.length → ∀ (w : World) (c0 c1 c2 c3 d0 d1 d2 d3 : Value), ArrAt F w (ix.getD i default) c0 c1 c2 c3 → ArrAt G w (iy.getD j default) d0 d1 d2 d3 →
      Calls Try.prog 100 #[.agg #[c0, c1, c2, c3], .agg #[d0, d1, d2, d3]] w fun e w' => e = .returned (.int .i64 (f (ix.getD i default) (iy.getD j default))) ∧ Ext w w')
    (i j : Nat) (w : World) (hC : CSt F G w b5 bx by_ b6 sx.length (.mk k sx nx ix) (.mk k sy ny iy) k X1 X2 X3 Y1 Y2 Y3) (hi : i < (if k = 3 then ix.length else nx.length)) (hj : j < (if k = 3 then iy.length else ny.length)) :
    Calls Try.prog 162 #[.int .i64 (sx.length : Int), .int .i64 (i : Int), .int .i64 (j : Int), .pointer (some ⟨b5, 0, none⟩), .pointer (some ⟨bx, 0, none⟩), .pointer (some ⟨by_, 0, none⟩), .pointer (some ⟨b6, 0, none⟩)] w fun e w' => e = .returned (.int .i64 (leafV f k nx ny ix iy i j)) ∧ Ext w w' := by
  have HF := Lib.hid hf
  have HC := Lib.hid hC
  have hax := hC.ax
  have hay := hC.ay
  unfold ArrAt at hax hay
  obtain ⟨_, _, ⟨p1, m1, rfl, ⟨o1, o1', o1''⟩, i1⟩, ⟨p2, m2, rfl, ⟨o2, o2', o2''⟩, i2⟩, ⟨p3, m3, rfl, ⟨o3, o3', o3''⟩, i3⟩⟩ := hax
  obtain ⟨_, _, ⟨q1, n1, rfl, ⟨r1, r1', r1''⟩, j1⟩, ⟨q2, n2, rfl, ⟨r2, r2', r2''⟩, j2⟩, ⟨q3, n3, rfl, ⟨r3, r3', r3''⟩, j3⟩⟩ := hay
  have c5 := hC.r5
  obtain ⟨s0, s1, s2, s3⟩ := hC.hx.cell
  obtain ⟨t0, t1, t2, t3⟩ := hC.hy.cell
  by_cases hk : k = 3
  · subst hk
    replace HF := Lib.hid (HF.out rfl)
    rw [if_pos rfl] at hi hj
    obtain ⟨ba, oa, c0, c1, c2, c3, rfl, k0, k1, k2, k3, hA⟩ := i3.getD hi
    obtain ⟨bb, ob, d0, d1, d2, d3, rfl, l0, l1, l2, l3, hB⟩ := j3.getD hj
    have hleaf : leafV f 3 nx ny ix iy i j = f (ix.getD i default) (iy.getD j default) := by unfold leafV; rw [if_pos rfl]
    have HLE := Lib.hid hleaf
    have HA := Lib.hid hA
    have HB := Lib.hid hB
    clear hf hC i1 i2 i3 j1 j2 j3 hleaf hA hB
    go_enter Try.func162, Try.ntmps162
    go_wp2_with fail
    have hS0 : w.drew.cell? ⟨bx, 3, none⟩ = some (.slice (some ⟨ba, oa, none⟩) ix.length m3) ∧ w.drew.cell? ⟨by_, 3, none⟩ = some (.slice (some ⟨bb, ob, none⟩) iy.length n3) ∧
        (w.drew.cell? ⟨ba, oa + i * 4, none⟩ = some c0 ∧ w.drew.cell? ⟨ba, oa + i * 4 + 1, none⟩ = some c1 ∧ w.drew.cell? ⟨ba, oa + i * 4 + 2, none⟩ = some c2 ∧ w.drew.cell? ⟨ba, oa + i * 4 + 3, none⟩ = some c3) ∧
        (w.drew.cell? ⟨bb, ob + j * 4, none⟩ = some d0 ∧ w.drew.cell? ⟨bb, ob + j * 4 + 1, none⟩ = some d1 ∧ w.drew.cell? ⟨bb, ob + j * 4 + 2, none⟩ = some d2 ∧ w.drew.cell? ⟨bb, ob + j * 4 + 3, none⟩ = some d3) := ⟨s3, t3, ⟨k0, k1, k2, k3⟩, ⟨l0, l1, l2, l3⟩⟩
    refine wp_region_g [0, 1, 2, 3, 4, 5, 6, 7, 8, 9] [10, 11] (fun w' => w'.cell? ⟨bx, 3, none⟩ = some (.slice (some ⟨ba, oa, none⟩) ix.length m3) ∧ w'.cell? ⟨by_, 3, none⟩ = some (.slice (some ⟨bb, ob, none⟩) iy.length n3) ∧
        (w'.cell? ⟨ba, oa + i * 4, none⟩ = some c0 ∧ w'.cell? ⟨ba, oa + i * 4 + 1, none⟩ = some c1 ∧ w'.cell? ⟨ba, oa + i * 4 + 2, none⟩ = some c2 ∧ w'.cell? ⟨ba, oa + i * 4 + 3, none⟩ = some c3) ∧
        (w'.cell? ⟨bb, ob + j * 4, none⟩ = some d0 ∧ w'.cell? ⟨bb, ob + j * 4 + 1, none⟩ = some d1 ∧ w'.cell? ⟨bb, ob + j * 4 + 2, none⟩ = some d2 ∧ w'.cell? ⟨bb, ob + j * 4 + 3, none⟩ = some d3)) (by kernel_rfl) (by kernel_rfl) hS0 ?_
    clear k0 k1 k2 k3 l0 l1 l2 l3 s0 s1 s2 s3 t0 t1 t2 t3 c5
    iterate 10
      refine wpHead_cons (v := ?_) rfl (by rfl) (fun w' hS => ?_) ?_
      rotate_left
      · obtain ⟨hS1, hS2, ⟨k0, k1, k2, k3⟩, ⟨l0, l1, l2, l3⟩⟩ := hS
        go_simp
        try with_reducible rfl
      try simp only [Act.put, List.setIfInBounds_toArray, List.set]
    unfold wpHead
    refine wpTail_cons rfl (fun K hK => ?_)
    go_wp2_with fail
    refine (HF.out i j hi hj w.drew _ _ _ _ _ _ _ _ (HA.out.ext (Ext.refl _).drew) (HB.out.ext (Ext.refl _).drew)).mono ?_
    rintro e w2 ⟨rfl, hE⟩
    rw [← HLE.out]
    have hE2 : Ext w w2 := (Ext.refl w).drew.trans hE
    go_wp2_with fail
    refine hK _ _ ⟨hE.cell hS0.1, hE.cell hS0.2.1, ⟨hE.cell hS0.2.2.1.1, hE.cell hS0.2.2.1.2.1, hE.cell hS0.2.2.1.2.2.1, hE.cell hS0.2.2.1.2.2.2⟩, ⟨hE.cell hS0.2.2.2.1, hE.cell hS0.2.2.2.2.1, hE.cell hS0.2.2.2.2.2.1, hE.cell hS0.2.2.2.2.2.2⟩⟩ ?_
    try simp only [Act.put, List.setIfInBounds_toArray, List.set]
    refine wpTail_free1 rfl (by kernel_rfl) ?_
    clear hS0
    go_wp2_with fail
    refine OnlyN.mk ?_
    (try simp only [Exit.inBlock, Exit.then])
    go_wp2_with fail
    go_ret
    exact ⟨rfl, hE2⟩
  · rw [if_neg hk] at hi hj
    obtain ⟨ba, oa, rfl, k0, _, _⟩ := i2.get hi
    obtain ⟨bb, ob, rfl, l0, _, _⟩ := j2.get hj
    have hleaf : leafV f k nx ny ix iy i j = sgn (nx.getD i 0) (ny.getD j 0) := by unfold leafV; rw [if_neg hk]
    generalize nx.getD i 0 = a1 at *
    generalize ny.getD j 0 = a2 at *
    have HLE := Lib.hid hleaf
    have hk3 : (k == 3) = false := by simpa using hk
    clear hf hC i1 i2 i3 j1 j2 j3 hleaf hk
    go_enter Try.func162, Try.ntmps162
    go_wp2_with fail
    go_quiet ((go_at_call 143; exact quiet_mine (ccmp_any a1 a2 _)))
    have hE2 : Ext w (w.drewN nq) := (Ext.refl w).drewN nq
    clear k0 l0 s0 s1 s2 s3 t0 t1 t2 t3 c5
    go_wp2_with fail
    go_ret
    exact ⟨ret_int HLE.out.symm, hE2⟩

set_option maxRecDepth 1000000 in
set_option maxHeartbeats 16000000 in
theorem cells_any (f : Arr → Arr → Int) (F G : Nat → Prop) (b5 bx by_ b6 : Nat) (k : Int) (sx nx sy ny : List Int) (ix iy : List Arr) (X1 X2 X3 Y1 Y2 Y3 : Value) (hlen : sx.length = sy.length) (hl8 : sx.length ≤ 8) (hrx : rightGo 1 sx = true) (hry : rightGo 1 sy = true)
    (hnx : (if k = 3 then ix.length else nx.length) ≤ 65536) (hny : (if k = 3 then iy.length else ny.length) ≤ 65536)
    (hf : k = 3 → ∀ i j, i < ix.length → j < iy.length → ∀ (w : World) (c0 c1 c2 c3 d0 d1 d2 d3 : Value), ArrAt F w (ix.getD i default) c0 c1 c2 c3 → ArrAt G w (iy.getD j default) d0 d1 d2 d3 →
      Calls Try.prog 100 #[.agg #[c0, c1, c2, c3], .agg #[d0, d1, d2, d3]] w fun e w' => e = .returned (.int .i64 (f (ix.getD i default) (iy.getD j default))) ∧ Ext w w') :
    ∀ (r a : Nat), a + r = sx.length → ∀ (i j : Nat) (w : World), CSt F G w b5 bx by_ b6 sx.length (.mk k sx nx ix) (.mk k sy ny iy) k X1 X2 X3 Y1 Y2 Y3 → i ≤ 65536 → j ≤ 65536 →
      (0 < volN (sx.drop a) → i + volN (sx.drop a) ≤ (if k = 3 then ix.length else nx.length)) → (0 < volN (sy.drop a) → j + volN (sy.drop a) ≤ (if k = 3 then iy.length else ny.length)) →
      Calls Try.prog 162 #[.int .i64 (a : Int), .int .i64 (i : Int), .int .i64 (j : Int), .pointer (some ⟨b5, 0, none⟩), .pointer (some ⟨bx, 0, none⟩), .pointer (some ⟨by_, 0, none⟩), .pointer (some ⟨b6, 0, none⟩)] w fun e w' => e = .returned (.int .i64 (contG (leafV f k nx ny ix iy) (sx.drop a) (sy.drop a) i j)) ∧ Ext w w' := by
  intro r
  induction r with
  | zero =>
    intro a har i j w hC hi1 hj1 hi hj
    have ha : a = sx.length := by omega
    subst ha
    rw [List.drop_length] at hi
    rw [hlen, List.drop_length] at hj
    rw [vol_nil] at hi hj
    have h := cells_leaf f F G b5 bx by_ b6 k sx nx sy ny ix iy X1 X2 X3 Y1 Y2 Y3 hf i j w hC (by have := hi (by omega); omega) (by have := hj (by omega); omega)
    rw [List.drop_length, contG]
    exact h
  | succ r ih =>
    intro a har i j w hC hi1 hj1 hi hj
    have hal : a < sx.length := by omega
    have hal2 : a < sy.length := by omega
    obtain ⟨gx1, gx2, gx3, gx4, gx5⟩ := vol_drop hrx hl8 hal
    obtain ⟨gy1, gy2, gy3, gy4, gy5⟩ := vol_drop hry (by omega) hal2
    have hgoal : contG (leafV f k nx ny ix iy) (sx.drop a) (sy.drop a) i j = if firstNZ (fun q => contG (leafV f k nx ny ix iy) (sx.drop (a + 1)) (sy.drop (a + 1)) (i + q * volN (sx.drop (a + 1))) (j + q * volN (sy.drop (a + 1)))) (min (sx.getD a 0) (sy.getD a 0)).toNat 0 ≠ 0 then firstNZ (fun q => contG (leafV f k nx ny ix iy) (sx.drop (a + 1)) (sy.drop (a + 1)) (i + q * volN (sx.drop (a + 1))) (j + q * volN (sy.drop (a + 1)))) (min (sx.getD a 0) (sy.getD a 0)).toNat 0 else sgn (sx.getD a 0) (sy.getD a 0) := by
      rw [drop_getD hal, drop_getD hal2, contG]
      rfl
    have hax := hC.ax
    have hay := hC.ay
    unfold ArrAt at hax hay
    obtain ⟨_, _, ⟨p1, m1, e1, ⟨o1, o1', o1''⟩, i1⟩, _⟩ := hax
    obtain ⟨_, _, ⟨q1, n1, e2, ⟨r1, r1', r1''⟩, j1⟩, _⟩ := hay
    subst e1 e2
    obtain ⟨ba, oa, e3, k0, _, _⟩ := i1.get hal
    obtain ⟨bb, ob, e4, l0, _, _⟩ := j1.get hal2
    subst e3 e4
    have hix := hi
    have hjx := hj
    rw [gx3] at hix
    rw [gy3] at hjx
    obtain ⟨vp, hvp⟩ : ∃ vp, volN (sx.drop (a + 1)) = vp := ⟨_, rfl⟩
    obtain ⟨vq, hvq⟩ : ∃ vq, volN (sy.drop (a + 1)) = vq := ⟨_, rfl⟩
    rw [hvp] at gx3 gx4 gx5 hix
    rw [hvq] at gy3 gy4 gy5 hjx
    have hi1' := i1.cut (n := (sx.drop (a + 1)).length) (a + 1) m1 o1
    have hj1' := j1.cut (n := (sy.drop (a + 1)).length) (a + 1) n1 r1
    rw [List.take_length] at hi1' hj1'
    have hrunx : ∀ w, (Instr.sliceAt 23 (.slice (some ⟨ba, oa, none⟩) sx.length m1) (some (.int .i64 ((a : Int) + 1))) none none).run Try.prog w = .ok (.slice (cutAt (some ⟨ba, oa, none⟩) (a + 1) m1 1) (sx.drop (a + 1)).length (m1 - (a + 1))) w := fun w => by
      have := slice_l (some ⟨ba, oa, none⟩) sx.length m1 w (a + 1) (by omega)
      rw [show (((a + 1 : Nat)) : Int) = (a : Int) + 1 by omega] at this
      rw [List.length_drop]; exact this
    have hruny : ∀ w, (Instr.sliceAt 23 (.slice (some ⟨bb, ob, none⟩) sy.length n1) (some (.int .i64 ((a : Int) + 1))) none none).run Try.prog w = .ok (.slice (cutAt (some ⟨bb, ob, none⟩) (a + 1) n1 1) (sy.drop (a + 1)).length (n1 - (a + 1))) w := fun w => by
      have := slice_l (some ⟨bb, ob, none⟩) sy.length n1 w (a + 1) (by omega)
      rw [show (((a + 1 : Nat)) : Int) = (a : Int) + 1 by omega] at this
      rw [List.length_drop]; exact this
    have hsx8 : (sx.drop (a + 1)).length ≤ lenMax := by rw [List.length_drop]; unfold lenMax; omega
    have hsy8 : (sy.drop (a + 1)).length ≤ lenMax := by rw [List.length_drop]; unfold lenMax; omega
    generalize cutAt (some ⟨ba, oa, none⟩) (a + 1) m1 1 = px at *
    generalize cutAt (some ⟨bb, ob, none⟩) (a + 1) n1 1 = py at *
    have hcx : ∀ n, Calls Try.prog 129 #[.slice px (sx.drop (a + 1)).length (m1 - (a + 1))] (w.drewN n) fun e w'' => e = .returned (.int .i64 (vp : Int)) ∧ ∃ m, w'' = w.drewN m := fun n => by
      have h := size_any F px (m1 - (a + 1)) (sx.drop (a + 1)) (w.drewN n) (hi1'.ext ((Ext.refl _).drewN n)) hsx8
      rw [gx5] at h
      exact quiet_mine h
    have hcy : ∀ n, Calls Try.prog 129 #[.slice py (sy.drop (a + 1)).length (n1 - (a + 1))] (w.drewN n) fun e w'' => e = .returned (.int .i64 (vq : Int)) ∧ ∃ m, w'' = w.drewN m := fun n => by
      have h := size_any G py (n1 - (a + 1)) (sy.drop (a + 1)) (w.drewN n) (hj1'.ext ((Ext.refl _).drewN n)) hsy8
      rw [gy5] at h
      exact quiet_mine h
    obtain ⟨lx, hlx⟩ : ∃ lx, lx = (sx.drop (a + 1)).length := ⟨_, rfl⟩
    obtain ⟨ly, hly⟩ : ∃ ly, ly = (sy.drop (a + 1)).length := ⟨_, rfl⟩
    rw [← hlx] at hrunx hcx
    rw [← hly] at hruny hcy
    have IH := Lib.hid (ih (a + 1) (by omega))
    have HIX := Lib.hid hix
    have HJX := Lib.hid hjx
    have HCX := Lib.hid hcx
    have HCY := Lib.hid hcy
    have HVP := Lib.hid hvp
    have HVQ := Lib.hid hvq
    have HC := Lib.hid hC
    have HG := Lib.hid hgoal
    have HLX := Lib.hid hlx
    have HLY := Lib.hid hly
    generalize sx.getD a 0 = dx at *
    generalize sy.getD a 0 = dy at *
    obtain ⟨M, hM⟩ : ∃ M : Nat, (min dx dy).toNat = M := ⟨_, rfl⟩
    have hmin : (if dy < dx then dy else dx) = (M : Int) := by
      rw [← hM]; split <;> omega
    have hMd : M ≤ dx.toNat ∧ M ≤ dy.toNat ∧ M ≤ 65536 := by omega
    have HM := Lib.hid hM
    have hw1 : IntKind.i64.wrap ((a : Int) + 1) = (a : Int) + 1 := IntWalk.i64_in _ (by omega)
    have HLEN := Lib.hid hlen
    have HNX := Lib.hid hnx
    have HNY := Lib.hid hny
    have hne : ((a : Int) == (sx.length : Int)) = false := by simp; omega
    have hslt : (a : Int) < (sx.length : Int) := by omega
    have c5 := hC.r5
    obtain ⟨s0, s1, s2, s3⟩ := hC.hx.cell
    obtain ⟨t0, t1, t2, t3⟩ := hC.hy.cell
    clear ih hix hjx hcx hcy hvp hvq hC hgoal hi hj gx3 gx5 gy3 gy5 hi1' hj1' i1 j1 hsx8 hsy8 hlx hly hf hM hnx hny hrx hry hlen
    go_enter Try.func162, Try.ntmps162
    go_wp2_with fail
    go_quiet ((first | (go_at_call 129; exact HCX.out _) | (go_at_call 129; exact HCY.out _)))
    have hE2 := (Ext.refl w).drewN nq
    have HC2 := Lib.hid (HC.out.ext hE2)
    replace k0 := hE2.cell k0
    replace l0 := hE2.cell l0
    have HE2 := Lib.hid hE2
    clear s0 s1 s2 s3 t0 t1 t2 t3 c5 hE2 hrunx hruny HCX HCY hw1 hne
    obtain ⟨w2, hw2⟩ : ∃ wx : World, wx = w.drewN nq := ⟨_, rfl⟩
    rw [← hw2] at HC2 HE2 k0 l0 ⊢
    clear hw2
    obtain ⟨s0, s1, s2, s3⟩ := HC2.out.hx.cell
    obtain ⟨t0, t1, t2, t3⟩ := HC2.out.hy.cell
    go_wp2_with fail
    go_quiet (fail)
    have hE3 := (Ext.refl w2).drewN nq
    have HC3 := Lib.hid (HC2.out.ext hE3)
    have HE3 := Lib.hid (HE2.out.trans hE3)
    replace k0 := hE3.cell k0
    replace l0 := hE3.cell l0
    clear s0 s1 s2 s3 t0 t1 t2 t3 hE3 HC2 HE2
    obtain ⟨w3, hw3⟩ : ∃ wx : World, wx = w2.drewN nq := ⟨_, rfl⟩
    rw [← hw3] at HC3 HE3 k0 l0 ⊢
    clear hw3
    go_wp2_with fail
    have hbp : ∀ q, q < M → 0 < vp → i + q * vp + vp ≤ (if k = 3 then ix.length else nx.length) := fun q hq hv => by
      have h1 := Nat.mul_le_mul_right vp (show q + 1 ≤ dx.toNat by omega)
      rw [Nat.succ_mul] at h1
      have h2 := HIX.out (by omega)
      omega
    have hbq : ∀ q, q < M → 0 < vq → j + q * vq + vq ≤ (if k = 3 then iy.length else ny.length) := fun q hq hv => by
      have h1 := Nat.mul_le_mul_right vq (show q + 1 ≤ dy.toNat by omega)
      rw [Nat.succ_mul] at h1
      have h2 := HJX.out (by omega)
      omega
    have HBP := Lib.hid hbp
    have HBQ := Lib.hid hbq
    clear hbp hbq
    obtain ⟨g, hg⟩ : ∃ g : Nat → Int, g = fun q => contG (leafV f k nx ny ix iy) (sx.drop (a + 1)) (sy.drop (a + 1)) (i + q * vp) (j + q * vq) := ⟨_, rfl⟩
    have HG2 := Lib.hid (show contG (leafV f k nx ny ix iy) (sx.drop a) (sy.drop a) i j = if firstNZ g M 0 ≠ 0 then firstNZ g M 0 else sgn dx dy by
      rw [HG.out, hg, ← HVP.out, ← HVQ.out, HM.out])
    have HGQ := Lib.hid (show ∀ q, g q = contG (leafV f k nx ny ix iy) (sx.drop (a + 1)) (sy.drop (a + 1)) (i + q * vp) (j + q * vq) from fun q => by rw [hg])
    have hvpM : ∀ q, q < M → i + q * vp ≤ 65536 := fun q hq => by
      rcases Nat.eq_zero_or_pos vp with h | h
      · rw [h]; omega
      · have := HBP.out q hq h
        have h9 := HNX.out
        omega
    have hvqM : ∀ q, q < M → j + q * vq ≤ 65536 := fun q hq => by
      rcases Nat.eq_zero_or_pos vq with h | h
      · rw [h]; omega
      · have := HBQ.out q hq h
        have h9 := HNY.out
        omega
    have HPM := Lib.hid hvpM
    have HQM := Lib.hid hvqM
    clear hvpM hvqM hg HG
    go_loopw [73] (fun qv wr => ∃ q : Nat, q ≤ M ∧ qv = .int .i64 q ∧ Ext w3 wr ∧ Hid (firstNZ g (M - q) q = firstNZ g M 0)) (fun qv _ => M - (intOf qv).toNat)
    case atStart => exact ⟨0, Nat.zero_le _, rfl, Ext.refl _, Lib.hid rfl⟩
    case round =>
    obtain ⟨q, hq, rfl, hE, HR⟩ := hrel
    have HEr := Lib.hid (HE3.out.trans hE)
    have HE := Lib.hid hE
    by_cases hqm : q < M
    · have hr := HR.out
      rw [show M - q = (M - (q + 1)) + 1 by omega, firstNZ] at hr
      obtain ⟨z1, hz1⟩ : ∃ z, q * vp = z := ⟨_, rfl⟩
      obtain ⟨z2, hz2⟩ : ∃ z, q * vq = z := ⟨_, rfl⟩
      have b1 := HPM.out q hqm
      have b2 := HQM.out q hqm
      rw [hz1] at b1
      rw [hz2] at b2
      have e1 : (q : Int) * (vp : Int) = (z1 : Int) := by rw [← hz1]; simp
      have e2 : (q : Int) * (vq : Int) = (z2 : Int) := by rw [← hz2]; simp
      obtain ⟨i2, hi2⟩ : ∃ i2, i + z1 = i2 := ⟨_, rfl⟩
      obtain ⟨j2, hj2⟩ : ∃ j2, j + z2 = j2 := ⟨_, rfl⟩
      have e3 : (i : Int) + (z1 : Int) = (i2 : Int) := by omega
      have e4 : (j : Int) + (z2 : Int) = (j2 : Int) := by omega
      have hcall : Calls Try.prog 162 #[.int .i64 ((a : Int) + 1), .int .i64 (i2 : Int), .int .i64 (j2 : Int), .pointer (some ⟨b5, 0, none⟩), .pointer (some ⟨bx, 0, none⟩), .pointer (some ⟨by_, 0, none⟩), .pointer (some ⟨b6, 0, none⟩)] wr fun e w' => e = .returned (.int .i64 (g q)) ∧ Ext wr w' := by
        have h := IH.out i2 j2 wr (HC3.out.ext hE) (by omega) (by omega) (by
          rw [HVP.out]; intro hv
          have := HBP.out q hqm hv
          omega) (by
          rw [HVQ.out]; intro hv
          have := HBQ.out q hqm hv
          omega)
        rw [show (((a + 1 : Nat)) : Int) = (a : Int) + 1 by omega] at h
        rw [HGQ.out q, hz1, hz2, hi2, hj2]
        exact h
      have HCALL := Lib.hid hcall
      have y1 : z1 ≤ 65536 := by omega
      have y2 : z2 ≤ 65536 := by omega
      have y3 : i2 ≤ 65536 := by omega
      have y4 : j2 ≤ 65536 := by omega
      have hfn := (HC3.out.ext hE).fn
      clear hcall b1 b2 hz1 hz2 hi2 hj2 hE HR
      go_wp2_with fail
      (with_reducible refine HCALL.out.mono ?_)
      rintro e w5 ⟨rfl, hE5⟩
      generalize g q = v at *
      clear hfn HCALL e1 e2 e3 e4
      by_cases hv : v = 0
      · subst hv
        have HR2 := Lib.hid (show firstNZ g (M - (q + 1)) (q + 1) = firstNZ g M 0 by simpa using hr)
        have hE6 := HE.out.trans hE5
        clear hr HE hE5
        go_wp2_with fail
        go_roundw
        case rel => exact ⟨q + 1, by omega, by go_num, hE6, HR2⟩
        case measure => simp [intOf]; omega
      · have hv2 : (v != 0) = true := by simpa using hv
        have hr2 : v = firstNZ g M 0 := by simpa [hv] using hr
        have HR2 := Lib.hid (show v = contG (leafV f k nx ny ix iy) (sx.drop a) (sy.drop a) i j by rw [HG2.out, ← hr2, if_pos hv])
        have hE6 := HEr.out.trans hE5
        clear hr hr2 hv HE hE5
        go_wp2_with fail
        go_ret
        exact ⟨ret_int HR2.out, hE6⟩
    · have hr := HR.out
      rw [show M - q = 0 by omega, firstNZ] at hr
      have HR2 := Lib.hid (show sgn dx dy = contG (leafV f k nx ny ix iy) (sx.drop a) (sy.drop a) i j by rw [HG2.out, ← hr, if_neg (by simp)])
      replace k0 := HE.out.cell k0
      replace l0 := HE.out.cell l0
      obtain ⟨s0, s1, s2, s3⟩ := (HC3.out.ext HE.out).hx.cell
      obtain ⟨t0, t1, t2, t3⟩ := (HC3.out.ext HE.out).hy.cell
      have hal' : a < sx.length := hal
      clear hr hE HR
      go_wp2_with fail
      go_quiet ((go_at_call 143; exact quiet_mine (ccmp_any dx dy _)))
      have hE6 := HEr.out.trans ((Ext.refl wr).drewN nq)
      clear k0 l0 s0 s1 s2 s3 t0 t1 t2 t3
      go_wp2_with fail
      go_ret
      exact ⟨ret_int HR2.out, hE6⟩

end Go.Proofs.Ytgkemmdghmklfaa
