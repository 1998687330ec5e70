/-
  THE WALKS of taking.Take and taking.Drop. (Printed by gen_take.py.)
-/
import Derived.Test.YtcmnlnamgnbemaaBuild
import Derived.Test.YtcmnlnamgnbemaaApp
import Derived.Test.YtcmnlnamgnbemaaDims
namespace Go.Proofs.Ytcmnlnamgnbemaa
set_option linter.unusedSimpArgs false
set_option linter.unusedVariables false
open Go.RowKit

/-- The shape ys with its first places changed by the counts. -/
def withL (f : Int → Int → Int) : List Int → List Int → List Int
  | n :: r, y :: q => f n y :: withL f r q
  | _, ys => ys
theorem withL_nil (f : Int → Int → Int) (ys : List Int) : withL f [] ys = ys := by unfold withL; rfl
theorem withL_len (f : Int → Int → Int) : ∀ (l ys : List Int), (withL f l ys).length = ys.length
  | [], ys => by rw [withL_nil]
  | n :: r, [] => by unfold withL; rfl
  | n :: r, y :: q => by rw [withL, List.length_cons, List.length_cons, withL_len f r q]
theorem withL_getD (f : Int → Int → Int) : ∀ (l ys : List Int) (q : Nat), l.length ≤ q → (withL f l ys).getD q 0 = ys.getD q 0
  | [], ys, q, _ => by rw [withL_nil]
  | n :: r, [], q, _ => by unfold withL; rfl
  | n :: r, y :: p, 0, h => by simp at h
  | n :: r, y :: p, q + 1, h => by
    rw [withL, List.getD_cons_succ, List.getD_cons_succ]
    exact withL_getD f r p q (by simpa using h)
theorem withL_set (f : Int → Int → Int) : ∀ (l ys : List Int) (q : Nat), q < l.length → l.length ≤ ys.length → (withL f (l.take q) ys).set q (f (l.getD q 0) (ys.getD q 0)) = withL f (l.take (q + 1)) ys
  | [], _, _, h, _ => by simp at h
  | n :: r, [], _, _, h => by simp at h
  | n :: r, y :: p, 0, _, _ => by simp [withL, withL_nil]
  | n :: r, y :: p, q + 1, h, hl => by
    rw [List.take_succ_cons, List.take_succ_cons, withL, withL, List.set_cons_succ, List.getD_cons_succ, List.getD_cons_succ, withL_set f r p q (by simpa using h) (by simpa using hl)]
theorem OwnI.at' {B : Nat} {X : Nat → Prop} {w : World} {p : Option Addr} {n c : Nat} {xs : List Int} (h : OwnI B X w (.slice p n c) n xs) {j : Nat} (hj : j < n) :
    ∃ g, p = some ⟨g, 0, none⟩ ∧ B ≤ g ∧ g < w.heap.size ∧ w.cell? ⟨g, j, none⟩ = some (.int .i64 (xs.getD j 0)) ∧ w.frozen? ⟨g, j, none⟩ = false ∧
      ∀ v : Int, -9223372036854775808 ≤ v ∧ v ≤ 9223372036854775807 → OwnI B X (w.setCell ⟨g, j, none⟩ (.int .i64 v)) (.slice p n c) n (xs.set j v) := by
  have e := h.1
  subst e
  exact h.at hj
def takeF (n _y : Int) : Int := max n (-n)
def dropF (n y : Int) : Int := max (y - max n (-n)) 0
def tkS : Arr → List Int
  | .mk _ s _ _ => s
def tkN : Arr → List Int
  | .mk _ _ n _ => n
/-- What Take returns. -/
def takeV (x y : Arr) : Arr × Int := if tkErr x y ≠ 0 then (Arr.zero, tkErr x y) else buildV (withL takeF (tkN x) (tkS (tkY (tkN x).length y))) (takeFr (tkN x) (tkS (tkY (tkN x).length y))) (tkY (tkN x).length y)
def dropV (x y : Arr) : Arr × Int := if tkErr x y ≠ 0 then (Arr.zero, tkErr x y) else buildV (withL dropF (tkN x) (tkS (tkY (tkN x).length y))) (dropFr (tkN x)) (tkY (tkN x).length y)
theorem tkErr_parts {kx ky : Int} {sx nx sy ny : List Int} {ix iy : List Arr} (he : tkErr (.mk kx sx nx ix) (.mk ky sy ny iy) = 0) :
    rightV (.mk kx sx nx ix) = 0 ∧ rightV (.mk ky sy ny iy) = 0 ∧ kx = 1 ∧ ¬ 1 < sx.length ∧ ¬ (0 < sy.length ∧ sy.length < nx.length) ∧ ¬ 8 < nx.length := by
  have h : (if rightV (.mk kx sx nx ix) ≠ 0 then 1 else if rightV (.mk ky sy ny iy) ≠ 0 then 1 else if kx ≠ 1 then 14 else if 1 < sx.length then 15 else if 0 < sy.length ∧ sy.length < nx.length then 16 else if 8 < nx.length then 21 else (0 : Int)) = 0 := he
  split at h
  · cases h
  split at h
  · cases h
  split at h
  · cases h
  split at h
  · cases h
  split at h
  · cases h
  split at h
  · cases h
  refine ⟨?_, ?_, ?_, ?_, ?_, ?_⟩ <;> omega
theorem right_ints {s n : List Int} {it : List Arr} (h : rightV (.mk 1 s n it) = 0) : ∀ x ∈ n, -4611686018427387903 ≤ x ∧ x ≤ 4611686018427387903 := by
  unfold rightV visitV at h
  split at h
  · rename_i h1; exact absurd h h1
  · split at h
    · cases h
    · rename_i hb
      intro x hx
      rw [Bool.not_eq_true, List.any_eq_false] at hb
      have := hb x hx
      simp [badNum, isNum] at this
      omega
theorem rightGo_ones : ∀ (n : Nat), rightGo 1 (List.replicate n 1) = true
  | 0 => by simp [rightGo]
  | n + 1 => by
    rw [List.replicate_succ, rightGo, if_neg (by omega), if_neg (by omega)]
    simpa using rightGo_ones n
theorem prodA_ones : ∀ (n : Nat), prodA 1 (List.replicate n 1) = 1
  | 0 => by simp [prodA]
  | n + 1 => by
    rw [List.replicate_succ, prodA, if_neg (by omega)]
    simpa using prodA_ones n
/-- What check hands on. -/
theorem tkY_parts {kx ky : Int} {sx nx sy ny : List Int} {ix iy : List Arr} (he : tkErr (.mk kx sx nx ix) (.mk ky sy ny iy) = 0) {kz : Int} {sz nz : List Int} {iz : List Arr} (hz : tkY nx.length (.mk ky sy ny iy) = .mk kz sz nz iz) :
    nx.length ≤ sz.length ∧ sz.length ≤ 8 ∧ rightGo 1 sz = true ∧ (kz = 1 ∨ kz = 2 ∨ kz = 3) ∧ (kz ≠ 3 → (nz.length : Int) = prodA 1 sz) ∧ (kz = 3 → (iz.length : Int) = prodA 1 sz) ∧ ∀ x ∈ nx, -4611686018427387903 ≤ x ∧ x ≤ 4611686018427387903 := by
  obtain ⟨h1, h2, h3, h4, h5, h6⟩ := tkErr_parts he
  subst h3
  obtain ⟨a1, a2, a3, a4, a5⟩ := right_parts h2
  have hsz : shapeSize sy = prodA 1 sy := by
    unfold shapeSize
    rw [if_pos (by simp [shapeRight, a2, a3]), prodA_volOf]
  rw [tkY] at hz
  cases hz
  by_cases hs : sy.length = 0
  · have hsn : sy = [] := List.length_eq_zero_iff.1 hs
    subst hsn
    simp only [List.length_nil, if_true]
    have e1 : shapeSize [] = 1 := by rw [hsz]; simp [prodA]
    refine ⟨by simp, by simp; omega, rightGo_ones _, a1, fun h => ?_, fun h => ?_, right_ints h1⟩
    · rw [prodA_ones, (a4 h).2, e1]
    · rw [prodA_ones, (a5 h).2, e1]
  · rw [if_neg hs]
    refine ⟨by omega, a2, a3, a1, fun h => by rw [(a4 h).2, hsz], fun h => by rw [(a5 h).2, hsz], right_ints h1⟩
theorem getD_mem {l : List Int} {P : Int → Prop} (h : ∀ x ∈ l, P x) {j : Nat} (hj : j < l.length) : P (l.getD j 0) := h _ (by simp [List.getD, hj])

theorem takeVFn_enter (args : Array Value) (w : World) : (callFunc 70 args).run Try.prog w = .ok (.enter 70 args) w := by go_simp

set_option maxRecDepth 100000 in
set_option maxHeartbeats 8000000 in
theorem take_err (F G : Nat → Prop) (x y : Arr) (c0 c1 c2 c3 d0 d1 d2 d3 : Value) (w : World) (hx : ArrAt F w x c0 c1 c2 c3) (hy : ArrAt G w y d0 d1 d2 d3) (he : tkErr x y ≠ 0) :
    Calls Try.prog 41 #[.agg #[c0, c1, c2, c3], .agg #[d0, d1, d2, d3]] w fun e w' =>
      ∃ e0 e1 e2 e3, e = .returned (.tuple #[.agg #[e0, e1, e2, e3], .int .i64 (takeV x y).2]) ∧ ArrAt (fun b => w.heap.size ≤ b) w' (takeV x y).1 e0 e1 e2 e3 ∧ Ext w w' := by
  obtain ⟨kx, sx, nx, ix⟩ := x
  obtain ⟨ky, sy, ny, iy⟩ := y
  have hx' := hx
  have hy' := hy
  unfold ArrAt at hx' hy'
  obtain ⟨rfl, hkx, ⟨q1, m1, rfl, ⟨o1, o1', o1''⟩, i1⟩, ⟨q2, m2, rfl, ⟨o2, o2', o2''⟩, i2⟩, ⟨q3, m3, rfl, ⟨o3, o3', o3''⟩, i3⟩⟩ := hx'
  obtain ⟨rfl, hky, ⟨r1, n1, rfl, ⟨p1, p1', p1''⟩, j1⟩, ⟨r2, n2, rfl, ⟨p2, p2', p2''⟩, j2⟩, ⟨r3, n3, rfl, ⟨p3, p3', p3''⟩, j3⟩⟩ := hy'
  have HX := Lib.hid hx
  have HY := Lib.hid hy
  generalize hres : takeV (.mk kx sx nx ix) (.mk ky sy ny iy) = res
  have hr := hres
  unfold takeV at hr
  rw [if_pos he] at hr
  have HE := Lib.hid he
  clear hx hy i1 i2 i3 j1 j2 j3 hres
  generalize hev : tkErr (.mk kx sx nx ix) (.mk ky sy ny iy) = ev at *
  have HEV := Lib.hid hev
  have HRES := Lib.hid hr
  clear hev hr
  have hev0 : (ev != 0) = true := by simpa using he
  clear he
  go_enter Try.func41, Try.ntmps41
  go_wp2_with fail
  have hE0 : Ext w (((w.alloc (.cells #[.int .i64 kx, .slice q1 sx.length m1, .slice q2 nx.length m2, .slice q3 ix.length m3] 26)).alloc (.cells #[.int .i64 ky, .slice r1 sy.length n1, .slice r2 ny.length n2, .slice r3 iy.length n3] 26)).alloc (.cells #[.int .i64 0, .slice none 0 0, .slice none 0 0, .slice none 0 0] 26)) := (((Ext.refl _).alloc _).alloc _).alloc _
  have hBX := ((box_new w (.int .i64 kx) (.slice q1 sx.length m1) (.slice q2 nx.length m2) (.slice q3 ix.length m3)).ext ((Ext.refl _).alloc (.cells #[.int .i64 ky, .slice r1 sy.length n1, .slice r2 ny.length n2, .slice r3 iy.length n3] 26))).ext ((Ext.refl _).alloc (.cells #[.int .i64 0, .slice none 0 0, .slice none 0 0, .slice none 0 0] 26))
  have hBY := (box_new (w.alloc (.cells #[.int .i64 kx, .slice q1 sx.length m1, .slice q2 nx.length m2, .slice q3 ix.length m3] 26)) (.int .i64 ky) (.slice r1 sy.length n1) (.slice r2 ny.length n2) (.slice r3 iy.length n3)).ext ((Ext.refl _).alloc (.cells #[.int .i64 0, .slice none 0 0, .slice none 0 0, .slice none 0 0] 26))
  have hBZ := box_new ((w.alloc (.cells #[.int .i64 kx, .slice q1 sx.length m1, .slice q2 nx.length m2, .slice q3 ix.length m3] 26)).alloc (.cells #[.int .i64 ky, .slice r1 sy.length n1, .slice r2 ny.length n2, .slice r3 iy.length n3] 26)) (.int .i64 0) (.slice none 0 0) (.slice none 0 0) (.slice none 0 0)
  rw [World.size_alloc] at hBY
  rw [World.size_alloc, World.size_alloc] at hBZ
  generalize (((w.alloc (.cells #[.int .i64 kx, .slice q1 sx.length m1, .slice q2 nx.length m2, .slice q3 ix.length m3] 26)).alloc (.cells #[.int .i64 ky, .slice r1 sy.length n1, .slice r2 ny.length n2, .slice r3 iy.length n3] 26)).alloc (.cells #[.int .i64 0, .slice none 0 0, .slice none 0 0, .slice none 0 0] 26)) = w1 at hE0 hBX hBY hBZ ⊢
  refine (tkcheck_err F G _ _ _ _ _ _ _ _ _ _ w1 (HX.out.ext hE0) (HY.out.ext hE0) (by rw [HEV.out]; exact HE.out)).mono ?_
  rintro e w2 ⟨rfl, hE1⟩
  rw [HEV.out]
  have hE2 := hE0.trans hE1
  replace hBY := hBY.ext hE1
  replace hBZ := hBZ.ext hE1
  have hlt2 := hBZ.lt
  have hltY := hBY.lt
  obtain ⟨t0, t1, t2, t3⟩ := hBY.cell
  have g0 := hBY.free 0
  have g1 := hBY.free 1
  have g2 := hBY.free 2
  have g3 := hBY.free 3
  obtain ⟨x0, x1, x2, x3⟩ := hBZ.cell
  have f0 := hBZ.free 0
  have f1 := hBZ.free 1
  have f2 := hBZ.free 2
  have f3 := hBZ.free 3
  go_wp2_with fail
  obtain ⟨a1, a2, a3⟩ := hBY.put4 hE2 (by omega) (.int .i64 0) (.slice none 0 0) (.slice none 0 0) (.slice none 0 0)
  have hBZ3 := hBZ.kept (a3 (w.heap.size + 1 + 1) (by omega))
  obtain ⟨b1, b2, b3⟩ := hBZ3.put4 a1 (by omega) (.int .i64 0) (.slice none 0 0) (.slice none 0 0) (.slice none 0 0)
  have gg1 := b1.alloc (.cells #[.slice none 0 0] 23)
  have gg2 := b2.ext ((Ext.refl _).alloc (.cells #[.slice none 0 0] 23))
  revert gg1 gg2
  generalize (((((((((w2.setCell ⟨w.heap.size + 1, 0, none⟩ (.int .i64 0)).setCell ⟨w.heap.size + 1, 1, none⟩ (.slice none 0 0)).setCell ⟨w.heap.size + 1, 2, none⟩ (.slice none 0 0)).setCell ⟨w.heap.size + 1, 3, none⟩ (.slice none 0 0)).setCell ⟨w.heap.size + 1 + 1, 0, none⟩ (.int .i64 0)).setCell ⟨w.heap.size + 1 + 1, 1, none⟩ (.slice none 0 0)).setCell ⟨w.heap.size + 1 + 1, 2, none⟩ (.slice none 0 0)).setCell ⟨w.heap.size + 1 + 1, 3, none⟩ (.slice none 0 0))).alloc (.cells #[.slice none 0 0] 23) = w9
  intro gg1 gg2
  obtain ⟨z0, z1, z2, z3⟩ := gg2.cell
  refine bodyPost_ret (v := .tuple #[.agg #[(.int .i64 0), (.slice none 0 0), (.slice none 0 0), (.slice none 0 0)], .int .i64 ev]) ?_ rfl ⟨_, _, _, _, by rw [← HRES.out], by rw [← HRES.out]; exact Arr.zero_at _ _, gg1⟩
  simp [results, Try.results41, go_sem, z0, z1, z2, z3]

set_option maxRecDepth 100000 in
set_option maxHeartbeats 8000000 in
theorem take_ok (F G : Nat → Prop) (x y : Arr) (c0 c1 c2 c3 d0 d1 d2 d3 : Value) (w : World) (hx : ArrAt F w x c0 c1 c2 c3) (hy : ArrAt G w y d0 d1 d2 d3) (he : tkErr x y = 0) :
    Calls Try.prog 41 #[.agg #[c0, c1, c2, c3], .agg #[d0, d1, d2, d3]] w fun e w' =>
      ∃ e0 e1 e2 e3, e = .returned (.tuple #[.agg #[e0, e1, e2, e3], .int .i64 (takeV x y).2]) ∧ ArrAt (fun b => w.heap.size ≤ b) w' (takeV x y).1 e0 e1 e2 e3 ∧ Ext w w' := by
  obtain ⟨kx, sx, nx, ix⟩ := x
  obtain ⟨ky, sy, ny, iy⟩ := y
  have hx' := hx
  have hy' := hy
  unfold ArrAt at hx' hy'
  obtain ⟨rfl, hkx, ⟨q1, m1, rfl, ⟨o1, o1', o1''⟩, i1⟩, ⟨q2, m2, rfl, ⟨o2, o2', o2''⟩, i2⟩, ⟨q3, m3, rfl, ⟨o3, o3', o3''⟩, i3⟩⟩ := hx'
  obtain ⟨rfl, hky, ⟨r1, n1, rfl, ⟨p1, p1', p1''⟩, j1⟩, ⟨r2, n2, rfl, ⟨p2, p2', p2''⟩, j2⟩, ⟨r3, n3, rfl, ⟨p3, p3', p3''⟩, j3⟩⟩ := hy'
  have HX := Lib.hid hx
  have HY := Lib.hid (ArrAt.mono (G := fun b => G b ∧ b < w.heap.size) (fun b hb hlt => ⟨⟨hb, hlt⟩, rfl⟩) _ _ _ _ _ hy)
  have HNX := Lib.hid i2
  generalize hres : takeV (.mk kx sx nx ix) (.mk ky sy ny iy) = res
  have hr : takeV (.mk kx sx nx ix) (.mk ky sy ny iy) = res := hres
  unfold takeV at hr
  rw [if_neg (by simp [he])] at hr
  have hr2 : buildV (withL takeF nx (tkS (tkY nx.length (.mk ky sy ny iy)))) (takeFr nx (tkS (tkY nx.length (.mk ky sy ny iy)))) (tkY nx.length (.mk ky sy ny iy)) = res := hr
  have HE := Lib.hid he
  clear hx hy i1 i2 i3 j1 j2 j3 hres hr
  obtain ⟨kz, sz, nz, iz, hz⟩ : ∃ kz sz nz iz, tkY nx.length (.mk ky sy ny iy) = .mk kz sz nz iz := ⟨_, _, _, _, rfl⟩
  obtain ⟨hlz, h8, hrg, hkz, hnz, hiz, hnb⟩ := tkY_parts he hz
  rw [hz] at hr2
  have hr3 : buildV (withL takeF nx sz) (takeFr nx sz) (.mk kz sz nz iz) = res := hr2
  have HZ := Lib.hid hz
  have HRES := Lib.hid hr3
  have HRG := Lib.hid hrg
  have HKZ := Lib.hid hkz
  have HNZ := Lib.hid hnz
  have HIZ := Lib.hid hiz
  have HNB := Lib.hid hnb
  have HSB := Lib.hid (rightGo_nonneg sz 1 hrg)
  have hl8 : nx.length ≤ 8 := by omega
  clear hr2 hr3 hz hrg hkz hnz hiz hnb he
  go_enter Try.func41, Try.ntmps41
  go_wp2_with fail
  have hE0 : Ext w (((w.alloc (.cells #[.int .i64 kx, .slice q1 sx.length m1, .slice q2 nx.length m2, .slice q3 ix.length m3] 26)).alloc (.cells #[.int .i64 ky, .slice r1 sy.length n1, .slice r2 ny.length n2, .slice r3 iy.length n3] 26)).alloc (.cells #[.int .i64 0, .slice none 0 0, .slice none 0 0, .slice none 0 0] 26)) := (((Ext.refl _).alloc _).alloc _).alloc _
  have hBX := ((box_new w (.int .i64 kx) (.slice q1 sx.length m1) (.slice q2 nx.length m2) (.slice q3 ix.length m3)).ext ((Ext.refl _).alloc (.cells #[.int .i64 ky, .slice r1 sy.length n1, .slice r2 ny.length n2, .slice r3 iy.length n3] 26))).ext ((Ext.refl _).alloc (.cells #[.int .i64 0, .slice none 0 0, .slice none 0 0, .slice none 0 0] 26))
  have hBY := (box_new (w.alloc (.cells #[.int .i64 kx, .slice q1 sx.length m1, .slice q2 nx.length m2, .slice q3 ix.length m3] 26)) (.int .i64 ky) (.slice r1 sy.length n1) (.slice r2 ny.length n2) (.slice r3 iy.length n3)).ext ((Ext.refl _).alloc (.cells #[.int .i64 0, .slice none 0 0, .slice none 0 0, .slice none 0 0] 26))
  have hBZ := box_new ((w.alloc (.cells #[.int .i64 kx, .slice q1 sx.length m1, .slice q2 nx.length m2, .slice q3 ix.length m3] 26)).alloc (.cells #[.int .i64 ky, .slice r1 sy.length n1, .slice r2 ny.length n2, .slice r3 iy.length n3] 26)) (.int .i64 0) (.slice none 0 0) (.slice none 0 0) (.slice none 0 0)
  have hsz1 : (((w.alloc (.cells #[.int .i64 kx, .slice q1 sx.length m1, .slice q2 nx.length m2, .slice q3 ix.length m3] 26)).alloc (.cells #[.int .i64 ky, .slice r1 sy.length n1, .slice r2 ny.length n2, .slice r3 iy.length n3] 26)).alloc (.cells #[.int .i64 0, .slice none 0 0, .slice none 0 0, .slice none 0 0] 26)).heap.size = w.heap.size + 3 := by simp
  rw [World.size_alloc] at hBY
  rw [World.size_alloc, World.size_alloc] at hBZ
  generalize (((w.alloc (.cells #[.int .i64 kx, .slice q1 sx.length m1, .slice q2 nx.length m2, .slice q3 ix.length m3] 26)).alloc (.cells #[.int .i64 ky, .slice r1 sy.length n1, .slice r2 ny.length n2, .slice r3 iy.length n3] 26)).alloc (.cells #[.int .i64 0, .slice none 0 0, .slice none 0 0, .slice none 0 0] 26)) = w1 at hE0 hBX hBY hBZ hsz1 ⊢
  refine (tkcheck_ok F _ _ _ q2 m2 kx sx nx ix _ _ _ _ _ _ _ w1 rfl (HX.out.ext hE0) (HY.out.ext hE0) HE.out).mono ?_
  rintro e w2 ⟨e0, e1, e2, e3, rfl, hA, hE1⟩
  rw [HZ.out] at hA
  have hE2 := hE0.trans hE1
  replace hBY := hBY.ext hE1
  replace hBZ := hBZ.ext hE1
  have hlt2 := hBZ.lt
  have hltY := hBY.lt
  obtain ⟨t0, t1, t2, t3⟩ := hBY.cell
  have g0 := hBY.free 0
  have g1 := hBY.free 1
  have g2 := hBY.free 2
  have g3 := hBY.free 3
  have hA' := hA
  unfold ArrAt at hA'
  obtain ⟨rfl, hkz', ⟨v1, k1, rfl, ⟨s1, s1', s1''⟩, l1⟩, ⟨v2, k2, rfl, ⟨s2, s2', s2''⟩, l2⟩, ⟨v3, k3, rfl, ⟨s3, s3', s3''⟩, l3⟩⟩ := hA'
  obtain ⟨a1, a2, a3⟩ := hBY.put4 hE2 (by omega) (.int .i64 kz) (.slice v1 sz.length k1) (.slice v2 nz.length k2) (.slice v3 iz.length k3)
  have hBZ3 := hBZ.kept (a3 (w.heap.size + 1 + 1) (by omega))
  go_wp2_with fail
  have hS3 := (l1.mono (G := fun _ => True) (fun b hb _ => ⟨trivial, a3 b (by rcases hb with hb | hb <;> omega)⟩)).ext ((Ext.refl _).alloc (.cells #[.slice q2 nx.length m2] 23))
  have hA3 := (ArrAt.mono (G := fun _ => True) (fun b hb _ => ⟨trivial, a3 b (by rcases hb with hb | hb <;> omega)⟩) _ _ _ _ _ hA).ext ((Ext.refl _).alloc (.cells #[.slice q2 nx.length m2] 23))
  have hEA := a1.alloc (.cells #[.slice q2 nx.length m2] 23)
  have hBYA := a2.ext ((Ext.refl _).alloc (.cells #[.slice q2 nx.length m2] 23))
  have hBZA := hBZ3.ext ((Ext.refl _).alloc (.cells #[.slice q2 nx.length m2] 23))
  have hbc : ((((((w2.setCell ⟨w.heap.size + 1, 0, none⟩ (.int .i64 kz)).setCell ⟨w.heap.size + 1, 1, none⟩ (.slice v1 sz.length k1)).setCell ⟨w.heap.size + 1, 2, none⟩ (.slice v2 nz.length k2)).setCell ⟨w.heap.size + 1, 3, none⟩ (.slice v3 iz.length k3))).alloc (.cells #[.slice q2 nx.length m2] 23)).cell? ⟨w2.heap.size, 0, none⟩ = some (.slice q2 nx.length m2) := by
    have aux : ∀ v : World, v.heap.size = w2.heap.size → (v.alloc (.cells #[.slice q2 nx.length m2] 23)).cell? ⟨w2.heap.size, 0, none⟩ = some (.slice q2 nx.length m2) := fun v e => by rw [← e]; simp
    exact aux _ (by simp [World.setCell])
  clear a1 a2 a3 t0 t1 t2 t3 g0 g1 g2 g3 l1 l2 l3 hA hBY hBZ hBZ3 hE1 hE2
  generalize (((((w2.setCell ⟨w.heap.size + 1, 0, none⟩ (.int .i64 kz)).setCell ⟨w.heap.size + 1, 1, none⟩ (.slice v1 sz.length k1)).setCell ⟨w.heap.size + 1, 2, none⟩ (.slice v2 nz.length k2)).setCell ⟨w.heap.size + 1, 3, none⟩ (.slice v3 iz.length k3))).alloc (.cells #[.slice q2 nx.length m2] 23) = wA at hS3 hA3 hEA hBYA hBZA hbc ⊢
  have hltZ := hBZA.lt
  generalize w2.heap.size = bc at *
  refine (clone_ints _ v1 k1 sz wA hS3 (by unfold lenMax; omega)).mono ?_
  rintro e w3 ⟨vv, rfl, hOw, hE3⟩
  obtain ⟨ps, cs, rfl, hcs⟩ := hOw.form
  have HS3 := Lib.hid hS3
  have HA3 := Lib.hid hA3
  have HEA := Lib.hid hEA
  have HBY := Lib.hid hBYA
  have HBZ := Lib.hid hBZA
  have HBC := Lib.hid hbc
  have HOW := Lib.hid hOw
  have hbc3 := hE3.cell hbc
  clear hS3 hA3 hBYA hBZA hbc hOw
  go_wp2_with fail
  go_loopw [27] (fun i wq => ∃ (q : Nat), q ≤ nx.length ∧ i = .int .i64 q ∧ Ext wA wq ∧ OwnI wA.heap.size (fun _ => False) wq (.slice ps sz.length cs) sz.length (withL takeF (nx.take q) sz)) (fun i _ => nx.length - (intOf i).toNat)
  case atStart => exact ⟨0, Nat.zero_le _, rfl, hE3, by rw [List.take_zero, withL_nil]; exact HOW.out⟩
  case round =>
    obtain ⟨q, hq, rfl, hEq, hOq⟩ := hrel
    clear HOW hE3 hbc3
    by_cases hlq : q < nx.length
    · obtain ⟨b1, f1, rfl, ax, _, _⟩ := (HNX.out.ext (hEA.trans hEq)).get hlq
      obtain ⟨g, rfl, hgB, hgl, hgc, hgf, hset⟩ := hOq.at' (j := q) (by omega)
      have HST := Lib.hid (withL_set takeF nx sz q hlq hlz)
      rw [withL_getD takeF _ _ q (by simp; omega)] at hgc
      have hnb := getD_mem HNB.out hlq
      have hsb := getD_mem HSB.out (show q < sz.length by omega)
      generalize nx.getD q 0 = n at *
      generalize sz.getD q 0 = y at *
      go_wp2_with fail
      refine (tkabs_any n _ (by omega) (by omega)).mono ?_
      rintro e w8 ⟨rfl, rfl⟩
      go_wp2_with fail
      go_roundw
      case rel => exact ⟨q + 1, by omega, by go_num, hEq.setCell (p := ⟨g, q, none⟩) hgB _, by have h5 := hset (takeF n y) (by unfold takeF; omega); rw [HST.out] at h5; exact h5⟩
      case measure => simp [intOf]; omega
    · obtain rfl : q = nx.length := by omega
      rw [List.take_length] at hOq
      have hE4 := hEA.trans hEq
      have hwl := withL_len takeF nx sz
      generalize hsv : withL takeF nx sz = s at *
      have HSV := Lib.hid hsv
      obtain ⟨p', c', he', hk', hi'⟩ := hOq.ints
      rw [hwl] at he'
      simp only [Value.slice.injEq] at he'
      obtain ⟨rfl, _, rfl⟩ := he'
      obtain ⟨s0, s1, s2, s3⟩ := (HBY.out.ext hEq).cell
      have hltY := (HBY.out.ext hEq).lt
      have hltA := hEq.lt
      have hb := build_any 70 #[.pointer (some ⟨bc, 0, none⟩), .pointer (some ⟨w.heap.size + 1, 0, none⟩)] (takeFr nx sz) (fun b => wA.heap.size ≤ b ∧ ¬ False) (fun _ => True) ps cs s sz kz nz iz _ _ _ _ wr takeVFn_enter
        (fun w' hE a i ha h0 h1 => by
          have := takeFn_any F (fun _ => True) bc (w.heap.size + 1) a m2 k1 q2 v1 nx sz _ _ _ i w' ((hEq.trans hE).cell HBC.out) (HBY.out.ext (hEq.trans hE)) (HNX.out.ext (hE4.trans hE)) (HS3.out.ext (hEq.trans hE)) hl8 h8 (by rw [← hwl]; exact ha) h0 h1 (fun x hx => by have := HNB.out x hx; omega) HSB.out
          simpa using this)
        (fun a i ha h0 h1 => by
          have h2 : ∀ j, j < nx.length → -4611686018427387903 ≤ nx.getD j 0 ∧ nx.getD j 0 ≤ 4611686018427387903 := fun j hj => getD_mem HNB.out hj
          have h3 : ∀ j, j < sz.length → 0 ≤ sz.getD j 0 ∧ sz.getD j 0 ≤ 65536 := fun j hj => getD_mem HSB.out hj
          unfold takeFr
          split
          · rename_i hc
            have := h2 a hc.1
            have := h3 a (by omega)
            omega
          · omega)
        hi' hk' (HA3.out.ext hEq) hwl h8 HKZ.out HRG.out HNZ.out HIZ.out
      rw [hwl] at hb
      clear hsv hi' hk'
      go_wp2_with fail
      refine hb.mono ?_
      rintro e w9 ⟨x0, x1, x2, x3, rfl, hAo, hE5⟩
      rw [HRES.out] at hAo
      rw [HRES.out]
      obtain ⟨ko, u1, w1', a1', u2, w2', a2', u3, w3', a3', rfl, rfl, rfl, rfl⟩ := hAo.form
      have hBZ9 := (HBZ.out.ext hEq).ext hE5
      have hE9 := hE4.trans hE5
      have hl9 := hBZ9.lt
      obtain ⟨y0, y1, y2, y3⟩ := hBZ9.cell
      have e0 := hBZ9.free 0
      have e1 := hBZ9.free 1
      have e2 := hBZ9.free 2
      have e3 := hBZ9.free 3
      clear hb s0 s1 s2 s3
      go_wp2_with fail
      obtain ⟨gg1, gg2, gg3⟩ := hBZ9.put4 hE9 (by omega) (.int .i64 ko) (.slice u1 w1' a1') (.slice u2 w2' a2') (.slice u3 w3' a3')
      revert gg1 gg2 gg3
      generalize ((((w9.setCell ⟨w.heap.size + 1 + 1, 0, none⟩ (.int .i64 ko)).setCell ⟨w.heap.size + 1 + 1, 1, none⟩ (.slice u1 w1' a1')).setCell ⟨w.heap.size + 1 + 1, 2, none⟩ (.slice u2 w2' a2')).setCell ⟨w.heap.size + 1 + 1, 3, none⟩ (.slice u3 w3' a3')) = wz
      intro gg1 gg2 gg3
      obtain ⟨z0, z1, z2, z3⟩ := gg2.cell
      have hA9 := ArrAt.mono (G := fun b => w.heap.size ≤ b) (w' := wz) (fun b hb _ => ⟨by rcases hb with hb | hb <;> omega, gg3 b (by rcases hb with hb | hb <;> omega)⟩) _ _ _ _ _ hAo
      refine bodyPost_ret (v := .tuple #[.agg #[(.int .i64 ko), (.slice u1 w1' a1'), (.slice u2 w2' a2'), (.slice u3 w3' a3')], .int .i64 res.2]) ?_ rfl ⟨_, _, _, _, rfl, hA9, gg1⟩
      simp [results, Try.results41, go_sem, z0, z1, z2, z3]

theorem dropVFn_enter (args : Array Value) (w : World) : (callFunc 75 args).run Try.prog w = .ok (.enter 75 args) w := by go_simp

set_option maxRecDepth 100000 in
set_option maxHeartbeats 8000000 in
theorem drop_err (F G : Nat → Prop) (x y : Arr) (c0 c1 c2 c3 d0 d1 d2 d3 : Value) (w : World) (hx : ArrAt F w x c0 c1 c2 c3) (hy : ArrAt G w y d0 d1 d2 d3) (he : tkErr x y ≠ 0) :
    Calls Try.prog 44 #[.agg #[c0, c1, c2, c3], .agg #[d0, d1, d2, d3]] w fun e w' =>
      ∃ e0 e1 e2 e3, e = .returned (.tuple #[.agg #[e0, e1, e2, e3], .int .i64 (dropV x y).2]) ∧ ArrAt (fun b => w.heap.size ≤ b) w' (dropV x y).1 e0 e1 e2 e3 ∧ Ext w w' := by
  obtain ⟨kx, sx, nx, ix⟩ := x
  obtain ⟨ky, sy, ny, iy⟩ := y
  have hx' := hx
  have hy' := hy
  unfold ArrAt at hx' hy'
  obtain ⟨rfl, hkx, ⟨q1, m1, rfl, ⟨o1, o1', o1''⟩, i1⟩, ⟨q2, m2, rfl, ⟨o2, o2', o2''⟩, i2⟩, ⟨q3, m3, rfl, ⟨o3, o3', o3''⟩, i3⟩⟩ := hx'
  obtain ⟨rfl, hky, ⟨r1, n1, rfl, ⟨p1, p1', p1''⟩, j1⟩, ⟨r2, n2, rfl, ⟨p2, p2', p2''⟩, j2⟩, ⟨r3, n3, rfl, ⟨p3, p3', p3''⟩, j3⟩⟩ := hy'
  have HX := Lib.hid hx
  have HY := Lib.hid hy
  generalize hres : dropV (.mk kx sx nx ix) (.mk ky sy ny iy) = res
  have hr := hres
  unfold dropV at hr
  rw [if_pos he] at hr
  have HE := Lib.hid he
  clear hx hy i1 i2 i3 j1 j2 j3 hres
  generalize hev : tkErr (.mk kx sx nx ix) (.mk ky sy ny iy) = ev at *
  have HEV := Lib.hid hev
  have HRES := Lib.hid hr
  clear hev hr
  have hev0 : (ev != 0) = true := by simpa using he
  clear he
  go_enter Try.func44, Try.ntmps44
  go_wp2_with fail
  have hE0 : Ext w (((w.alloc (.cells #[.int .i64 kx, .slice q1 sx.length m1, .slice q2 nx.length m2, .slice q3 ix.length m3] 26)).alloc (.cells #[.int .i64 ky, .slice r1 sy.length n1, .slice r2 ny.length n2, .slice r3 iy.length n3] 26)).alloc (.cells #[.int .i64 0, .slice none 0 0, .slice none 0 0, .slice none 0 0] 26)) := (((Ext.refl _).alloc _).alloc _).alloc _
  have hBX := ((box_new w (.int .i64 kx) (.slice q1 sx.length m1) (.slice q2 nx.length m2) (.slice q3 ix.length m3)).ext ((Ext.refl _).alloc (.cells #[.int .i64 ky, .slice r1 sy.length n1, .slice r2 ny.length n2, .slice r3 iy.length n3] 26))).ext ((Ext.refl _).alloc (.cells #[.int .i64 0, .slice none 0 0, .slice none 0 0, .slice none 0 0] 26))
  have hBY := (box_new (w.alloc (.cells #[.int .i64 kx, .slice q1 sx.length m1, .slice q2 nx.length m2, .slice q3 ix.length m3] 26)) (.int .i64 ky) (.slice r1 sy.length n1) (.slice r2 ny.length n2) (.slice r3 iy.length n3)).ext ((Ext.refl _).alloc (.cells #[.int .i64 0, .slice none 0 0, .slice none 0 0, .slice none 0 0] 26))
  have hBZ := box_new ((w.alloc (.cells #[.int .i64 kx, .slice q1 sx.length m1, .slice q2 nx.length m2, .slice q3 ix.length m3] 26)).alloc (.cells #[.int .i64 ky, .slice r1 sy.length n1, .slice r2 ny.length n2, .slice r3 iy.length n3] 26)) (.int .i64 0) (.slice none 0 0) (.slice none 0 0) (.slice none 0 0)
  rw [World.size_alloc] at hBY
  rw [World.size_alloc, World.size_alloc] at hBZ
  generalize (((w.alloc (.cells #[.int .i64 kx, .slice q1 sx.length m1, .slice q2 nx.length m2, .slice q3 ix.length m3] 26)).alloc (.cells #[.int .i64 ky, .slice r1 sy.length n1, .slice r2 ny.length n2, .slice r3 iy.length n3] 26)).alloc (.cells #[.int .i64 0, .slice none 0 0, .slice none 0 0, .slice none 0 0] 26)) = w1 at hE0 hBX hBY hBZ ⊢
  refine (tkcheck_err F G _ _ _ _ _ _ _ _ _ _ w1 (HX.out.ext hE0) (HY.out.ext hE0) (by rw [HEV.out]; exact HE.out)).mono ?_
  rintro e w2 ⟨rfl, hE1⟩
  rw [HEV.out]
  have hE2 := hE0.trans hE1
  replace hBY := hBY.ext hE1
  replace hBZ := hBZ.ext hE1
  have hlt2 := hBZ.lt
  have hltY := hBY.lt
  obtain ⟨t0, t1, t2, t3⟩ := hBY.cell
  have g0 := hBY.free 0
  have g1 := hBY.free 1
  have g2 := hBY.free 2
  have g3 := hBY.free 3
  obtain ⟨x0, x1, x2, x3⟩ := hBZ.cell
  have f0 := hBZ.free 0
  have f1 := hBZ.free 1
  have f2 := hBZ.free 2
  have f3 := hBZ.free 3
  go_wp2_with fail
  obtain ⟨a1, a2, a3⟩ := hBY.put4 hE2 (by omega) (.int .i64 0) (.slice none 0 0) (.slice none 0 0) (.slice none 0 0)
  have hBZ3 := hBZ.kept (a3 (w.heap.size + 1 + 1) (by omega))
  obtain ⟨b1, b2, b3⟩ := hBZ3.put4 a1 (by omega) (.int .i64 0) (.slice none 0 0) (.slice none 0 0) (.slice none 0 0)
  have gg1 := b1.alloc (.cells #[.slice none 0 0] 23)
  have gg2 := b2.ext ((Ext.refl _).alloc (.cells #[.slice none 0 0] 23))
  revert gg1 gg2
  generalize (((((((((w2.setCell ⟨w.heap.size + 1, 0, none⟩ (.int .i64 0)).setCell ⟨w.heap.size + 1, 1, none⟩ (.slice none 0 0)).setCell ⟨w.heap.size + 1, 2, none⟩ (.slice none 0 0)).setCell ⟨w.heap.size + 1, 3, none⟩ (.slice none 0 0)).setCell ⟨w.heap.size + 1 + 1, 0, none⟩ (.int .i64 0)).setCell ⟨w.heap.size + 1 + 1, 1, none⟩ (.slice none 0 0)).setCell ⟨w.heap.size + 1 + 1, 2, none⟩ (.slice none 0 0)).setCell ⟨w.heap.size + 1 + 1, 3, none⟩ (.slice none 0 0))).alloc (.cells #[.slice none 0 0] 23) = w9
  intro gg1 gg2
  obtain ⟨z0, z1, z2, z3⟩ := gg2.cell
  refine bodyPost_ret (v := .tuple #[.agg #[(.int .i64 0), (.slice none 0 0), (.slice none 0 0), (.slice none 0 0)], .int .i64 ev]) ?_ rfl ⟨_, _, _, _, by rw [← HRES.out], by rw [← HRES.out]; exact Arr.zero_at _ _, gg1⟩
  simp [results, Try.results44, go_sem, z0, z1, z2, z3]

set_option maxRecDepth 100000 in
set_option maxHeartbeats 8000000 in
theorem drop_ok (F G : Nat → Prop) (x y : Arr) (c0 c1 c2 c3 d0 d1 d2 d3 : Value) (w : World) (hx : ArrAt F w x c0 c1 c2 c3) (hy : ArrAt G w y d0 d1 d2 d3) (he : tkErr x y = 0) :
    Calls Try.prog 44 #[.agg #[c0, c1, c2, c3], .agg #[d0, d1, d2, d3]] w fun e w' =>
      ∃ e0 e1 e2 e3, e = .returned (.tuple #[.agg #[e0, e1, e2, e3], .int .i64 (dropV x y).2]) ∧ ArrAt (fun b => w.heap.size ≤ b) w' (dropV x y).1 e0 e1 e2 e3 ∧ Ext w w' := by
  obtain ⟨kx, sx, nx, ix⟩ := x
  obtain ⟨ky, sy, ny, iy⟩ := y
  have hx' := hx
  have hy' := hy
  unfold ArrAt at hx' hy'
  obtain ⟨rfl, hkx, ⟨q1, m1, rfl, ⟨o1, o1', o1''⟩, i1⟩, ⟨q2, m2, rfl, ⟨o2, o2', o2''⟩, i2⟩, ⟨q3, m3, rfl, ⟨o3, o3', o3''⟩, i3⟩⟩ := hx'
  obtain ⟨rfl, hky, ⟨r1, n1, rfl, ⟨p1, p1', p1''⟩, j1⟩, ⟨r2, n2, rfl, ⟨p2, p2', p2''⟩, j2⟩, ⟨r3, n3, rfl, ⟨p3, p3', p3''⟩, j3⟩⟩ := hy'
  have HX := Lib.hid hx
  have HY := Lib.hid (ArrAt.mono (G := fun b => G b ∧ b < w.heap.size) (fun b hb hlt => ⟨⟨hb, hlt⟩, rfl⟩) _ _ _ _ _ hy)
  have HNX := Lib.hid i2
  generalize hres : dropV (.mk kx sx nx ix) (.mk ky sy ny iy) = res
  have hr : dropV (.mk kx sx nx ix) (.mk ky sy ny iy) = res := hres
  unfold dropV at hr
  rw [if_neg (by simp [he])] at hr
  have hr2 : buildV (withL dropF nx (tkS (tkY nx.length (.mk ky sy ny iy)))) (dropFr nx) (tkY nx.length (.mk ky sy ny iy)) = res := hr
  have HE := Lib.hid he
  clear hx hy i1 i2 i3 j1 j2 j3 hres hr
  obtain ⟨kz, sz, nz, iz, hz⟩ : ∃ kz sz nz iz, tkY nx.length (.mk ky sy ny iy) = .mk kz sz nz iz := ⟨_, _, _, _, rfl⟩
  obtain ⟨hlz, h8, hrg, hkz, hnz, hiz, hnb⟩ := tkY_parts he hz
  rw [hz] at hr2
  have hr3 : buildV (withL dropF nx sz) (dropFr nx) (.mk kz sz nz iz) = res := hr2
  have HZ := Lib.hid hz
  have HRES := Lib.hid hr3
  have HRG := Lib.hid hrg
  have HKZ := Lib.hid hkz
  have HNZ := Lib.hid hnz
  have HIZ := Lib.hid hiz
  have HNB := Lib.hid hnb
  have HSB := Lib.hid (rightGo_nonneg sz 1 hrg)
  have hl8 : nx.length ≤ 8 := by omega
  clear hr2 hr3 hz hrg hkz hnz hiz hnb he
  go_enter Try.func44, Try.ntmps44
  go_wp2_with fail
  have hE0 : Ext w (((w.alloc (.cells #[.int .i64 kx, .slice q1 sx.length m1, .slice q2 nx.length m2, .slice q3 ix.length m3] 26)).alloc (.cells #[.int .i64 ky, .slice r1 sy.length n1, .slice r2 ny.length n2, .slice r3 iy.length n3] 26)).alloc (.cells #[.int .i64 0, .slice none 0 0, .slice none 0 0, .slice none 0 0] 26)) := (((Ext.refl _).alloc _).alloc _).alloc _
  have hBX := ((box_new w (.int .i64 kx) (.slice q1 sx.length m1) (.slice q2 nx.length m2) (.slice q3 ix.length m3)).ext ((Ext.refl _).alloc (.cells #[.int .i64 ky, .slice r1 sy.length n1, .slice r2 ny.length n2, .slice r3 iy.length n3] 26))).ext ((Ext.refl _).alloc (.cells #[.int .i64 0, .slice none 0 0, .slice none 0 0, .slice none 0 0] 26))
  have hBY := (box_new (w.alloc (.cells #[.int .i64 kx, .slice q1 sx.length m1, .slice q2 nx.length m2, .slice q3 ix.length m3] 26)) (.int .i64 ky) (.slice r1 sy.length n1) (.slice r2 ny.length n2) (.slice r3 iy.length n3)).ext ((Ext.refl _).alloc (.cells #[.int .i64 0, .slice none 0 0, .slice none 0 0, .slice none 0 0] 26))
  have hBZ := box_new ((w.alloc (.cells #[.int .i64 kx, .slice q1 sx.length m1, .slice q2 nx.length m2, .slice q3 ix.length m3] 26)).alloc (.cells #[.int .i64 ky, .slice r1 sy.length n1, .slice r2 ny.length n2, .slice r3 iy.length n3] 26)) (.int .i64 0) (.slice none 0 0) (.slice none 0 0) (.slice none 0 0)
  have hsz1 : (((w.alloc (.cells #[.int .i64 kx, .slice q1 sx.length m1, .slice q2 nx.length m2, .slice q3 ix.length m3] 26)).alloc (.cells #[.int .i64 ky, .slice r1 sy.length n1, .slice r2 ny.length n2, .slice r3 iy.length n3] 26)).alloc (.cells #[.int .i64 0, .slice none 0 0, .slice none 0 0, .slice none 0 0] 26)).heap.size = w.heap.size + 3 := by simp
  rw [World.size_alloc] at hBY
  rw [World.size_alloc, World.size_alloc] at hBZ
  generalize (((w.alloc (.cells #[.int .i64 kx, .slice q1 sx.length m1, .slice q2 nx.length m2, .slice q3 ix.length m3] 26)).alloc (.cells #[.int .i64 ky, .slice r1 sy.length n1, .slice r2 ny.length n2, .slice r3 iy.length n3] 26)).alloc (.cells #[.int .i64 0, .slice none 0 0, .slice none 0 0, .slice none 0 0] 26)) = w1 at hE0 hBX hBY hBZ hsz1 ⊢
  refine (tkcheck_ok F _ _ _ q2 m2 kx sx nx ix _ _ _ _ _ _ _ w1 rfl (HX.out.ext hE0) (HY.out.ext hE0) HE.out).mono ?_
  rintro e w2 ⟨e0, e1, e2, e3, rfl, hA, hE1⟩
  rw [HZ.out] at hA
  have hE2 := hE0.trans hE1
  replace hBY := hBY.ext hE1
  replace hBZ := hBZ.ext hE1
  have hlt2 := hBZ.lt
  have hltY := hBY.lt
  obtain ⟨t0, t1, t2, t3⟩ := hBY.cell
  have g0 := hBY.free 0
  have g1 := hBY.free 1
  have g2 := hBY.free 2
  have g3 := hBY.free 3
  have hA' := hA
  unfold ArrAt at hA'
  obtain ⟨rfl, hkz', ⟨v1, k1, rfl, ⟨s1, s1', s1''⟩, l1⟩, ⟨v2, k2, rfl, ⟨s2, s2', s2''⟩, l2⟩, ⟨v3, k3, rfl, ⟨s3, s3', s3''⟩, l3⟩⟩ := hA'
  obtain ⟨a1, a2, a3⟩ := hBY.put4 hE2 (by omega) (.int .i64 kz) (.slice v1 sz.length k1) (.slice v2 nz.length k2) (.slice v3 iz.length k3)
  have hBZ3 := hBZ.kept (a3 (w.heap.size + 1 + 1) (by omega))
  go_wp2_with fail
  have hS3 := (l1.mono (G := fun _ => True) (fun b hb _ => ⟨trivial, a3 b (by rcases hb with hb | hb <;> omega)⟩)).ext ((Ext.refl _).alloc (.cells #[.slice q2 nx.length m2] 23))
  have hA3 := (ArrAt.mono (G := fun _ => True) (fun b hb _ => ⟨trivial, a3 b (by rcases hb with hb | hb <;> omega)⟩) _ _ _ _ _ hA).ext ((Ext.refl _).alloc (.cells #[.slice q2 nx.length m2] 23))
  have hEA := a1.alloc (.cells #[.slice q2 nx.length m2] 23)
  have hBYA := a2.ext ((Ext.refl _).alloc (.cells #[.slice q2 nx.length m2] 23))
  have hBZA := hBZ3.ext ((Ext.refl _).alloc (.cells #[.slice q2 nx.length m2] 23))
  have hbc : ((((((w2.setCell ⟨w.heap.size + 1, 0, none⟩ (.int .i64 kz)).setCell ⟨w.heap.size + 1, 1, none⟩ (.slice v1 sz.length k1)).setCell ⟨w.heap.size + 1, 2, none⟩ (.slice v2 nz.length k2)).setCell ⟨w.heap.size + 1, 3, none⟩ (.slice v3 iz.length k3))).alloc (.cells #[.slice q2 nx.length m2] 23)).cell? ⟨w2.heap.size, 0, none⟩ = some (.slice q2 nx.length m2) := by
    have aux : ∀ v : World, v.heap.size = w2.heap.size → (v.alloc (.cells #[.slice q2 nx.length m2] 23)).cell? ⟨w2.heap.size, 0, none⟩ = some (.slice q2 nx.length m2) := fun v e => by rw [← e]; simp
    exact aux _ (by simp [World.setCell])
  clear a1 a2 a3 t0 t1 t2 t3 g0 g1 g2 g3 l1 l2 l3 hA hBY hBZ hBZ3 hE1 hE2
  generalize (((((w2.setCell ⟨w.heap.size + 1, 0, none⟩ (.int .i64 kz)).setCell ⟨w.heap.size + 1, 1, none⟩ (.slice v1 sz.length k1)).setCell ⟨w.heap.size + 1, 2, none⟩ (.slice v2 nz.length k2)).setCell ⟨w.heap.size + 1, 3, none⟩ (.slice v3 iz.length k3))).alloc (.cells #[.slice q2 nx.length m2] 23) = wA at hS3 hA3 hEA hBYA hBZA hbc ⊢
  have hltZ := hBZA.lt
  generalize w2.heap.size = bc at *
  refine (clone_ints _ v1 k1 sz wA hS3 (by unfold lenMax; omega)).mono ?_
  rintro e w3 ⟨vv, rfl, hOw, hE3⟩
  obtain ⟨ps, cs, rfl, hcs⟩ := hOw.form
  have HS3 := Lib.hid hS3
  have HA3 := Lib.hid hA3
  have HEA := Lib.hid hEA
  have HBY := Lib.hid hBYA
  have HBZ := Lib.hid hBZA
  have HBC := Lib.hid hbc
  have HOW := Lib.hid hOw
  have hbc3 := hE3.cell hbc
  clear hS3 hA3 hBYA hBZA hbc hOw
  go_wp2_with fail
  go_loopw [27] (fun i wq => ∃ (q : Nat), q ≤ nx.length ∧ i = .int .i64 q ∧ Ext wA wq ∧ OwnI wA.heap.size (fun _ => False) wq (.slice ps sz.length cs) sz.length (withL dropF (nx.take q) sz)) (fun i _ => nx.length - (intOf i).toNat)
  case atStart => exact ⟨0, Nat.zero_le _, rfl, hE3, by rw [List.take_zero, withL_nil]; exact HOW.out⟩
  case round =>
    obtain ⟨q, hq, rfl, hEq, hOq⟩ := hrel
    clear HOW hE3 hbc3
    by_cases hlq : q < nx.length
    · obtain ⟨b1, f1, rfl, ax, _, _⟩ := (HNX.out.ext (hEA.trans hEq)).get hlq
      obtain ⟨g, rfl, hgB, hgl, hgc, hgf, hset⟩ := hOq.at' (j := q) (by omega)
      have HST := Lib.hid (withL_set dropF nx sz q hlq hlz)
      rw [withL_getD dropF _ _ q (by simp; omega)] at hgc
      have hnb := getD_mem HNB.out hlq
      have hsb := getD_mem HSB.out (show q < sz.length by omega)
      generalize nx.getD q 0 = n at *
      generalize sz.getD q 0 = y at *
      have hqs : q < sz.length := by omega
      go_wp2_with fail
      have hS0 : Ext wA wr.drew ∧ wr.drew.cell? ⟨g, q, none⟩ = some (.int .i64 y) ∧ wr.drew.frozen? ⟨g, q, none⟩ = false := ⟨hEq.drew, by simpa using hgc, by simpa using hgf⟩
      refine wp_region_g [0, 1, 2, 3, 4, 5, 6] [7, 8, 9, 10, 11] (fun w' => Ext wA w' ∧ w'.cell? ⟨g, q, none⟩ = some (.int .i64 y) ∧ w'.frozen? ⟨g, q, none⟩ = false) (by kernel_rfl) (by kernel_rfl) hS0 ?_
      iterate 7
        refine wpHead_cons (v := ?_) rfl (by rfl) (fun w' hS => ?_) ?_
        rotate_left
        · obtain ⟨hS1, hS2, hS3⟩ := hS
          go_simp
          try with_reducible rfl
        try simp only [Act.put, List.setIfInBounds_toArray, List.set]
      unfold wpHead
      refine wpTail_cons rfl (fun K hK => ?_)
      go_wp2_with fail
      refine (tkabs_any n _ (by omega) (by omega)).mono ?_
      rintro e w8 ⟨rfl, rfl⟩
      go_wp2_with fail
      refine hK _ _ hS0 ?_
      try simp only [Act.put, List.setIfInBounds_toArray, List.set]
      refine wpTail_cons rfl (fun K hK => ?_)
      go_wp2_with fail
      refine hK _ _ hS0 ?_
      try simp only [Act.put, List.setIfInBounds_toArray, List.set]
      refine wpTail_cons rfl (fun K hK => ?_)
      by_cases hneg : y - max n (-n) < 0
      · have hv : dropF n y = 0 := by unfold dropF; omega
        have h5 := hset 0 (by omega)
        have HST' := HST.out
        rw [hv] at HST'
        rw [HST'] at h5
        have h6 := Lib.hid h5
        clear h5 HST' hv
        go_wp2_with fail
        refine hK _ _ hS0 ?_
        try simp only [Act.put, List.setIfInBounds_toArray, List.set]
        obtain ⟨_, hS2, hS3⟩ := hS0
        refine wpTail_free2 rfl rfl (by kernel_rfl) ?_
        go_wp2_with fail
        refine OnlyN.mk ?_
        go_wp2_with fail
        exact ⟨⟨q + 1, by omega, by go_num, (hEq.setCell (p := ⟨g, q, none⟩) hgB _).drew, h6.out.ext ((Ext.refl _).drew)⟩, by simp [intOf]; omega⟩
      · have hv : dropF n y = (y - max n (-n)) := by unfold dropF; omega
        have h5 := hset (y - max n (-n)) (by omega)
        have HST' := HST.out
        rw [hv] at HST'
        rw [HST'] at h5
        have h6 := Lib.hid h5
        clear h5 HST' hv
        go_wp2_with fail
        refine hK _ _ hS0 ?_
        try simp only [Act.put, List.setIfInBounds_toArray, List.set]
        obtain ⟨_, hS2, hS3⟩ := hS0
        refine wpTail_free2 rfl rfl (by kernel_rfl) ?_
        go_wp2_with fail
        refine OnlyN.mk ?_
        go_wp2_with fail
        exact ⟨⟨q + 1, by omega, by go_num, (hEq.setCell (p := ⟨g, q, none⟩) hgB _).drew, h6.out.ext ((Ext.refl _).drew)⟩, by simp [intOf]; omega⟩
    · obtain rfl : q = nx.length := by omega
      rw [List.take_length] at hOq
      have hE4 := hEA.trans hEq
      have hwl := withL_len dropF nx sz
      generalize hsv : withL dropF nx sz = s at *
      have HSV := Lib.hid hsv
      obtain ⟨p', c', he', hk', hi'⟩ := hOq.ints
      rw [hwl] at he'
      simp only [Value.slice.injEq] at he'
      obtain ⟨rfl, _, rfl⟩ := he'
      obtain ⟨s0, s1, s2, s3⟩ := (HBY.out.ext hEq).cell
      have hltY := (HBY.out.ext hEq).lt
      have hltA := hEq.lt
      have hb := build_any 75 #[.pointer (some ⟨bc, 0, none⟩)] (dropFr nx) (fun b => wA.heap.size ≤ b ∧ ¬ False) (fun _ => True) ps cs s sz kz nz iz _ _ _ _ wr dropVFn_enter
        (fun w' hE a i ha h0 h1 => by
          have := dropFn_any F bc a m2 q2 nx i w' ((hEq.trans hE).cell HBC.out) (HNX.out.ext (hE4.trans hE)) hl8 h0 h1 (fun x hx => by have := HNB.out x hx; omega)
          simpa using this)
        (fun a i ha h0 h1 => by
          have h2 : ∀ j, j < nx.length → -4611686018427387903 ≤ nx.getD j 0 ∧ nx.getD j 0 ≤ 4611686018427387903 := fun j hj => getD_mem HNB.out hj
          have h3 : ∀ j, j < sz.length → 0 ≤ sz.getD j 0 ∧ sz.getD j 0 ≤ 65536 := fun j hj => getD_mem HSB.out hj
          unfold dropFr
          split
          · rename_i hc
            have := h2 a hc.1
            omega
          · omega)
        hi' hk' (HA3.out.ext hEq) hwl h8 HKZ.out HRG.out HNZ.out HIZ.out
      rw [hwl] at hb
      clear hsv hi' hk'
      go_wp2_with fail
      refine hb.mono ?_
      rintro e w9 ⟨x0, x1, x2, x3, rfl, hAo, hE5⟩
      rw [HRES.out] at hAo
      rw [HRES.out]
      obtain ⟨ko, u1, w1', a1', u2, w2', a2', u3, w3', a3', rfl, rfl, rfl, rfl⟩ := hAo.form
      have hBZ9 := (HBZ.out.ext hEq).ext hE5
      have hE9 := hE4.trans hE5
      have hl9 := hBZ9.lt
      obtain ⟨y0, y1, y2, y3⟩ := hBZ9.cell
      have e0 := hBZ9.free 0
      have e1 := hBZ9.free 1
      have e2 := hBZ9.free 2
      have e3 := hBZ9.free 3
      clear hb s0 s1 s2 s3
      go_wp2_with fail
      obtain ⟨gg1, gg2, gg3⟩ := hBZ9.put4 hE9 (by omega) (.int .i64 ko) (.slice u1 w1' a1') (.slice u2 w2' a2') (.slice u3 w3' a3')
      revert gg1 gg2 gg3
      generalize ((((w9.setCell ⟨w.heap.size + 1 + 1, 0, none⟩ (.int .i64 ko)).setCell ⟨w.heap.size + 1 + 1, 1, none⟩ (.slice u1 w1' a1')).setCell ⟨w.heap.size + 1 + 1, 2, none⟩ (.slice u2 w2' a2')).setCell ⟨w.heap.size + 1 + 1, 3, none⟩ (.slice u3 w3' a3')) = wz
      intro gg1 gg2 gg3
      obtain ⟨z0, z1, z2, z3⟩ := gg2.cell
      have hA9 := ArrAt.mono (G := fun b => w.heap.size ≤ b) (w' := wz) (fun b hb _ => ⟨by rcases hb with hb | hb <;> omega, gg3 b (by rcases hb with hb | hb <;> omega)⟩) _ _ _ _ _ hAo
      refine bodyPost_ret (v := .tuple #[.agg #[(.int .i64 ko), (.slice u1 w1' a1'), (.slice u2 w2' a2'), (.slice u3 w3' a3')], .int .i64 res.2]) ?_ rfl ⟨_, _, _, _, rfl, hA9, gg1⟩
      simp [results, Try.results44, go_sem, z0, z1, z2, z3]

theorem take_any (F G : Nat → Prop) (x y : Arr) (c0 c1 c2 c3 d0 d1 d2 d3 : Value) (w : World) (hx : ArrAt F w x c0 c1 c2 c3) (hy : ArrAt G w y d0 d1 d2 d3) :
    Calls Try.prog 41 #[.agg #[c0, c1, c2, c3], .agg #[d0, d1, d2, d3]] w fun e w' =>
      ∃ e0 e1 e2 e3, e = .returned (.tuple #[.agg #[e0, e1, e2, e3], .int .i64 (takeV x y).2]) ∧ ArrAt (fun b => w.heap.size ≤ b) w' (takeV x y).1 e0 e1 e2 e3 ∧ Ext w w' := by
  by_cases he : tkErr x y = 0
  · exact take_ok F G x y _ _ _ _ _ _ _ _ w hx hy he
  · exact take_err F G x y _ _ _ _ _ _ _ _ w hx hy he

theorem drop_any (F G : Nat → Prop) (x y : Arr) (c0 c1 c2 c3 d0 d1 d2 d3 : Value) (w : World) (hx : ArrAt F w x c0 c1 c2 c3) (hy : ArrAt G w y d0 d1 d2 d3) :
    Calls Try.prog 44 #[.agg #[c0, c1, c2, c3], .agg #[d0, d1, d2, d3]] w fun e w' =>
      ∃ e0 e1 e2 e3, e = .returned (.tuple #[.agg #[e0, e1, e2, e3], .int .i64 (dropV x y).2]) ∧ ArrAt (fun b => w.heap.size ≤ b) w' (dropV x y).1 e0 e1 e2 e3 ∧ Ext w w' := by
  by_cases he : tkErr x y = 0
  · exact drop_ok F G x y _ _ _ _ _ _ _ _ w hx hy he
  · exact drop_err F G x y _ _ _ _ _ _ _ _ w hx hy he
end Go.Proofs.Ytcmnlnamgnbemaa
