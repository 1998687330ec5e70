/-
  THE WALKS of the reference's Take and Drop (layer 19). (Printed by gen_rtake.py.)
-/
import Derived.Test.YtcmnlnamgnbemaaRMoved
import Derived.Test.YtcmnlnamgnbemaaCounts
import Derived.Test.YtcmnlnamgnbemaaSame
import Derived.Test.YtcmnlnamgnbemaaRegX
namespace Go.Proofs.Ytcmnlnamgnbemaa
set_option linter.unusedSimpArgs false
set_option linter.unusedVariables false
open Go.RowKit

theorem byL_bd (f : Int → Int → Int) (P : Int → Prop) : ∀ (l ys : List Int), (∀ n ∈ l, ∀ y ∈ ys, P (f n y)) → P 0 → ∀ x ∈ byL f l ys, P x
  | [], ys, _, h0, x, hx => by
    rw [byL_nil] at hx
    rw [(List.mem_replicate.1 hx).2]; exact h0
  | n :: r, [], _, h0, x, hx => by unfold byL at hx; cases hx
  | n :: r, y :: q, h, h0, x, hx => by
    rw [byL] at hx
    rcases List.mem_cons.1 hx with rfl | hx
    · exact h n (by simp) y (by simp)
    · exact byL_bd f P r q (fun n hn y hy => h n (by simp [hn]) y (by simp [hy])) h0 x hx
theorem set_self : ∀ (l : List Int) (j : Nat) (v : Int), l.getD j 0 = v → j < l.length → l.set j v = l
  | [], _, _, _, h => by simp at h
  | x :: r, 0, v, h, _ => by simp at h; simp [h]
  | x :: r, j + 1, v, h, hj => by
    rw [List.set_cons_succ, set_self r j v (by simpa using h) (by simpa using hj)]
theorem same_tr {w : World} {t : Arr} {v1 v2 x1 x2 : Value} (h1 : Rd w t v1) (h2 : Rd w t v2) (e1 : x1 = v1) (e2 : x2 = v2) : Calls Try.prog 22 #[x1, x2] w fun e w' => e = .returned (.bool true) ∧ Ext w w' := by
  subst e1 e2
  obtain ⟨F, c0, c1, c2, c3, rfl, hA⟩ := h1
  obtain ⟨G, d0, d1, d2, d3, rfl, hB⟩ := h2
  have h := same_any F G _ t t _ _ _ _ _ _ _ _ w (Nat.lt_succ_self _) hA hB
  rw [(sameV_eq t t).2 rfl] at h
  exact h
theorem max0_spelt (a : Int) : (if 0 < a then a else 0) = max 0 a := by split <;> omega

set_option maxRecDepth 100000 in
set_option maxHeartbeats 8000000 in
theorem rtake_err (F G : Nat → Prop) (x y : Arr) (c0 c1 c2 c3 d0 d1 d2 d3 : Value) (w : World) (hx : ArrAt F w x c0 c1 c2 c3) (hy : ArrAt G w y d0 d1 d2 d3) (he : tkErr x y ≠ 0) :
    Calls Try.prog 42 #[.agg #[c0, c1, c2, c3], .agg #[d0, d1, d2, d3]] w fun e w' =>
      ∃ e0 e1 e2 e3, e = .returned (.tuple #[.agg #[e0, e1, e2, e3], .int .i64 (rtakeV x y).2]) ∧ ArrAt (fun b => w.heap.size ≤ b ∨ G b) w' (rtakeV x y).1 e0 e1 e2 e3 ∧ Ext w w' := by
  obtain ⟨kx, sx, nx, ix⟩ := x
  obtain ⟨ky, sy, ny, iy⟩ := y
  have hx' := hx
  have hy' := hy
  unfold ArrAt at hx' hy'
  obtain ⟨rfl, hkx, ⟨q1, m1, rfl, ⟨o1, o1', o1''⟩, i1⟩, ⟨q2, m2, rfl, ⟨o2, o2', o2''⟩, i2⟩, ⟨q3, m3, rfl, ⟨o3, o3', o3''⟩, i3⟩⟩ := hx'
  obtain ⟨rfl, hky, ⟨r1, n1, rfl, ⟨p1, p1', p1''⟩, j1⟩, ⟨r2, n2, rfl, ⟨p2, p2', p2''⟩, j2⟩, ⟨r3, n3, rfl, ⟨p3, p3', p3''⟩, j3⟩⟩ := hy'
  have HX := Lib.hid hx
  have HY := Lib.hid (ArrAt.mono (G := fun b => G b ∧ b < w.heap.size) (fun b hb hlt => ⟨⟨hb, hlt⟩, rfl⟩) _ _ _ _ _ hy)
  have HNX := Lib.hid (i2.mono (G := fun b => b < w.heap.size) (fun b _ hlt => ⟨hlt, rfl⟩))
  generalize hres : rtakeV (.mk kx sx nx ix) (.mk ky sy ny iy) = res
  have hr := hres
  unfold rtakeV at hr
  clear hx hy i1 i2 i3 j1 j2 j3 hres
  rw [if_pos he] at hr
  have HE := Lib.hid he
  generalize hev : tkErr (.mk kx sx nx ix) (.mk ky sy ny iy) = ev at *
  have HEV := Lib.hid hev
  have HRES := Lib.hid hr
  clear hev hr
  have hev0 : (ev != 0) = true := by simpa using he
  clear he
  go_enter Try.func42, Try.ntmps42
  go_wp2_with fail
  have hE0 : Ext w (((w.alloc (.cells #[.int .i64 kx, .slice q1 sx.length m1, .slice q2 nx.length m2, .slice q3 ix.length m3] 26)).alloc (.cells #[.int .i64 ky, .slice r1 sy.length n1, .slice r2 ny.length n2, .slice r3 iy.length n3] 26)).alloc (.cells #[.int .i64 0, .slice none 0 0, .slice none 0 0, .slice none 0 0] 26)) := (((Ext.refl _).alloc _).alloc _).alloc _
  have hBX := ((box_new w (.int .i64 kx) (.slice q1 sx.length m1) (.slice q2 nx.length m2) (.slice q3 ix.length m3)).ext ((Ext.refl _).alloc (.cells #[.int .i64 ky, .slice r1 sy.length n1, .slice r2 ny.length n2, .slice r3 iy.length n3] 26))).ext ((Ext.refl _).alloc (.cells #[.int .i64 0, .slice none 0 0, .slice none 0 0, .slice none 0 0] 26))
  have hBY := (box_new (w.alloc (.cells #[.int .i64 kx, .slice q1 sx.length m1, .slice q2 nx.length m2, .slice q3 ix.length m3] 26)) (.int .i64 ky) (.slice r1 sy.length n1) (.slice r2 ny.length n2) (.slice r3 iy.length n3)).ext ((Ext.refl _).alloc (.cells #[.int .i64 0, .slice none 0 0, .slice none 0 0, .slice none 0 0] 26))
  have hBZ := box_new ((w.alloc (.cells #[.int .i64 kx, .slice q1 sx.length m1, .slice q2 nx.length m2, .slice q3 ix.length m3] 26)).alloc (.cells #[.int .i64 ky, .slice r1 sy.length n1, .slice r2 ny.length n2, .slice r3 iy.length n3] 26)) (.int .i64 0) (.slice none 0 0) (.slice none 0 0) (.slice none 0 0)
  rw [World.size_alloc] at hBY
  rw [World.size_alloc, World.size_alloc] at hBZ
  generalize (((w.alloc (.cells #[.int .i64 kx, .slice q1 sx.length m1, .slice q2 nx.length m2, .slice q3 ix.length m3] 26)).alloc (.cells #[.int .i64 ky, .slice r1 sy.length n1, .slice r2 ny.length n2, .slice r3 iy.length n3] 26)).alloc (.cells #[.int .i64 0, .slice none 0 0, .slice none 0 0, .slice none 0 0] 26)) = w1 at hE0 hBX hBY hBZ ⊢
  refine (counts_err F _ _ _ _ _ _ _ _ _ _ _ w1 (HX.out.ext hE0) (HY.out.ext hE0) (by rw [HEV.out]; exact HE.out)).mono ?_
  rintro e w2 ⟨rfl, hE1⟩
  rw [HEV.out]
  have hE2 := hE0.trans hE1
  replace hBZ := hBZ.ext hE1
  have hlt2 := hBZ.lt
  obtain ⟨x0, x1, x2, x3⟩ := hBZ.cell
  have f0 := hBZ.free 0
  have f1 := hBZ.free 1
  have f2 := hBZ.free 2
  have f3 := hBZ.free 3
  go_wp2_with fail
  obtain ⟨gg1, gg2, gg3⟩ := hBZ.put4 hE2 (by omega) (.int .i64 0) (.slice none 0 0) (.slice none 0 0) (.slice none 0 0)
  revert gg1 gg2 gg3
  generalize ((((w2.setCell ⟨w.heap.size + 1 + 1, 0, none⟩ (.int .i64 0)).setCell ⟨w.heap.size + 1 + 1, 1, none⟩ (.slice none 0 0)).setCell ⟨w.heap.size + 1 + 1, 2, none⟩ (.slice none 0 0)).setCell ⟨w.heap.size + 1 + 1, 3, none⟩ (.slice none 0 0)) = w9
  intro gg1 gg2 gg3
  obtain ⟨z0, z1, z2, z3⟩ := gg2.cell
  refine bodyPost_ret (v := .tuple #[.agg #[(.int .i64 0), (.slice none 0 0), (.slice none 0 0), (.slice none 0 0)], .int .i64 ev]) ?_ rfl ⟨_, _, _, _, by rw [← HRES.out], by rw [← HRES.out]; exact Arr.zero_at _ _, gg1⟩
  simp [results, Try.results42, go_sem, z0, z1, z2, z3]

set_option maxRecDepth 100000 in
set_option maxHeartbeats 8000000 in
theorem rtake_ok (F G : Nat → Prop) (x y : Arr) (c0 c1 c2 c3 d0 d1 d2 d3 : Value) (w : World) (hx : ArrAt F w x c0 c1 c2 c3) (hy : ArrAt G w y d0 d1 d2 d3) (he : tkErr x y = 0) :
    Calls Try.prog 42 #[.agg #[c0, c1, c2, c3], .agg #[d0, d1, d2, d3]] w fun e w' =>
      ∃ e0 e1 e2 e3, e = .returned (.tuple #[.agg #[e0, e1, e2, e3], .int .i64 (rtakeV x y).2]) ∧ ArrAt (fun b => w.heap.size ≤ b ∨ G b) w' (rtakeV x y).1 e0 e1 e2 e3 ∧ Ext w w' := by
  obtain ⟨kx, sx, nx, ix⟩ := x
  obtain ⟨ky, sy, ny, iy⟩ := y
  have hx' := hx
  have hy' := hy
  unfold ArrAt at hx' hy'
  obtain ⟨rfl, hkx, ⟨q1, m1, rfl, ⟨o1, o1', o1''⟩, i1⟩, ⟨q2, m2, rfl, ⟨o2, o2', o2''⟩, i2⟩, ⟨q3, m3, rfl, ⟨o3, o3', o3''⟩, i3⟩⟩ := hx'
  obtain ⟨rfl, hky, ⟨r1, n1, rfl, ⟨p1, p1', p1''⟩, j1⟩, ⟨r2, n2, rfl, ⟨p2, p2', p2''⟩, j2⟩, ⟨r3, n3, rfl, ⟨p3, p3', p3''⟩, j3⟩⟩ := hy'
  have HX := Lib.hid hx
  have HY := Lib.hid (ArrAt.mono (G := fun b => G b ∧ b < w.heap.size) (fun b hb hlt => ⟨⟨hb, hlt⟩, rfl⟩) _ _ _ _ _ hy)
  have HNX := Lib.hid (i2.mono (G := fun b => b < w.heap.size) (fun b _ hlt => ⟨hlt, rfl⟩))
  generalize hres : rtakeV (.mk kx sx nx ix) (.mk ky sy ny iy) = res
  have hr := hres
  unfold rtakeV at hr
  clear hx hy i1 i2 i3 j1 j2 j3 hres
  rw [if_neg (by simp [he])] at hr
  obtain ⟨sz, hz⟩ : ∃ sz, tkY nx.length (.mk ky sy ny iy) = .mk ky sz ny iy := ⟨_, rfl⟩
  obtain ⟨hlz, h8, hrg, hkz, hnz, hiz, hnb⟩ := tkY_parts he hz
  have hr2 : rmovedV (tkS (tkY nx.length (.mk ky sy ny iy))) (withL takeF nx (tkS (tkY nx.length (.mk ky sy ny iy)))) (byL byTake nx (tkS (tkY nx.length (.mk ky sy ny iy)))) (.mk ky sy ny iy) = res := hr
  rw [hz] at hr2
  have hr3 : rmovedV sz (withL takeF nx sz) (byL byTake nx sz) (.mk ky sy ny iy) = res := hr2
  have HE := Lib.hid he
  have HZ := Lib.hid hz
  have HRES := Lib.hid hr3
  have HRG := Lib.hid hrg
  have HKZ := Lib.hid hkz
  have HNZ := Lib.hid hnz
  have HIZ := Lib.hid hiz
  have HNB := Lib.hid hnb
  have HSB := Lib.hid (rightGo_nonneg sz 1 hrg)
  have hl8 : nx.length ≤ 8 := by omega
  clear hr hr2 hr3 hz hrg hkz hnz hiz hnb he
  go_enter Try.func42, Try.ntmps42
  go_wp2_with fail
  have hE0 : Ext w (((w.alloc (.cells #[.int .i64 kx, .slice q1 sx.length m1, .slice q2 nx.length m2, .slice q3 ix.length m3] 26)).alloc (.cells #[.int .i64 ky, .slice r1 sy.length n1, .slice r2 ny.length n2, .slice r3 iy.length n3] 26)).alloc (.cells #[.int .i64 0, .slice none 0 0, .slice none 0 0, .slice none 0 0] 26)) := (((Ext.refl _).alloc _).alloc _).alloc _
  have hBX := ((box_new w (.int .i64 kx) (.slice q1 sx.length m1) (.slice q2 nx.length m2) (.slice q3 ix.length m3)).ext ((Ext.refl _).alloc (.cells #[.int .i64 ky, .slice r1 sy.length n1, .slice r2 ny.length n2, .slice r3 iy.length n3] 26))).ext ((Ext.refl _).alloc (.cells #[.int .i64 0, .slice none 0 0, .slice none 0 0, .slice none 0 0] 26))
  have hBY := (box_new (w.alloc (.cells #[.int .i64 kx, .slice q1 sx.length m1, .slice q2 nx.length m2, .slice q3 ix.length m3] 26)) (.int .i64 ky) (.slice r1 sy.length n1) (.slice r2 ny.length n2) (.slice r3 iy.length n3)).ext ((Ext.refl _).alloc (.cells #[.int .i64 0, .slice none 0 0, .slice none 0 0, .slice none 0 0] 26))
  have hBZ := box_new ((w.alloc (.cells #[.int .i64 kx, .slice q1 sx.length m1, .slice q2 nx.length m2, .slice q3 ix.length m3] 26)).alloc (.cells #[.int .i64 ky, .slice r1 sy.length n1, .slice r2 ny.length n2, .slice r3 iy.length n3] 26)) (.int .i64 0) (.slice none 0 0) (.slice none 0 0) (.slice none 0 0)
  rw [World.size_alloc] at hBY
  rw [World.size_alloc, World.size_alloc] at hBZ
  generalize (((w.alloc (.cells #[.int .i64 kx, .slice q1 sx.length m1, .slice q2 nx.length m2, .slice q3 ix.length m3] 26)).alloc (.cells #[.int .i64 ky, .slice r1 sy.length n1, .slice r2 ny.length n2, .slice r3 iy.length n3] 26)).alloc (.cells #[.int .i64 0, .slice none 0 0, .slice none 0 0, .slice none 0 0] 26)) = w1 at hE0 hBX hBY hBZ ⊢
  refine (counts_ok F _ kx ky sx nx sy ny ix iy q2 r1 m2 n1 _ _ _ _ _ _ w1 (HX.out.ext hE0) (HY.out.ext hE0) HE.out).mono ?_
  rintro e w2 ⟨pz, cz, rfl, hIz, hE1⟩
  rw [HZ.out] at hIz ⊢
  have hIz' : IntsAt (fun b => b < w2.heap.size) w2 pz sz := hIz.mono fun b _ hlt => ⟨hlt, rfl⟩
  show _
  have hS : (tkS (Arr.mk ky sz ny iy)) = sz := rfl
  rw [hS]
  clear hS
  have hE2 := hE0.trans hE1
  have HIZ' := Lib.hid hIz'
  have HNX2 := Lib.hid (HNX.out.ext hE2)
  have HBX2 := Lib.hid (hBX.ext hE1)
  have HBY2 := Lib.hid (hBY.ext hE1)
  have HBZ2 := Lib.hid (hBZ.ext hE1)
  have hw2 : w.heap.size + 1 + 1 < w2.heap.size := HBZ2.out.lt
  clear hIz hIz' hBX hBY hBZ hE0 hE1
  have hE := (Ext.refl w2).alloc (.cells #[] 3)
  have hrow := rowI_new' w2 []
  change RowI (w2.alloc (.cells #[] 3)) _ _ at hrow
  have HROW := Lib.hid hrow
  clear hrow
  go_wp2_with (at_builtin; refine wpList_append_zero rfl _ _ rfl (fun b => b < w2.heap.size) w2.heap.size (fun _ => False) w2.heap.size pz cz sz rfl HROW.out (Nat.le_refl _) (fun h => h) rfl (HIZ'.out.ext hE) (fun _ h => h.elim) (by omega) hE.lt ?_)
  intro v' w3 hO3 hE3
  obtain ⟨pt, ct, rfl, hct⟩ := hO3.form
  have hmk := run_make_ints sz.length (by omega)
  have hE4 : Ext w2 (w3.alloc (.cells (madeCells #[.int .i64 0] sz.length) 3)) := (hE.trans hE3).alloc _
  have hR4 := RowI.made (w := w3) sz.length
  have hO4 : OwnI w2.heap.size (fun x => x = w3.heap.size) (w3.alloc (.cells (madeCells #[.int .i64 0] sz.length) 3)) (.slice pt sz.length ct) sz.length (withL takeF (nx.take 0) sz) := by
    rw [List.take_zero, withL_nil]
    exact hO3.same fun g _ hlt _ => ⟨((Ext.refl w3).alloc _).block hlt, by omega⟩
  have hR5 : RowI (w3.alloc (.cells (madeCells #[.int .i64 0] sz.length) 3)) w3.heap.size (byL byTake (nx.take 0) sz) := by rw [List.take_zero, byL_nil]; exact hR4
  have hg2 : w2.heap.size ≤ w3.heap.size := (hE.trans hE3).lt
  have HO4 := Lib.hid hO4
  have HR5 := Lib.hid hR5
  clear hO3 hE3 hR4 hO4 hR5
  go_wp2_with fail
  generalize hgv : w3.heap.size = g2 at *
  clear hgv hmk
  generalize w3.alloc (.cells (madeCells #[.int .i64 0] sz.length) 3) = w4 at hE4 HO4 HR5 ⊢
  clear hE
  go_loopw [11] (fun i wr => ∃ (q : Nat), q ≤ nx.length ∧ i = .int .i64 q ∧ Ext w2 wr ∧ OwnI w2.heap.size (fun x => x = g2) wr (.slice pt sz.length ct) sz.length (withL takeF (nx.take q) sz) ∧ RowI wr g2 (byL byTake (nx.take q) sz)) (fun i _ => nx.length - (intOf i).toNat)
  case atStart => exact ⟨0, Nat.zero_le _, rfl, hE4, HO4.out, HR5.out⟩
  case round =>
    obtain ⟨q, hq, rfl, hEq, hOq, hRq⟩ := hrel
    clear HO4 HR5 hE4
    by_cases hlq : q < nx.length
    · have hqs : q < sz.length := by omega
      have hlq1 : (q : Int) < nx.length := by omega
      have hqs1 : (q : Int) < sz.length := by omega
      obtain ⟨g, rfl, hgB, hglt, ct1, ct2, hset⟩ := hOq.at' hqs
      have hgg : g ≠ g2 := fun e => hOq.2.2.2.1 g rfl e
      obtain ⟨bn, on, rfl, hbn, an, _, _⟩ := (HNX2.out.ext hEq) q hlq
      obtain ⟨bs, os_, rfl, hbs, as_, _, _⟩ := (HIZ'.out.ext hEq) q hqs
      have hnq := HNB.out (nx.getD q 0) (getD_mem (P := fun x => x ∈ nx) (fun x hx => hx) hlq)
      have hsq := HSB.out (sz.getD q 0) (getD_mem (P := fun x => x ∈ sz) (fun x hx => hx) hqs)
      have hb0 := byL_at byTake nx sz q hlq (by omega)
      have hbl := byL_length byTake (nx.take q) sz
      have hcb := hRq.cell (j := q) (by rw [hbl]; exact hqs)
      have hfb := hRq.free q
      have hws := withL_set takeF nx sz q hlq (by omega)
      have hbs' := byL_set byTake nx sz q hlq (by omega)
      have hO5 := hset (takeF (nx.getD q 0) (sz.getD q 0)) (by unfold takeF; omega)
      rw [hws] at hO5
      have hE5 : Ext w2 (wr.setCell ⟨g, q, none⟩ (.int .i64 (takeF (nx.getD q 0) (sz.getD q 0)))) := hEq.setCell (p := ⟨g, q, none⟩) hgB _
      have hR5 : RowI (wr.setCell ⟨g, q, none⟩ (.int .i64 (takeF (nx.getD q 0) (sz.getD q 0)))) g2 (byL byTake (nx.take q) sz) := hRq.kept (Below.heap_setCell _ _ _ _ (by simpa using fun e => hgg e.symm))
      have hwl : (withL takeF (nx.take (q + 1)) sz).getD q 0 = takeF (nx.getD q 0) (sz.getD q 0) := by rw [← hws, getD_set (by rw [withL_len]; exact hqs), if_pos rfl]
      have hbng : bn ≠ g := by omega
      have hbsg : bs ≠ g := by omega
      rw [hb0] at hcb
      have HOQ := Lib.hid hOq
      have HRQ := Lib.hid hRq
      have HWS := Lib.hid hws
      clear hset hOq hRq hws
      have hfv : takeF (nx.getD q 0) (sz.getD q 0) = max (nx.getD q 0) (-nx.getD q 0) := rfl
      rw [hfv] at hO5 hE5 hR5 hwl
      have hbv : byTake (nx.getD q 0) (sz.getD q 0) = if nx.getD q 0 < 0 then sz.getD q 0 - max (nx.getD q 0) (-nx.getD q 0) else 0 := rfl
      rw [hbv] at hbs'
      clear hfv hbv
      generalize nx.getD q 0 = nq at *
      generalize sz.getD q 0 = sq at *
      have HWL := Lib.hid hwl
      have HBS := Lib.hid hbs'
      have HBL := Lib.hid hbl
      have HB0 := Lib.hid hb0
      clear hbs' hbl hb0 hwl
      by_cases hneg : nq < 0
      · have hB1 := HBS.out
        rw [if_pos hneg] at hB1
        have HB1 := Lib.hid hB1
        obtain ⟨g', hg', _, _, ct3, ct4, _⟩ := hO5.at' hqs
        clear hB1
        simp only [Option.some.injEq, Addr.mk.injEq, and_true] at hg'
        subst hg'
        rw [HWL.out] at ct3
        have as2 : (wr.setCell ⟨g, q, none⟩ (.int .i64 (max nq (-nq)))).cell? ⟨bs, os_ + q, none⟩ = some (.int .i64 sq) := by
          rw [← as_]; exact World.cell?_of_block (Below.heap_setCell _ _ _ _ (by simpa using hbsg))
        have hcb2 := hR5.cell (j := q) (by rw [HBL.out]; exact hqs)
        rw [HB0.out] at hcb2
        have hfb2 := hR5.free q
        have hdif : IntKind.i64.wrap (sq - max nq (-nq)) = sq - max nq (-nq) := IntWalk.i64_in _ (by omega)
        have HDIF := Lib.hid hdif
        have HCT3 := Lib.hid ct3
        have HAS2 := Lib.hid as2
        have HCB2 := Lib.hid hcb2
        have HFB2 := Lib.hid hfb2
        clear hdif ct3 ct4 as2 hcb2 hfb2
        go_wp2_with fail
        refine (rabs_any nq _ (by omega) (by omega)).mono ?_
        rintro e w5' ⟨rfl, rfl⟩
        go_wp2_with fail
        have hdif := HDIF.out
        have ct3 := HCT3.out
        have as2 := HAS2.out
        have hcb2 := HCB2.out
        have hfb2 := HFB2.out
        clear HCT3 HAS2 HCB2 HFB2
        clear an as_ ct1 ct2 hcb hfb
        generalize wr.setCell ⟨g, q, none⟩ (.int .i64 (max nq (-nq))) = w5 at *
        have hR6 := (hR5.set q (sq - max nq (-nq))).ext ((Ext.refl _).drew)
        rw [HB1.out] at hR6
        have hE6 : Ext w2 (w5.setCell ⟨g2, q, none⟩ (.int .i64 (sq - max nq (-nq)))).drew := (hE5.setCell (p := ⟨g2, q, none⟩) hg2 _).drew
        have hO6 : OwnI w2.heap.size (fun x => x = g2) (w5.setCell ⟨g2, q, none⟩ (.int .i64 (sq - max nq (-nq)))).drew (.slice (some ⟨g, 0, none⟩) sz.length ct) sz.length (withL takeF (nx.take (q + 1)) sz) :=
          (hO5.same fun g' _ _ hne => ⟨Below.heap_setCell _ _ _ _ (by simpa using hne), hne⟩).ext ((Ext.refl _).drew)
        clear hR5 hE5 hO5
        go_still_tail 12, (by kernel_rfl)
        change wpList _ _ _ _ _ w5.drew
        go_wp2_with fail
        generalize (w5.setCell ⟨g2, q, none⟩ (.int .i64 (sq - max nq (-nq)))).drew = w7 at hR6 hE6 hO6 ⊢
        clear ct3 as2 hcb2 hfb2 hdif
        go_roundw
        case rel => exact ⟨q + 1, by omega, by go_num, hE6, hO6, hR6⟩
        case measure => simp [intOf]; omega
      · have hB1 := HBS.out
        rw [if_neg hneg, set_self _ _ _ HB0.out (by rw [HBL.out]; exact hqs)] at hB1
        rw [hB1] at hR5
        have an2 : (wr.setCell ⟨g, q, none⟩ (.int .i64 (max nq (-nq)))).cell? ⟨bn, on + q, none⟩ = some (.int .i64 nq) := by
          rw [← an]; exact World.cell?_of_block (Below.heap_setCell _ _ _ _ (by simpa using hbng))
        clear hB1 hcb hfb
        go_wp2_with fail
        refine (rabs_any nq _ (by omega) (by omega)).mono ?_
        rintro e w5' ⟨rfl, rfl⟩
        go_wp2_with fail
        generalize wr.setCell ⟨g, q, none⟩ (.int .i64 (max nq (-nq))) = w5 at *
        clear an an2 as_ ct1 ct2
        go_roundw
        case rel => exact ⟨q + 1, by omega, by go_num, hE5, hO5, hR5⟩
        case measure => simp [intOf]; omega
    · obtain rfl : q = nx.length := by omega
      rw [List.take_length] at hOq hRq
      obtain ⟨p', c', hpt, hkt, hit⟩ := hOq.ints
      rw [withL_len] at hpt
      simp only [Value.slice.injEq] at hpt
      obtain ⟨rfl, hjunk, rfl⟩ := hpt
      have hbd := byL_bd byTake (fun x => -4611686018427387904 ≤ x ∧ x ≤ 4611686018427387904) nx sz (fun n hn y hy => by
        have h1 := HNB.out n hn
        have h2 := HSB.out y hy
        unfold byTake
        first | omega | (split <;> omega)) (by omega)
      have hib := hRq.ints (fun x hx => by have := hbd x hx; omega)
      have hE6 := hE2.trans hEq
      have HM := rmoved_any (fun b => G b ∧ b < w.heap.size) _ _ _ pz pt (some ⟨g2, 0, none⟩) cz ct sz.length sz (withL takeF nx sz) (byL byTake nx sz) sy ky ny iy _ _ _ _ wr (HY.out.ext hE6) (HIZ'.out.ext hEq) hit hib h8 (withL_len _ _ _) (byL_length _ _ _) HRG.out hbd HKZ.out HNZ.out HIZ.out
      rw [withL_len, byL_length, HRES.out] at HM
      have HM := Lib.hid HM
      obtain ⟨t0, t1, t2, t3⟩ := (HBY2.out.ext hEq).cell
      have hBZ := HBZ2.out.ext hEq
      have hwr := hE6.lt
      clear hjunk hOq hRq hit hib hbd hkt
      go_wp2_with fail
      refine HM.out.mono ?_
      rintro e w6 ⟨e0, e1, e2, e3, rfl, hA, hE7⟩
      have hE8 := hE6.trans hE7
      obtain ⟨ka, ua, va, za, ub, vb, zb, uc, vc, zc, rfl, rfl, rfl, rfl⟩ := hA.form
      replace hBZ := hBZ.ext hE7
      have hlt2 := hBZ.lt
      have hlz0 : w.heap.size + 1 + 1 < wr.heap.size := (HBZ2.out.ext hEq).lt
      obtain ⟨x0, x1, x2, x3⟩ := hBZ.cell
      have f0 := hBZ.free 0
      have f1 := hBZ.free 1
      have f2 := hBZ.free 2
      have f3 := hBZ.free 3
      have HA := Lib.hid hA
      clear hA t0 t1 t2 t3
      go_wp2_with fail
      obtain ⟨gg1, gg2, gg3⟩ := hBZ.put4 hE8 (by omega) (.int .i64 ka) (.slice ua va za) (.slice ub vb zb) (.slice uc vc zc)
      revert gg1 gg2 gg3
      generalize ((((w6.setCell ⟨w.heap.size + 1 + 1, 0, none⟩ (.int .i64 ka)).setCell ⟨w.heap.size + 1 + 1, 1, none⟩ (.slice ua va za)).setCell ⟨w.heap.size + 1 + 1, 2, none⟩ (.slice ub vb zb)).setCell ⟨w.heap.size + 1 + 1, 3, none⟩ (.slice uc vc zc)) = w9
      intro gg1 gg2 gg3
      obtain ⟨z0, z1, z2, z3⟩ := gg2.cell
      have hA9 := ArrAt.mono (G := fun b => w.heap.size ≤ b ∨ G b) (w' := w9) (fun b hb _ => ⟨by rcases hb with hb | hb; exact .inl (by omega); exact .inr hb.1, gg3 b (by rcases hb with hb | hb; omega; exact (by have := hb.2; omega))⟩) _ _ _ _ _ HA.out
      refine bodyPost_ret (v := .tuple #[.agg #[(.int .i64 ka), (.slice ua va za), (.slice ub vb zb), (.slice uc vc zc)], .int .i64 res.2]) ?_ rfl ⟨_, _, _, _, rfl, hA9, gg1⟩
      simp [results, Try.results42, go_sem, z0, z1, z2, z3]

set_option maxRecDepth 100000 in
set_option maxHeartbeats 8000000 in
theorem rdrop_err (F G : Nat → Prop) (x y : Arr) (c0 c1 c2 c3 d0 d1 d2 d3 : Value) (w : World) (hx : ArrAt F w x c0 c1 c2 c3) (hy : ArrAt G w y d0 d1 d2 d3) (he : tkErr x y ≠ 0) :
    Calls Try.prog 45 #[.agg #[c0, c1, c2, c3], .agg #[d0, d1, d2, d3]] w fun e w' =>
      ∃ e0 e1 e2 e3, e = .returned (.tuple #[.agg #[e0, e1, e2, e3], .int .i64 (rdropV x y).2]) ∧ ArrAt (fun b => w.heap.size ≤ b ∨ G b) w' (rdropV x y).1 e0 e1 e2 e3 ∧ Ext w w' := by
  obtain ⟨kx, sx, nx, ix⟩ := x
  obtain ⟨ky, sy, ny, iy⟩ := y
  have hx' := hx
  have hy' := hy
  unfold ArrAt at hx' hy'
  obtain ⟨rfl, hkx, ⟨q1, m1, rfl, ⟨o1, o1', o1''⟩, i1⟩, ⟨q2, m2, rfl, ⟨o2, o2', o2''⟩, i2⟩, ⟨q3, m3, rfl, ⟨o3, o3', o3''⟩, i3⟩⟩ := hx'
  obtain ⟨rfl, hky, ⟨r1, n1, rfl, ⟨p1, p1', p1''⟩, j1⟩, ⟨r2, n2, rfl, ⟨p2, p2', p2''⟩, j2⟩, ⟨r3, n3, rfl, ⟨p3, p3', p3''⟩, j3⟩⟩ := hy'
  have HX := Lib.hid hx
  have HY := Lib.hid (ArrAt.mono (G := fun b => G b ∧ b < w.heap.size) (fun b hb hlt => ⟨⟨hb, hlt⟩, rfl⟩) _ _ _ _ _ hy)
  have HNX := Lib.hid (i2.mono (G := fun b => b < w.heap.size) (fun b _ hlt => ⟨hlt, rfl⟩))
  generalize hres : rdropV (.mk kx sx nx ix) (.mk ky sy ny iy) = res
  have hr := hres
  unfold rdropV at hr
  clear hx hy i1 i2 i3 j1 j2 j3 hres
  rw [if_pos he] at hr
  have HE := Lib.hid he
  generalize hev : tkErr (.mk kx sx nx ix) (.mk ky sy ny iy) = ev at *
  have HEV := Lib.hid hev
  have HRES := Lib.hid hr
  clear hev hr
  have hev0 : (ev != 0) = true := by simpa using he
  clear he
  go_enter Try.func45, Try.ntmps45
  go_wp2_with fail
  have hE0 : Ext w (((w.alloc (.cells #[.int .i64 kx, .slice q1 sx.length m1, .slice q2 nx.length m2, .slice q3 ix.length m3] 26)).alloc (.cells #[.int .i64 ky, .slice r1 sy.length n1, .slice r2 ny.length n2, .slice r3 iy.length n3] 26)).alloc (.cells #[.int .i64 0, .slice none 0 0, .slice none 0 0, .slice none 0 0] 26)) := (((Ext.refl _).alloc _).alloc _).alloc _
  have hBX := ((box_new w (.int .i64 kx) (.slice q1 sx.length m1) (.slice q2 nx.length m2) (.slice q3 ix.length m3)).ext ((Ext.refl _).alloc (.cells #[.int .i64 ky, .slice r1 sy.length n1, .slice r2 ny.length n2, .slice r3 iy.length n3] 26))).ext ((Ext.refl _).alloc (.cells #[.int .i64 0, .slice none 0 0, .slice none 0 0, .slice none 0 0] 26))
  have hBY := (box_new (w.alloc (.cells #[.int .i64 kx, .slice q1 sx.length m1, .slice q2 nx.length m2, .slice q3 ix.length m3] 26)) (.int .i64 ky) (.slice r1 sy.length n1) (.slice r2 ny.length n2) (.slice r3 iy.length n3)).ext ((Ext.refl _).alloc (.cells #[.int .i64 0, .slice none 0 0, .slice none 0 0, .slice none 0 0] 26))
  have hBZ := box_new ((w.alloc (.cells #[.int .i64 kx, .slice q1 sx.length m1, .slice q2 nx.length m2, .slice q3 ix.length m3] 26)).alloc (.cells #[.int .i64 ky, .slice r1 sy.length n1, .slice r2 ny.length n2, .slice r3 iy.length n3] 26)) (.int .i64 0) (.slice none 0 0) (.slice none 0 0) (.slice none 0 0)
  rw [World.size_alloc] at hBY
  rw [World.size_alloc, World.size_alloc] at hBZ
  generalize (((w.alloc (.cells #[.int .i64 kx, .slice q1 sx.length m1, .slice q2 nx.length m2, .slice q3 ix.length m3] 26)).alloc (.cells #[.int .i64 ky, .slice r1 sy.length n1, .slice r2 ny.length n2, .slice r3 iy.length n3] 26)).alloc (.cells #[.int .i64 0, .slice none 0 0, .slice none 0 0, .slice none 0 0] 26)) = w1 at hE0 hBX hBY hBZ ⊢
  refine (counts_err F _ _ _ _ _ _ _ _ _ _ _ w1 (HX.out.ext hE0) (HY.out.ext hE0) (by rw [HEV.out]; exact HE.out)).mono ?_
  rintro e w2 ⟨rfl, hE1⟩
  rw [HEV.out]
  have hE2 := hE0.trans hE1
  replace hBZ := hBZ.ext hE1
  have hlt2 := hBZ.lt
  obtain ⟨x0, x1, x2, x3⟩ := hBZ.cell
  have f0 := hBZ.free 0
  have f1 := hBZ.free 1
  have f2 := hBZ.free 2
  have f3 := hBZ.free 3
  go_wp2_with fail
  obtain ⟨gg1, gg2, gg3⟩ := hBZ.put4 hE2 (by omega) (.int .i64 0) (.slice none 0 0) (.slice none 0 0) (.slice none 0 0)
  revert gg1 gg2 gg3
  generalize ((((w2.setCell ⟨w.heap.size + 1 + 1, 0, none⟩ (.int .i64 0)).setCell ⟨w.heap.size + 1 + 1, 1, none⟩ (.slice none 0 0)).setCell ⟨w.heap.size + 1 + 1, 2, none⟩ (.slice none 0 0)).setCell ⟨w.heap.size + 1 + 1, 3, none⟩ (.slice none 0 0)) = w9
  intro gg1 gg2 gg3
  obtain ⟨z0, z1, z2, z3⟩ := gg2.cell
  refine bodyPost_ret (v := .tuple #[.agg #[(.int .i64 0), (.slice none 0 0), (.slice none 0 0), (.slice none 0 0)], .int .i64 ev]) ?_ rfl ⟨_, _, _, _, by rw [← HRES.out], by rw [← HRES.out]; exact Arr.zero_at _ _, gg1⟩
  simp [results, Try.results45, go_sem, z0, z1, z2, z3]

set_option maxRecDepth 100000 in
set_option maxHeartbeats 8000000 in
theorem rdrop_ok (F G : Nat → Prop) (x y : Arr) (c0 c1 c2 c3 d0 d1 d2 d3 : Value) (w : World) (hx : ArrAt F w x c0 c1 c2 c3) (hy : ArrAt G w y d0 d1 d2 d3) (he : tkErr x y = 0) :
    Calls Try.prog 45 #[.agg #[c0, c1, c2, c3], .agg #[d0, d1, d2, d3]] w fun e w' =>
      ∃ e0 e1 e2 e3, e = .returned (.tuple #[.agg #[e0, e1, e2, e3], .int .i64 (rdropV x y).2]) ∧ ArrAt (fun b => w.heap.size ≤ b ∨ G b) w' (rdropV x y).1 e0 e1 e2 e3 ∧ Ext w w' := by
  obtain ⟨kx, sx, nx, ix⟩ := x
  obtain ⟨ky, sy, ny, iy⟩ := y
  have hx' := hx
  have hy' := hy
  unfold ArrAt at hx' hy'
  obtain ⟨rfl, hkx, ⟨q1, m1, rfl, ⟨o1, o1', o1''⟩, i1⟩, ⟨q2, m2, rfl, ⟨o2, o2', o2''⟩, i2⟩, ⟨q3, m3, rfl, ⟨o3, o3', o3''⟩, i3⟩⟩ := hx'
  obtain ⟨rfl, hky, ⟨r1, n1, rfl, ⟨p1, p1', p1''⟩, j1⟩, ⟨r2, n2, rfl, ⟨p2, p2', p2''⟩, j2⟩, ⟨r3, n3, rfl, ⟨p3, p3', p3''⟩, j3⟩⟩ := hy'
  have HX := Lib.hid hx
  have HY := Lib.hid (ArrAt.mono (G := fun b => G b ∧ b < w.heap.size) (fun b hb hlt => ⟨⟨hb, hlt⟩, rfl⟩) _ _ _ _ _ hy)
  have HNX := Lib.hid (i2.mono (G := fun b => b < w.heap.size) (fun b _ hlt => ⟨hlt, rfl⟩))
  generalize hres : rdropV (.mk kx sx nx ix) (.mk ky sy ny iy) = res
  have hr := hres
  unfold rdropV at hr
  clear hx hy i1 i2 i3 j1 j2 j3 hres
  rw [if_neg (by simp [he])] at hr
  obtain ⟨sz, hz⟩ : ∃ sz, tkY nx.length (.mk ky sy ny iy) = .mk ky sz ny iy := ⟨_, rfl⟩
  obtain ⟨hlz, h8, hrg, hkz, hnz, hiz, hnb⟩ := tkY_parts he hz
  have hr2 : rmovedV (tkS (tkY nx.length (.mk ky sy ny iy))) (withL dropF nx (tkS (tkY nx.length (.mk ky sy ny iy)))) (byL byDrop nx (tkS (tkY nx.length (.mk ky sy ny iy)))) (.mk ky sy ny iy) = res := hr
  rw [hz] at hr2
  have hr3 : rmovedV sz (withL dropF nx sz) (byL byDrop nx sz) (.mk ky sy ny iy) = res := hr2
  have HE := Lib.hid he
  have HZ := Lib.hid hz
  have HRES := Lib.hid hr3
  have HRG := Lib.hid hrg
  have HKZ := Lib.hid hkz
  have HNZ := Lib.hid hnz
  have HIZ := Lib.hid hiz
  have HNB := Lib.hid hnb
  have HSB := Lib.hid (rightGo_nonneg sz 1 hrg)
  have hl8 : nx.length ≤ 8 := by omega
  clear hr hr2 hr3 hz hrg hkz hnz hiz hnb he
  go_enter Try.func45, Try.ntmps45
  go_wp2_with fail
  have hE0 : Ext w (((w.alloc (.cells #[.int .i64 kx, .slice q1 sx.length m1, .slice q2 nx.length m2, .slice q3 ix.length m3] 26)).alloc (.cells #[.int .i64 ky, .slice r1 sy.length n1, .slice r2 ny.length n2, .slice r3 iy.length n3] 26)).alloc (.cells #[.int .i64 0, .slice none 0 0, .slice none 0 0, .slice none 0 0] 26)) := (((Ext.refl _).alloc _).alloc _).alloc _
  have hBX := ((box_new w (.int .i64 kx) (.slice q1 sx.length m1) (.slice q2 nx.length m2) (.slice q3 ix.length m3)).ext ((Ext.refl _).alloc (.cells #[.int .i64 ky, .slice r1 sy.length n1, .slice r2 ny.length n2, .slice r3 iy.length n3] 26))).ext ((Ext.refl _).alloc (.cells #[.int .i64 0, .slice none 0 0, .slice none 0 0, .slice none 0 0] 26))
  have hBY := (box_new (w.alloc (.cells #[.int .i64 kx, .slice q1 sx.length m1, .slice q2 nx.length m2, .slice q3 ix.length m3] 26)) (.int .i64 ky) (.slice r1 sy.length n1) (.slice r2 ny.length n2) (.slice r3 iy.length n3)).ext ((Ext.refl _).alloc (.cells #[.int .i64 0, .slice none 0 0, .slice none 0 0, .slice none 0 0] 26))
  have hBZ := box_new ((w.alloc (.cells #[.int .i64 kx, .slice q1 sx.length m1, .slice q2 nx.length m2, .slice q3 ix.length m3] 26)).alloc (.cells #[.int .i64 ky, .slice r1 sy.length n1, .slice r2 ny.length n2, .slice r3 iy.length n3] 26)) (.int .i64 0) (.slice none 0 0) (.slice none 0 0) (.slice none 0 0)
  rw [World.size_alloc] at hBY
  rw [World.size_alloc, World.size_alloc] at hBZ
  generalize (((w.alloc (.cells #[.int .i64 kx, .slice q1 sx.length m1, .slice q2 nx.length m2, .slice q3 ix.length m3] 26)).alloc (.cells #[.int .i64 ky, .slice r1 sy.length n1, .slice r2 ny.length n2, .slice r3 iy.length n3] 26)).alloc (.cells #[.int .i64 0, .slice none 0 0, .slice none 0 0, .slice none 0 0] 26)) = w1 at hE0 hBX hBY hBZ ⊢
  refine (counts_ok F _ kx ky sx nx sy ny ix iy q2 r1 m2 n1 _ _ _ _ _ _ w1 (HX.out.ext hE0) (HY.out.ext hE0) HE.out).mono ?_
  rintro e w2 ⟨pz, cz, rfl, hIz, hE1⟩
  rw [HZ.out] at hIz ⊢
  have hIz' : IntsAt (fun b => b < w2.heap.size) w2 pz sz := hIz.mono fun b _ hlt => ⟨hlt, rfl⟩
  show _
  have hS : (tkS (Arr.mk ky sz ny iy)) = sz := rfl
  rw [hS]
  clear hS
  have hE2 := hE0.trans hE1
  have HIZ' := Lib.hid hIz'
  have HNX2 := Lib.hid (HNX.out.ext hE2)
  have HBX2 := Lib.hid (hBX.ext hE1)
  have HBY2 := Lib.hid (hBY.ext hE1)
  have HBZ2 := Lib.hid (hBZ.ext hE1)
  have hw2 : w.heap.size + 1 + 1 < w2.heap.size := HBZ2.out.lt
  clear hIz hIz' hBX hBY hBZ hE0 hE1
  have hE := (Ext.refl w2).alloc (.cells #[] 3)
  have hrow := rowI_new' w2 []
  change RowI (w2.alloc (.cells #[] 3)) _ _ at hrow
  have HROW := Lib.hid hrow
  clear hrow
  go_wp2_with (at_builtin; refine wpList_append_zero rfl _ _ rfl (fun b => b < w2.heap.size) w2.heap.size (fun _ => False) w2.heap.size pz cz sz rfl HROW.out (Nat.le_refl _) (fun h => h) rfl (HIZ'.out.ext hE) (fun _ h => h.elim) (by omega) hE.lt ?_)
  intro v' w3 hO3 hE3
  obtain ⟨pt, ct, rfl, hct⟩ := hO3.form
  have hmk := run_make_ints sz.length (by omega)
  have hE4 : Ext w2 (w3.alloc (.cells (madeCells #[.int .i64 0] sz.length) 3)) := (hE.trans hE3).alloc _
  have hR4 := RowI.made (w := w3) sz.length
  have hO4 : OwnI w2.heap.size (fun x => x = w3.heap.size) (w3.alloc (.cells (madeCells #[.int .i64 0] sz.length) 3)) (.slice pt sz.length ct) sz.length (withL dropF (nx.take 0) sz) := by
    rw [List.take_zero, withL_nil]
    exact hO3.same fun g _ hlt _ => ⟨((Ext.refl w3).alloc _).block hlt, by omega⟩
  have hR5 : RowI (w3.alloc (.cells (madeCells #[.int .i64 0] sz.length) 3)) w3.heap.size (byL byDrop (nx.take 0) sz) := by rw [List.take_zero, byL_nil]; exact hR4
  have hg2 : w2.heap.size ≤ w3.heap.size := (hE.trans hE3).lt
  have HO4 := Lib.hid hO4
  have HR5 := Lib.hid hR5
  clear hO3 hE3 hR4 hO4 hR5
  go_wp2_with fail
  generalize hgv : w3.heap.size = g2 at *
  clear hgv hmk
  generalize w3.alloc (.cells (madeCells #[.int .i64 0] sz.length) 3) = w4 at hE4 HO4 HR5 ⊢
  clear hE
  go_loopw [11] (fun i wr => ∃ (q : Nat), q ≤ nx.length ∧ i = .int .i64 q ∧ Ext w2 wr ∧ OwnI w2.heap.size (fun x => x = g2) wr (.slice pt sz.length ct) sz.length (withL dropF (nx.take q) sz) ∧ RowI wr g2 (byL byDrop (nx.take q) sz)) (fun i _ => nx.length - (intOf i).toNat)
  case atStart => exact ⟨0, Nat.zero_le _, rfl, hE4, HO4.out, HR5.out⟩
  case round =>
    obtain ⟨q, hq, rfl, hEq, hOq, hRq⟩ := hrel
    clear HO4 HR5 hE4
    by_cases hlq : q < nx.length
    · have hqs : q < sz.length := by omega
      have hlq1 : (q : Int) < nx.length := by omega
      have hqs1 : (q : Int) < sz.length := by omega
      obtain ⟨g, rfl, hgB, hglt, ct1, ct2, hset⟩ := hOq.at' hqs
      have hgg : g ≠ g2 := fun e => hOq.2.2.2.1 g rfl e
      obtain ⟨bn, on, rfl, hbn, an, _, _⟩ := (HNX2.out.ext hEq) q hlq
      obtain ⟨bs, os_, rfl, hbs, as_, _, _⟩ := (HIZ'.out.ext hEq) q hqs
      have hnq := HNB.out (nx.getD q 0) (getD_mem (P := fun x => x ∈ nx) (fun x hx => hx) hlq)
      have hsq := HSB.out (sz.getD q 0) (getD_mem (P := fun x => x ∈ sz) (fun x hx => hx) hqs)
      have hb0 := byL_at byDrop nx sz q hlq (by omega)
      have hbl := byL_length byDrop (nx.take q) sz
      have hcb := hRq.cell (j := q) (by rw [hbl]; exact hqs)
      have hfb := hRq.free q
      have hws := withL_set dropF nx sz q hlq (by omega)
      have hbs' := byL_set byDrop nx sz q hlq (by omega)
      have hO5 := hset (dropF (nx.getD q 0) (sz.getD q 0)) (by unfold dropF; omega)
      rw [hws] at hO5
      have hE5 : Ext w2 (wr.setCell ⟨g, q, none⟩ (.int .i64 (dropF (nx.getD q 0) (sz.getD q 0)))) := hEq.setCell (p := ⟨g, q, none⟩) hgB _
      have hR5 : RowI (wr.setCell ⟨g, q, none⟩ (.int .i64 (dropF (nx.getD q 0) (sz.getD q 0)))) g2 (byL byDrop (nx.take q) sz) := hRq.kept (Below.heap_setCell _ _ _ _ (by simpa using fun e => hgg e.symm))
      have hwl : (withL dropF (nx.take (q + 1)) sz).getD q 0 = dropF (nx.getD q 0) (sz.getD q 0) := by rw [← hws, getD_set (by rw [withL_len]; exact hqs), if_pos rfl]
      have hbng : bn ≠ g := by omega
      have hbsg : bs ≠ g := by omega
      rw [hb0] at hcb
      have HOQ := Lib.hid hOq
      have HRQ := Lib.hid hRq
      have HWS := Lib.hid hws
      clear hset hOq hRq hws
      have hfv : dropF (nx.getD q 0) (sz.getD q 0) = max (sz.getD q 0 - max (nx.getD q 0) (-nx.getD q 0)) 0 := rfl
      rw [hfv] at hO5 hE5 hR5 hwl
      have hbv : byDrop (nx.getD q 0) (sz.getD q 0) = max 0 (nx.getD q 0) := rfl
      rw [hbv] at hbs'
      clear hfv hbv
      generalize nx.getD q 0 = nq at *
      generalize sz.getD q 0 = sq at *
      have hn0 : -4611686018427387904 ≤ nq := by omega
      have hn1 : nq ≤ 4611686018427387904 := by omega
      have HWL := Lib.hid hwl
      have HBS := Lib.hid hbs'
      have HBL := Lib.hid hbl
      clear hbs' hbl hb0 hwl hcb hfb hO5 hE5 hR5
      go_wp2_with fail
      refine wp_region_x2 [MProp.is (.slice (some ⟨g, 0, none⟩) sz.length ct), MProp.is (.int .i64 (q : Int)), MProp.is (.slice (some ⟨bs, os_, none⟩) sz.length cz), MProp.is (.int .i64 (q : Int)), MProp.is (.pointer (some ⟨bs, os_ + q, none⟩)), MProp.is (.int .i64 sq), MProp.is (.slice (some ⟨bn, on, none⟩) nx.length m2), MProp.is (.int .i64 (q : Int)), MProp.is (.pointer (some ⟨bn, on + q, none⟩)), MProp.is (.int .i64 nq), MProp.is (.int .i64 (max nq (-nq))), MProp.is (.int .i64 (sq - max nq (-nq))), MProp.is (.int .i64 (max (sq - max nq (-nq)) 0))] [0, 1, 2, 3, 4, 5, 6, 7, 8, 9, 10, 11, 12] [] [35, 36, 37, 38, 39, 40, 41, 42, 43, 44, 45, 46, 47] 13 14 (by kernel_rfl) (by kernel_rfl) (by kernel_rfl) rfl rfl ?_ ?_ ?_
      · refine mem_cons_m ?_ (mem_cons_m ?_ (mem_cons_m ?_ (mem_cons_m ?_ (mem_cons_m ?_ (mem_cons_m ?_ (mem_cons_m ?_ (mem_cons_m ?_ (mem_cons_m ?_ (mem_cons_m ?_ (mem_cons_m ?_ (mem_cons_m ?_ (mem_cons_m ?_ (mem_nil_m)))))))))))))
        · refine ⟨_, 35, rfl, by kernel_rfl, ?_⟩
          intro u w9 X hE hX hd K hK
          clear hd
          simp only [overlay, List.setIfInBounds_toArray, List.set] at hK ⊢
          go_wp2_with fail
          exact hK _ _ X (Ext.refl _) kept_m hX rfl
        · refine ⟨_, 36, rfl, by kernel_rfl, ?_⟩
          intro u w9 X hE hX hd K hK
          clear hd
          simp only [overlay, List.setIfInBounds_toArray, List.set] at hK ⊢
          go_wp2_with fail
          exact hK _ _ X (Ext.refl _) kept_m hX rfl
        · refine ⟨_, 37, rfl, by kernel_rfl, ?_⟩
          intro u w9 X hE hX hd K hK
          clear hd
          simp only [overlay, List.setIfInBounds_toArray, List.set] at hK ⊢
          go_wp2_with fail
          exact hK _ _ X (Ext.refl _) kept_m hX rfl
        · refine ⟨_, 38, rfl, by kernel_rfl, ?_⟩
          intro u w9 X hE hX hd K hK
          clear hd
          simp only [overlay, List.setIfInBounds_toArray, List.set] at hK ⊢
          go_wp2_with fail
          exact hK _ _ X (Ext.refl _) kept_m hX rfl
        · refine ⟨_, 39, rfl, by kernel_rfl, ?_⟩
          intro u w9 X hE hX hd K hK
          have d2 : u 37 = .slice (some ⟨bs, os_, none⟩) sz.length cz := hd 2 (by kernel_rfl)
          have d3 : u 38 = .int .i64 (q : Int) := hd 3 (by kernel_rfl)
          clear hd
          simp only [overlay, List.setIfInBounds_toArray, List.set, d2, d3] at hK ⊢
          go_wp2_with fail
          exact hK _ _ X (Ext.refl _) kept_m hX rfl
        · refine ⟨_, 40, rfl, by kernel_rfl, ?_⟩
          intro u w9 X hE hX hd K hK
          have d4 : u 39 = .pointer (some ⟨bs, os_ + q, none⟩) := hd 4 (by kernel_rfl)
          clear hd
          simp only [overlay, List.setIfInBounds_toArray, List.set, d4] at hK ⊢
          have e9 : Ext wr w9 := (Ext.refl wr).drew.trans hE
          have as2 := e9.cell as_
          go_wp2_with fail
          exact hK _ _ X (Ext.refl _) kept_m hX rfl
        · refine ⟨_, 41, rfl, by kernel_rfl, ?_⟩
          intro u w9 X hE hX hd K hK
          clear hd
          simp only [overlay, List.setIfInBounds_toArray, List.set] at hK ⊢
          go_wp2_with fail
          exact hK _ _ X (Ext.refl _) kept_m hX rfl
        · refine ⟨_, 42, rfl, by kernel_rfl, ?_⟩
          intro u w9 X hE hX hd K hK
          clear hd
          simp only [overlay, List.setIfInBounds_toArray, List.set] at hK ⊢
          go_wp2_with fail
          exact hK _ _ X (Ext.refl _) kept_m hX rfl
        · refine ⟨_, 43, rfl, by kernel_rfl, ?_⟩
          intro u w9 X hE hX hd K hK
          have d6 : u 41 = .slice (some ⟨bn, on, none⟩) nx.length m2 := hd 6 (by kernel_rfl)
          have d7 : u 42 = .int .i64 (q : Int) := hd 7 (by kernel_rfl)
          clear hd
          simp only [overlay, List.setIfInBounds_toArray, List.set, d6, d7] at hK ⊢
          go_wp2_with fail
          exact hK _ _ X (Ext.refl _) kept_m hX rfl
        · refine ⟨_, 44, rfl, by kernel_rfl, ?_⟩
          intro u w9 X hE hX hd K hK
          have d8 : u 43 = .pointer (some ⟨bn, on + q, none⟩) := hd 8 (by kernel_rfl)
          clear hd
          simp only [overlay, List.setIfInBounds_toArray, List.set, d8] at hK ⊢
          have e9 : Ext wr w9 := (Ext.refl wr).drew.trans hE
          have an2 := e9.cell an
          go_wp2_with fail
          exact hK _ _ X (Ext.refl _) kept_m hX rfl
        · refine ⟨_, 45, rfl, by kernel_rfl, ?_⟩
          intro u w9 X hE hX hd K hK
          have d9 : u 44 = .int .i64 nq := hd 9 (by kernel_rfl)
          clear hd
          simp only [overlay, List.setIfInBounds_toArray, List.set, d9] at hK ⊢
          go_wp2_with fail
          refine (rabs_any nq _ hn0 hn1).mono ?_
          rintro e w8 ⟨rfl, rfl⟩
          go_wp2_with fail
          exact hK _ _ X (Ext.refl _) kept_m hX rfl
        · refine ⟨_, 46, rfl, by kernel_rfl, ?_⟩
          intro u w9 X hE hX hd K hK
          have d5 : u 40 = .int .i64 sq := hd 5 (by kernel_rfl)
          have d10 : u 45 = .int .i64 (max nq (-nq)) := hd 10 (by kernel_rfl)
          clear hd
          simp only [overlay, List.setIfInBounds_toArray, List.set, d5, d10] at hK ⊢
          have hdif : IntKind.i64.wrap (sq - max nq (-nq)) = sq - max nq (-nq) := IntWalk.i64_in _ (by omega)
          go_wp2_with fail
          exact hK _ _ X (Ext.refl _) kept_m hX rfl
        · refine ⟨_, 47, rfl, by kernel_rfl, ?_⟩
          intro u w9 X hE hX hd K hK
          have d11 : u 46 = .int .i64 (sq - max nq (-nq)) := hd 11 (by kernel_rfl)
          clear hd
          simp only [overlay, List.setIfInBounds_toArray, List.set, d11] at hK ⊢
          by_cases hd0 : 0 < sq - max nq (-nq)
          · go_wp2_with fail
            exact hK _ _ X (Ext.refl _) kept_m hX (by show Value.int .i64 _ = .int .i64 _; congr 1; omega)
          · go_wp2_with fail
            exact hK _ _ X (Ext.refl _) kept_m hX (by show Value.int .i64 _ = .int .i64 _; congr 1; omega)
      · exact mem_nil_m
      intro u w9 X hE hX hd
      have d0 : u 35 = .slice (some ⟨g, 0, none⟩) sz.length ct := hd 0 (by decide)
      have d1 : u 36 = .int .i64 (q : Int) := hd 1 (by decide)
      have d2 : u 37 = .slice (some ⟨bs, os_, none⟩) sz.length cz := hd 2 (by decide)
      have d3 : u 38 = .int .i64 (q : Int) := hd 3 (by decide)
      have d4 : u 39 = .pointer (some ⟨bs, os_ + q, none⟩) := hd 4 (by decide)
      have d5 : u 40 = .int .i64 sq := hd 5 (by decide)
      have d6 : u 41 = .slice (some ⟨bn, on, none⟩) nx.length m2 := hd 6 (by decide)
      have d7 : u 42 = .int .i64 (q : Int) := hd 7 (by decide)
      have d8 : u 43 = .pointer (some ⟨bn, on + q, none⟩) := hd 8 (by decide)
      have d9 : u 44 = .int .i64 nq := hd 9 (by decide)
      have d10 : u 45 = .int .i64 (max nq (-nq)) := hd 10 (by decide)
      have d11 : u 46 = .int .i64 (sq - max nq (-nq)) := hd 11 (by decide)
      have d12 : u 47 = .int .i64 (max (sq - max nq (-nq)) 0) := hd 12 (by decide)
      clear hd
      simp only [overlay, List.setIfInBounds_toArray, List.set, d0, d1, d2, d3, d4, d5, d6, d7, d8, d9, d10, d11, d12]
      have e9 : Ext wr w9 := (Ext.refl wr).drew.trans hE
      clear d0 d1 d2 d3 d4 d5 d6 d7 d8 d9 d10 d11 d12 hE hX
      obtain ⟨g', hg', _, _, ct3, ct4, hset9⟩ := (HOQ.out.ext e9).at' hqs
      simp only [Option.some.injEq, Addr.mk.injEq, and_true] at hg'
      subst hg'
      have hO6 := hset9 (max (sq - max nq (-nq)) 0) (by omega)
      have hws : (withL dropF (nx.take q) sz).set q (max (sq - max nq (-nq)) 0) = withL dropF (nx.take (q + 1)) sz := HWS.out
      rw [hws] at hO6
      have hE6 : Ext w2 (w9.setCell ⟨g, q, none⟩ (.int .i64 (max (sq - max nq (-nq)) 0))) := (hEq.trans e9).setCell (p := ⟨g, q, none⟩) hgB _
      have hR6 : RowI (w9.setCell ⟨g, q, none⟩ (.int .i64 (max (sq - max nq (-nq)) 0))) g2 (byL byDrop (nx.take q) sz) := (HRQ.out.ext e9).kept (Below.heap_setCell _ _ _ _ (by simpa using fun e => hgg e.symm))
      have an6 : (w9.setCell ⟨g, q, none⟩ (.int .i64 (max (sq - max nq (-nq)) 0))).cell? ⟨bn, on + q, none⟩ = some (.int .i64 nq) := by
        rw [← e9.cell an]; exact World.cell?_of_block (Below.heap_setCell _ _ _ _ (by simpa using hbng))
      have HX6 := Lib.hid (And.intro hO6 (And.intro hE6 (And.intro hR6 an6)))
      clear hws hset9 hO6 hE6 hR6 an6 an as_ ct1 ct2 u
      generalize (withL dropF (nx.take q) sz).getD q 0 = old at *
      go_wp2_with fail
      refine OnlyN.mk ?_
      obtain ⟨hO6, hE6, hR6, an6⟩ := HX6.out
      clear HX6 ct3 ct4
      generalize w9.setCell ⟨g, q, none⟩ (.int .i64 (max (sq - max nq (-nq)) 0)) = w5 at *
      have hcb2 := hR6.cell (j := q) (by rw [HBL.out]; exact hqs)
      have hfb2 := hR6.free q
      have hR7 := hR6.set q (max 0 nq)
      rw [HBS.out] at hR7
      have hE7 : Ext w2 (w5.setCell ⟨g2, q, none⟩ (.int .i64 (max 0 nq))) := hE6.setCell (p := ⟨g2, q, none⟩) hg2 _
      have hO7 : OwnI w2.heap.size (fun x => x = g2) (w5.setCell ⟨g2, q, none⟩ (.int .i64 (max 0 nq))) (.slice (some ⟨g, 0, none⟩) sz.length ct) sz.length (withL dropF (nx.take (q + 1)) sz) :=
        hO6.same fun g' _ _ hne => ⟨Below.heap_setCell _ _ _ _ (by simpa using hne), hne⟩
      have HX7 := Lib.hid (And.intro hO7 (And.intro hE7 hR7))
      have hmx : (if 0 < nq then nq else 0) = max 0 nq := by split <;> omega
      clear hO6 hE6 hR6 hO7 hE7 hR7
      generalize (byL byDrop (nx.take q) sz).getD q 0 = old2 at *
      go_wp2_with fail
      obtain ⟨hO7, hE7, hR7⟩ := HX7.out
      clear HX7 hmx
      generalize w5.setCell ⟨g2, q, none⟩ (.int .i64 (max 0 nq)) = w7 at *
      clear hcb2 hfb2 an6
      go_roundw
      case rel => exact ⟨q + 1, by omega, by go_num, hE7, hO7, hR7⟩
      case measure => simp [intOf]; omega
    · obtain rfl : q = nx.length := by omega
      rw [List.take_length] at hOq hRq
      obtain ⟨p', c', hpt, hkt, hit⟩ := hOq.ints
      rw [withL_len] at hpt
      simp only [Value.slice.injEq] at hpt
      obtain ⟨rfl, hjunk, rfl⟩ := hpt
      have hbd := byL_bd byDrop (fun x => -4611686018427387904 ≤ x ∧ x ≤ 4611686018427387904) nx sz (fun n hn y hy => by
        have h1 := HNB.out n hn
        have h2 := HSB.out y hy
        unfold byDrop
        first | omega | (split <;> omega)) (by omega)
      have hib := hRq.ints (fun x hx => by have := hbd x hx; omega)
      have hE6 := hE2.trans hEq
      have HM := rmoved_any (fun b => G b ∧ b < w.heap.size) _ _ _ pz pt (some ⟨g2, 0, none⟩) cz ct sz.length sz (withL dropF nx sz) (byL byDrop nx sz) sy ky ny iy _ _ _ _ wr (HY.out.ext hE6) (HIZ'.out.ext hEq) hit hib h8 (withL_len _ _ _) (byL_length _ _ _) HRG.out hbd HKZ.out HNZ.out HIZ.out
      rw [withL_len, byL_length, HRES.out] at HM
      have HM := Lib.hid HM
      obtain ⟨t0, t1, t2, t3⟩ := (HBY2.out.ext hEq).cell
      have hBZ := HBZ2.out.ext hEq
      have hwr := hE6.lt
      clear hjunk hOq hRq hit hib hbd hkt
      go_wp2_with fail
      refine HM.out.mono ?_
      rintro e w6 ⟨e0, e1, e2, e3, rfl, hA, hE7⟩
      have hE8 := hE6.trans hE7
      obtain ⟨ka, ua, va, za, ub, vb, zb, uc, vc, zc, rfl, rfl, rfl, rfl⟩ := hA.form
      replace hBZ := hBZ.ext hE7
      have hlt2 := hBZ.lt
      have hlz0 : w.heap.size + 1 + 1 < wr.heap.size := (HBZ2.out.ext hEq).lt
      obtain ⟨x0, x1, x2, x3⟩ := hBZ.cell
      have f0 := hBZ.free 0
      have f1 := hBZ.free 1
      have f2 := hBZ.free 2
      have f3 := hBZ.free 3
      have HA := Lib.hid hA
      clear hA t0 t1 t2 t3
      go_wp2_with fail
      obtain ⟨gg1, gg2, gg3⟩ := hBZ.put4 hE8 (by omega) (.int .i64 ka) (.slice ua va za) (.slice ub vb zb) (.slice uc vc zc)
      revert gg1 gg2 gg3
      generalize ((((w6.setCell ⟨w.heap.size + 1 + 1, 0, none⟩ (.int .i64 ka)).setCell ⟨w.heap.size + 1 + 1, 1, none⟩ (.slice ua va za)).setCell ⟨w.heap.size + 1 + 1, 2, none⟩ (.slice ub vb zb)).setCell ⟨w.heap.size + 1 + 1, 3, none⟩ (.slice uc vc zc)) = w9
      intro gg1 gg2 gg3
      obtain ⟨z0, z1, z2, z3⟩ := gg2.cell
      have hA9 := ArrAt.mono (G := fun b => w.heap.size ≤ b ∨ G b) (w' := w9) (fun b hb _ => ⟨by rcases hb with hb | hb; exact .inl (by omega); exact .inr hb.1, gg3 b (by rcases hb with hb | hb; omega; exact (by have := hb.2; omega))⟩) _ _ _ _ _ HA.out
      refine bodyPost_ret (v := .tuple #[.agg #[(.int .i64 ka), (.slice ua va za), (.slice ub vb zb), (.slice uc vc zc)], .int .i64 res.2]) ?_ rfl ⟨_, _, _, _, rfl, hA9, gg1⟩
      simp [results, Try.results45, go_sem, z0, z1, z2, z3]

theorem rtake_any (F G : Nat → Prop) (x y : Arr) (c0 c1 c2 c3 d0 d1 d2 d3 : Value) (w : World) (hx : ArrAt F w x c0 c1 c2 c3) (hy : ArrAt G w y d0 d1 d2 d3) :
    Calls Try.prog 42 #[.agg #[c0, c1, c2, c3], .agg #[d0, d1, d2, d3]] w fun e w' =>
      ∃ e0 e1 e2 e3, e = .returned (.tuple #[.agg #[e0, e1, e2, e3], .int .i64 (takeV x y).2]) ∧ ArrAt (fun b => w.heap.size ≤ b ∨ G b) w' (takeV x y).1 e0 e1 e2 e3 ∧ Ext w w' := by
  rw [← rtake_eq]
  by_cases he : tkErr x y = 0
  · exact rtake_ok F G x y _ _ _ _ _ _ _ _ w hx hy he
  · exact rtake_err F G x y _ _ _ _ _ _ _ _ w hx hy he
theorem rdrop_any (F G : Nat → Prop) (x y : Arr) (c0 c1 c2 c3 d0 d1 d2 d3 : Value) (w : World) (hx : ArrAt F w x c0 c1 c2 c3) (hy : ArrAt G w y d0 d1 d2 d3) :
    Calls Try.prog 45 #[.agg #[c0, c1, c2, c3], .agg #[d0, d1, d2, d3]] w fun e w' =>
      ∃ e0 e1 e2 e3, e = .returned (.tuple #[.agg #[e0, e1, e2, e3], .int .i64 (dropV x y).2]) ∧ ArrAt (fun b => w.heap.size ≤ b ∨ G b) w' (dropV x y).1 e0 e1 e2 e3 ∧ Ext w w' := by
  rw [← rdrop_eq]
  by_cases he : tkErr x y = 0
  · exact rdrop_ok F G x y _ _ _ _ _ _ _ _ w hx hy he
  · exact rdrop_err F G x y _ _ _ _ _ _ _ _ w hx hy he
end Go.Proofs.Ytcmnlnamgnbemaa
