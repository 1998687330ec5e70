/-
  THE WALKS of cell.valid and of cell.Pad, where the array is right and the shape great enough. (Printed by gen_cpadr.py.)
-/
import Derived.Test.YtmpjnjhiklaofaaCPad
namespace Go.Proofs.Ytmpjnjhiklaofaa
set_option linter.unusedSimpArgs false
set_option linter.unusedVariables false
open Go.RowKit

set_option maxRecDepth 100000 in
theorem cvalid_any (F H : Nat → Prop) (x : Arr) (c0 c1 c2 c3 : Value) (t : List Int) (pt : Option Addr) (ct : Nat) (w : World) (hx : ArrAt F w x c0 c1 c2 c3) (ht : IntsAt H w pt t) (hto : SlOk t.length ct) :
    Calls Try.prog 85 #[.slice pt t.length ct, .agg #[c0, c1, c2, c3]] w fun e w' => e = .returned (.bool (shapeRight t && (rightV x == 0))) ∧ Ext w w' := by
  have HX := Lib.hid hx
  have HT := Lib.hid ht
  obtain ⟨t1, t1', t1''⟩ := hto
  obtain ⟨kx, p1, l1, m1, p2, l2, m2, p3, l3, m3, rfl, rfl, rfl, rfl⟩ := hx.form
  clear hx ht
  generalize hrv : (shapeRight t && (rightV x == 0)) = rv
  have HRV := Lib.hid hrv
  clear hrv
  go_enter Try.func85, Try.ntmps85
  have hE0 : Ext w (w.alloc (.cells #[.int .i64 kx, .slice p1 l1 m1, .slice p2 l2 m2, .slice p3 l3 m3] 26)) := (Ext.refl _).alloc _
  have hB := box_new w (.int .i64 kx) (.slice p1 l1 m1) (.slice p2 l2 m2) (.slice p3 l3 m3)
  have HE := Lib.hid hE0
  have HB := Lib.hid hB
  clear hE0 hB
  go_wp2_with fail
  generalize w.alloc (.cells #[.int .i64 kx, .slice p1 l1 m1, .slice p2 l2 m2, .slice p3 l3 m3] 26) = w1 at *
  refine (shapeRight_any H pt ct t w1 (HT.out.ext HE.out) (by unfold lenMax; omega)).mono ?_
  rintro e w1' ⟨rfl, rfl⟩
  cases hs : shapeRight t with
  | false =>
    have HSR := Lib.hid hs
    clear hs
    go_wp2_with fail
    go_ret
    exact ⟨ret_bool (by rw [← HRV.out, HSR.out]; rfl), HE.out⟩
  | true =>
    have HSR := Lib.hid hs
    clear hs
    obtain ⟨s0, s1, s2, s3⟩ := HB.out.cell
    go_wp2_with fail
    refine (right_any F x _ _ _ _ w1 (HX.out.ext HE.out)).mono ?_
    rintro e w2 ⟨rfl, hE2⟩
    have hE3 := HE.out.trans hE2
    clear s0 s1 s2 s3
    generalize rightV x = r at *
    by_cases hr : r = 0
    · subst hr
      go_wp2_with fail
      go_ret
      exact ⟨ret_bool (by rw [← HRV.out, HSR.out]; rfl), hE3⟩
    · have hr1 : (r == 0) = false := by simpa using hr
      have HR1 := Lib.hid hr1
      clear hr1
      go_wp2_with fail
      go_ret
      exact ⟨ret_bool (by rw [← HRV.out, HSR.out, HR1.out]; rfl), hE3⟩

/-- What Pad hands back where the array and the shape are in order. -/
def padR (x : Arr) (t : List Int) : Arr × Int := if rightV (padV x t) = 0 then (padV x t, 0) else (Arr.zero, 21)

set_option maxRecDepth 1000000 in
set_option maxHeartbeats 4000000 in
theorem cpadr_any (F H : Nat → Prop) (kx : Int) (s nx : List Int) (ix : List Arr) (c0 c1 c2 c3 : Value) (t : List Int) (pt : Option Addr) (ct : Nat) (w : World) (hx : ArrAt F w (.mk kx s nx ix) c0 c1 c2 c3)
    (ht : IntsAt H w pt t) (hto : SlOk t.length ct) (hrx : rightV (.mk kx s nx ix) = 0) (htr : shapeRight t = true) (hsl : s.length ≤ t.length) (hfo : FrOk (leadV s t.length) t) :
    Calls Try.prog 49 #[.agg #[c0, c1, c2, c3], .slice pt t.length ct] w fun e w' => ∃ d0 d1 d2 d3, e = .returned (.tuple #[.agg #[d0, d1, d2, d3], .int .i64 (padR (.mk kx s nx ix) t).2]) ∧ ArrAt (fun b => w.heap.size ≤ b) w' (padR (.mk kx s nx ix) t).1 d0 d1 d2 d3 ∧ Ext w w' := by
  have hx' := hx
  unfold ArrAt at hx'
  obtain ⟨rfl, hkx, ⟨p1, m1, rfl, ⟨o1, o1', o1''⟩, i1⟩, ⟨p2, m2, rfl, ⟨o2, o2', o2''⟩, i2⟩, ⟨p3, m3, rfl, ⟨o3, o3', o3''⟩, i3⟩⟩ := hx'
  have hto2 := hto
  obtain ⟨t1, t1', t1''⟩ := hto2
  have h8 := (right_parts hrx).2.1
  have ht8 := (shapeRight_go htr).2
  have HX := Lib.hid hx
  have HS := Lib.hid i1
  have HT := Lib.hid ht
  have HFO := Lib.hid hfo
  have HTR := Lib.hid htr
  have HRX := Lib.hid hrx
  clear hx i1 i2 i3 ht hfo htr hrx
  have HV : Hid (padR (.mk kx s nx ix) t = if rightV (padV (.mk kx s nx ix) t) = 0 then (padV (.mk kx s nx ix) t, 0) else (Arr.zero, 21)) := rfl
  generalize padR (.mk kx s nx ix) t = rv at *
  obtain ⟨d, hd⟩ : ∃ d, t.length - s.length = d := ⟨_, rfl⟩
  have hwd : IntKind.i64.wrap ((t.length : Int) - (s.length : Int)) = (d : Int) := by rw [show (t.length : Int) - (s.length : Int) = (d : Int) by omega]; exact IntWalk.i64_in _ (by omega)
  have hst : ∀ i, i < s.length → s.getD i 0 ≤ t.getD (d + i) 0 := fun i hi => by
    have h := (HFO.out.2 (d + i) (by omega)).2
    rw [leadV, hd] at h
    rw [List.getD, List.getD, List.getElem?_append_right (by simp), List.length_replicate, show d + i - d = i by omega] at h
    exact h
  have HST := Lib.hid hst
  have hdl : d + s.length = t.length := by omega
  clear hst hd
  go_enter Try.func49, Try.ntmps49
  have hE0 : Ext w ((w.alloc (.cells #[.int .i64 kx, .slice p1 s.length m1, .slice p2 nx.length m2, .slice p3 ix.length m3] 26)).alloc (.cells #[.int .i64 0, .slice none 0 0, .slice none 0 0, .slice none 0 0] 26)) := ((Ext.refl _).alloc _).alloc _
  have hB := (box_new w (.int .i64 kx) (.slice p1 s.length m1) (.slice p2 nx.length m2) (.slice p3 ix.length m3)).ext ((Ext.refl _).alloc (.cells #[.int .i64 0, .slice none 0 0, .slice none 0 0, .slice none 0 0] 26))
  have hR := box_new (w.alloc (.cells #[.int .i64 kx, .slice p1 s.length m1, .slice p2 nx.length m2, .slice p3 ix.length m3] 26)) (.int .i64 0) (.slice none 0 0) (.slice none 0 0) (.slice none 0 0)
  rw [World.size_alloc] at hR
  have HE := Lib.hid hE0
  have HBx := Lib.hid hB
  have HBr := Lib.hid hR
  obtain ⟨s0, s1, s2, s3⟩ := hB.cell
  clear hE0 hB hR
  go_wp2_with fail
  generalize hw1 : (w.alloc (.cells #[.int .i64 kx, .slice p1 s.length m1, .slice p2 nx.length m2, .slice p3 ix.length m3] 26)).alloc (.cells #[.int .i64 0, .slice none 0 0, .slice none 0 0, .slice none 0 0] 26) = w1 at *
  clear hw1
  have HRR := Lib.hid (right_any F _ _ _ _ _ _ (HX.out.ext HE.out))
  refine HRR.out.mono ?_
  rintro e w2 ⟨rfl, hE1⟩
  rw [HRX.out]
  replace HE := Lib.hid (HE.out.trans hE1)
  replace HBx := Lib.hid (HBx.out.ext hE1)
  replace HBr := Lib.hid (HBr.out.ext hE1)
  clear HRR hE1 s0 s1 s2 s3
  go_wp2_with fail
  refine (shapeRight_any H pt ct t w2 (HT.out.ext HE.out) (by unfold lenMax; omega)).mono ?_
  rintro e w2' ⟨rfl, rfl⟩
  rw [HTR.out]
  obtain ⟨s0, s1, s2, s3⟩ := HBx.out.cell
  go_wp2_with fail
  go_loopw [31] (fun iv wr => ∃ (i : Nat), i ≤ s.length ∧ iv = .int .i64 (i : Int) ∧ wr = w2) (fun iv _ => s.length - (intOf iv).toNat)
  case atStart => exact ⟨0, Nat.zero_le _, rfl, rfl⟩
  case round =>
  obtain ⟨i, his, rfl, rfl⟩ := hrel
  by_cases hlt : i < s.length
  · obtain ⟨b1, f1, rfl, a1, _, _⟩ := (HS.out.ext HE.out).get hlt
    obtain ⟨b2, f2, rfl, a2, _, _⟩ := (HT.out.ext HE.out).get (i := d + i) (by omega)
    have hle := HST.out i hlt
    have hwi : IntKind.i64.wrap ((d : Int) + (i : Int)) = ((d + i : Nat) : Int) := by rw [← Int.natCast_add]; exact IntWalk.i64_in _ (by omega)
    obtain ⟨e, he⟩ : ∃ e, d + i = e := ⟨_, rfl⟩
    rw [he] at a2 hle hwi
    have hel : e < t.length := by omega
    generalize s.getD i 0 = x at *
    generalize t.getD e 0 = y at *
    clear he
    go_wp2_with fail
    go_roundw
    case rel => exact ⟨i + 1, by omega, by go_num, by trivial⟩
    case measure => simp [intOf]; omega
  · have hie : i = s.length := by omega
    subst hie
    go_wp2_with fail
    refine (cpad_any F H kx s nx ix _ _ _ _ t pt ct wr (HX.out.ext HE.out) (HT.out.ext HE.out) hto HRX.out HTR.out hsl HFO.out).mono ?_
    rintro e w3 ⟨y0', y1', y2', y3', rfl, hy', hE3⟩
    obtain ⟨yk, q1, yl1, n1, q2, yl2, n2, q3, yl3, n3, rfl, rfl, rfl, rfl⟩ := hy'.form
    have hEa : Ext w3 (w3.alloc (.cells #[.int .i64 yk, .slice q1 yl1 n1, .slice q2 yl2 n2, .slice q3 yl3 n3] 26)) := (Ext.refl _).alloc _
    have hBp := box_new w3 (.int .i64 yk) (.slice q1 yl1 n1) (.slice q2 yl2 n2) (.slice q3 yl3 n3)
    have hlw := HE.out.lt
    have hlb := HBr.out.lt
    have HY := Lib.hid (ArrAt.mono (G := fun b => w.heap.size + 1 < b) (w' := w3) (fun b hb _ => ⟨by omega, rfl⟩) _ _ _ _ _ hy' |>.ext hEa)
    replace HE := Lib.hid ((HE.out.trans hE3).trans hEa)
    replace HBr := Lib.hid ((HBr.out.ext hE3).ext hEa)
    have HT4 := Lib.hid (HT.out.ext HE.out)
    have HBp := Lib.hid hBp
    clear s0 s1 s2 s3 hE3 hy' hEa hBp HBx
    obtain ⟨s0, s1, s2, s3⟩ := HBp.out.cell
    go_wp2_with fail
    generalize hbp : w3.heap.size = bp at *
    generalize w3.alloc (.cells #[.int .i64 yk, .slice q1 yl1 n1, .slice q2 yl2 n2, .slice q3 yl3 n3] 26) = w4 at *
    clear hbp
    refine (cvalid_any _ H (padV (.mk kx s nx ix) t) _ _ _ _ t pt ct w4 HY.out HT4.out hto).mono ?_
    rintro e w8 ⟨rfl, hE8⟩
    rw [HTR.out, Bool.true_and]
    replace HE := Lib.hid (HE.out.trans hE8)
    replace HBr := Lib.hid (HBr.out.ext hE8)
    replace HBp := Lib.hid (HBp.out.ext hE8)
    replace HY := Lib.hid (HY.out.ext hE8)
    clear s0 s1 s2 s3 hE8
    by_cases hpr : rightV (padV (.mk kx s nx ix) t) = 0
    · have hpb : (rightV (padV (.mk kx s nx ix) t) == 0) = true := by simpa using hpr
      rw [hpb]
      have HPR := Lib.hid hpr
      clear hpr hpb
      have hbz := HBr.out
      obtain ⟨x0, x1, x2, x3⟩ := hbz.cell
      have y0 := hbz.free 0
      have y1 := hbz.free 1
      have y2 := hbz.free 2
      have y3 := hbz.free 3
      obtain ⟨pb0, pb1, pb2, pb3⟩ := HBp.out.cell
      obtain ⟨gg3, gg4, gg5⟩ := hbz.put4 HE.out (by omega) (.int .i64 yk) (.slice q1 yl1 n1) (.slice q2 yl2 n2) (.slice q3 yl3 n3)
      have hA9 : ArrAt (fun b => w.heap.size ≤ b) ((((w8.setCell ⟨w.heap.size + 1, 0, none⟩ (.int .i64 yk)).setCell ⟨w.heap.size + 1, 1, none⟩ (.slice q1 yl1 n1)).setCell ⟨w.heap.size + 1, 2, none⟩ (.slice q2 yl2 n2)).setCell ⟨w.heap.size + 1, 3, none⟩ (.slice q3 yl3 n3)) (padV (.mk kx s nx ix) t) (.int .i64 yk) (.slice q1 yl1 n1) (.slice q2 yl2 n2) (.slice q3 yl3 n3) := ArrAt.mono (fun b hb _ => ⟨by omega, gg5 b (by omega)⟩) _ _ _ _ _ HY.out
      have HG := Lib.hid (And.intro gg3 (And.intro gg4 hA9))
      clear gg3 gg4 gg5 hA9 hbz
      go_wp2_with fail
      obtain ⟨gg3, gg4, hA9⟩ := HG.out
      clear HG
      revert gg3 gg4 hA9
      generalize ((((w8.setCell ⟨w.heap.size + 1, 0, none⟩ (.int .i64 yk)).setCell ⟨w.heap.size + 1, 1, none⟩ (.slice q1 yl1 n1)).setCell ⟨w.heap.size + 1, 2, none⟩ (.slice q2 yl2 n2)).setCell ⟨w.heap.size + 1, 3, none⟩ (.slice q3 yl3 n3)) = w9
      intro gg3 gg4 hA9
      obtain ⟨z0, z1, z2, z3⟩ := gg4.cell
      refine bodyPost_ret (v := .tuple #[.agg #[.int .i64 yk, .slice q1 yl1 n1, .slice q2 yl2 n2, .slice q3 yl3 n3], .int .i64 0]) ?_ rfl ⟨_, _, _, _, by rw [HV.out, if_pos HPR.out], by rw [HV.out, if_pos HPR.out]; exact hA9, gg3⟩
      simp [results, Try.results49, go_sem, z0, z1, z2, z3]

    · have hpb : (rightV (padV (.mk kx s nx ix) t) == 0) = false := by simpa using hpr
      rw [hpb]
      have HPR := Lib.hid hpr
      clear hpr hpb
      have hbz := HBr.out
      obtain ⟨x0, x1, x2, x3⟩ := hbz.cell
      have y0 := hbz.free 0
      have y1 := hbz.free 1
      have y2 := hbz.free 2
      have y3 := hbz.free 3
      obtain ⟨pb0, pb1, pb2, pb3⟩ := HBp.out.cell
      obtain ⟨gg3, gg4, gg5⟩ := hbz.put4 HE.out (by omega) (.int .i64 0) (.slice none 0 0) (.slice none 0 0) (.slice none 0 0)
      have hA9 : ArrAt (fun b => w.heap.size ≤ b) ((((w8.setCell ⟨w.heap.size + 1, 0, none⟩ (.int .i64 0)).setCell ⟨w.heap.size + 1, 1, none⟩ (.slice none 0 0)).setCell ⟨w.heap.size + 1, 2, none⟩ (.slice none 0 0)).setCell ⟨w.heap.size + 1, 3, none⟩ (.slice none 0 0)) (Arr.zero) (.int .i64 0) (.slice none 0 0) (.slice none 0 0) (.slice none 0 0) := Arr.zero_at _ _
      have HG := Lib.hid (And.intro gg3 (And.intro gg4 hA9))
      clear gg3 gg4 gg5 hA9 hbz
      go_wp2_with fail
      obtain ⟨gg3, gg4, hA9⟩ := HG.out
      clear HG
      revert gg3 gg4 hA9
      generalize ((((w8.setCell ⟨w.heap.size + 1, 0, none⟩ (.int .i64 0)).setCell ⟨w.heap.size + 1, 1, none⟩ (.slice none 0 0)).setCell ⟨w.heap.size + 1, 2, none⟩ (.slice none 0 0)).setCell ⟨w.heap.size + 1, 3, none⟩ (.slice none 0 0)) = w9
      intro gg3 gg4 hA9
      obtain ⟨z0, z1, z2, z3⟩ := gg4.cell
      refine bodyPost_ret (v := .tuple #[.agg #[.int .i64 0, .slice none 0 0, .slice none 0 0, .slice none 0 0], .int .i64 21]) ?_ rfl ⟨_, _, _, _, by rw [HV.out, if_neg HPR.out], by rw [HV.out, if_neg HPR.out]; exact hA9, gg3⟩
      simp [results, Try.results49, go_sem, z0, z1, z2, z3]

end Go.Proofs.Ytmpjnjhiklaofaa
