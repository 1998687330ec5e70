/-
  THE WALK of cell.common.
-/
import Derived.Test.YtmpjnjhiklaofaaCellP
namespace Go.Proofs.Ytmpjnjhiklaofaa
set_option linter.unusedSimpArgs false
set_option linter.unusedVariables false
open Go.RowKit

theorem ArrAt.kind {F : Nat → Prop} {w : World} {x : Arr} {c0 c1 c2 c3 : Value} (h : ArrAt F w x c0 c1 c2 c3) : c0 = .int .i64 x.k ∧ -9223372036854775808 ≤ x.k ∧ x.k ≤ 9223372036854775807 := by
  obtain ⟨k, s, n, it⟩ := x
  unfold ArrAt at h
  exact ⟨h.1, h.2.1⟩
theorem all_step {p : Arr → Bool} {l : List Arr} {i : Nat} (h : i < l.length) : (l.drop i).all p = (p l[i] && (l.drop (i + 1)).all p) := by
  rw [List.drop_eq_getElem_cons h, List.all_cons]

set_option maxRecDepth 1000000 in
set_option maxHeartbeats 4000000 in
theorem cwrong_any (F G H : Nat → Prop) (frame : List Int) (pf : Option Addr) (cf : Nat) (l : List Arr) (pl : Option Addr) (cl : Nat) (like : Arr) (d0 d1 d2 d3 : Value) (w : World) (hf : IntsAt F w pf frame) (hfo : SlOk frame.length cf) (hl : ItemsAt G w pl 0 l) (hlo : ItOk l.length cl) (hk : ArrAt H w like d0 d1 d2 d3) :
    Calls Try.prog 79 #[.slice pf frame.length cf, .slice pl l.length cl, .agg #[d0, d1, d2, d3]] w fun e w' => e = .returned (.int .i64 (wrongV frame l like)) ∧ Ext w w' := by
  obtain ⟨f1, f1', f1''⟩ := hfo
  obtain ⟨l1, l1', l1''⟩ := hlo
  have HF := Lib.hid hf
  have HL := Lib.hid hl
  have HK := Lib.hid hk
  obtain ⟨k, p1, n1, m1, p2, n2, m2, p3, n3, m3, rfl, rfl, rfl, rfl⟩ := hk.form
  clear hf hl hk
  have HV : Hid (wrongV frame l like = if shapeRight frame = false ∨ (l.length : Int) ≠ shapeSize frame ∨ (l = [] ∧ rightV like ≠ 0) then 1 else if l.all (fun x => rightV x == 0) = false then 1 else if l.all (fun x => x.k == (l.headD default).k) = false then 14 else 0) := rfl
  generalize wrongV frame l like = rv at *
  go_enter Try.func79, Try.ntmps79
  have hE0 : Ext w (w.alloc (.cells #[.int .i64 k, .slice p1 n1 m1, .slice p2 n2 m2, .slice p3 n3 m3] 26)) := (Ext.refl _).alloc _
  have hB := box_new w (.int .i64 k) (.slice p1 n1 m1) (.slice p2 n2 m2) (.slice p3 n3 m3)
  have HE := Lib.hid hE0
  have HB := Lib.hid hB
  clear hE0 hB
  go_wp2_with fail
  generalize w.alloc (.cells #[.int .i64 k, .slice p1 n1 m1, .slice p2 n2 m2, .slice p3 n3 m3] 26) = w1 at *
  refine (shapeRight_any F pf cf frame w1 (HF.out.ext HE.out) (by unfold lenMax; omega)).mono ?_
  rintro e w1' ⟨rfl, rfl⟩
  cases hsr : shapeRight frame with
  | false =>
    have HR := Lib.hid (show rv = 1 by rw [HV.out, if_pos (.inl hsr)])
    clear hsr HV
    go_wp2_with fail
    go_ret
    exact ⟨ret_int HR.out.symm, HE.out⟩
  | true =>
  have HSR := Lib.hid hsr
  clear hsr
  go_wp2_with fail
  refine (size_any F pf cf frame w1 (HF.out.ext HE.out) (by unfold lenMax; omega)).mono ?_
  rintro e w1' ⟨rfl, rfl⟩
  by_cases hsz : (l.length : Int) = shapeSize frame
  rotate_left
  · have HR := Lib.hid (show rv = 1 by rw [HV.out, if_pos (.inr (.inl hsz))])
    generalize shapeSize frame = sz at *
    clear HV
    go_wp2_with fail
    go_ret
    exact ⟨ret_int HR.out.symm, HE.out⟩
  have HSZ := Lib.hid hsz
  rw [← hsz]
  clear hsz
  -- the cells
  have key : ∀ (wx : World), Ext w wx → Hid (¬ (shapeRight frame = false ∨ (l.length : Int) ≠ shapeSize frame ∨ (l = [] ∧ rightV like ≠ 0))) → Hid (rv = if l.all (fun x => rightV x == 0) = false then 1 else if l.all (fun x => x.k == (l.headD default).k) = false then 14 else 0) := fun wx _ h => by
    show _ = _
    rw [HV.out, if_neg h.out]
  by_cases hle : l = []
  · subst hle
    simp only [List.length_nil, Int.natCast_zero] at *
    obtain ⟨s0, s1, s2, s3⟩ := HB.out.cell
    go_wp2_with fail
    refine (right_any H like _ _ _ _ w1 (HK.out.ext HE.out)).mono ?_
    rintro e w2 ⟨rfl, hE2⟩
    have hE3 := HE.out.trans hE2
    clear s0 s1 s2 s3 key
    by_cases hr : rightV like = 0
    · have HR := Lib.hid (show rv = 0 by rw [HV.out, if_neg (by simp [hr, HSR.out, ← HSZ.out])]; rfl)
      rw [hr]
      clear HV hr
      go_wp2_with fail
      go_loopw [33] (fun iv wr => iv = .int .i64 0 ∧ Ext w wr) (fun _ _ => 0)
      case atStart => exact ⟨rfl, hE3⟩
      case round =>
        obtain ⟨rfl, hE4⟩ := hrel
        obtain ⟨ws, rfl⟩ : ∃ wx : World, wx = wr := ⟨_, rfl⟩
        go_wp2_with fail
        go_loopw [43] (fun iv wq => iv = .int .i64 0 ∧ Ext w wq) (fun _ _ => 0)
        case atStart => exact ⟨rfl, hE4⟩
        case round =>
          obtain ⟨rfl, hE5⟩ := hrel
          go_wp2_with fail
          go_ret
          exact ⟨ret_int HR.out.symm, hE5⟩
    · have HR := Lib.hid (show rv = 1 by rw [HV.out, if_pos (.inr (.inr ⟨by trivial, hr⟩))])
      generalize rightV like = r at *
      clear HV
      go_wp2_with fail
      go_ret
      exact ⟨ret_int HR.out.symm, hE3⟩
  have hlp : 0 < l.length := List.length_pos_iff.2 hle
  have HV2 := key w1 HE.out (Lib.hid (by simp [HSR.out, HSZ.out, hle]))
  have hl0 : ¬ (l.length : Int) = 0 := by omega
  have hl00 : ¬ l.length = 0 := by omega
  have hl01 : ¬ l = [] := hle
  clear HV key hle
  generalize hra : l.all (fun x => rightV x == 0) = ra at *
  have HRA : Hid ((l.drop 0).all (fun x => rightV x == 0) = ra) := Lib.hid (by rw [List.drop_zero]; exact hra)
  clear hra
  go_wp2_with fail
  go_loopw [33] (fun iv wr => ∃ (i : Nat), i ≤ l.length ∧ iv = .int .i64 (i : Int) ∧ Ext w wr ∧ Hid ((l.drop i).all (fun x => rightV x == 0) = ra)) (fun iv _ => l.length - (intOf iv).toNat)
  case atStart => exact ⟨0, Nat.zero_le _, rfl, HE.out, HRA⟩
  case round =>
  obtain ⟨i, hil, rfl, hEr, HRi⟩ := hrel
  clear HRA
  by_cases hlt : i < l.length
  · obtain ⟨b, off, c0, c1, c2, c3, rfl, _, g0, g1, g2, g3, hx⟩ := ItemsAt.get l _ 0 i (HL.out.ext hEr) hlt
    rw [Nat.zero_add] at g0 g1 g2 g3
    obtain ⟨xk, q1, x1, y1, q2, x2, y2, q3, x3, y3, rfl, rfl, rfl, rfl⟩ := hx.form
    have hEb : Ext wr (wr.alloc (.cells #[.int .i64 xk, .slice q1 x1 y1, .slice q2 x2 y2, .slice q3 x3 y3] 26)) := (Ext.refl _).alloc _
    have hBb := box_new wr (.int .i64 xk) (.slice q1 x1 y1) (.slice q2 x2 y2) (.slice q3 x3 y3)
    obtain ⟨s0, s1, s2, s3⟩ := hBb.cell
    have HX := Lib.hid (hx.ext hEb)
    have HEb := Lib.hid (hEr.trans hEb)
    clear hEb hBb hx
    go_wp2_with fail
    generalize wr.alloc (.cells #[.int .i64 xk, .slice q1 x1 y1, .slice q2 x2 y2, .slice q3 x3 y3] 26) = w3 at *
    clear g0 g1 g2 g3
    refine (right_any G l[i] _ _ _ _ w3 HX.out).mono ?_
    rintro e w4 ⟨rfl, hE4⟩
    have hE5 := HEb.out.trans hE4
    have hst := HRi.out
    rw [all_step hlt] at hst
    clear s0 s1 s2 s3 HRi
    by_cases hr : rightV l[i] = 0
    · have HRi : Hid ((l.drop (i + 1)).all (fun x => rightV x == 0) = ra) := by
        show _ = _
        rw [← hst, hr]; simp
      rw [hr]
      clear hst hr
      go_wp2_with fail
      go_roundw
      case rel => exact ⟨i + 1, by omega, by go_num, hE5, HRi⟩
      case measure => simp [intOf]; omega
    · have hra : ra = false := by rw [← hst]; simp [hr]
      have HR := Lib.hid (show rv = 1 by rw [HV2.out, if_pos hra])
      generalize rightV l[i] = r at *
      clear hst hra HV2
      go_wp2_with fail
      go_ret
      exact ⟨ret_int HR.out.symm, hE5⟩
  · have hie : i = l.length := by omega
    subst hie
    have hra : ra = true := by rw [← HRi.out, List.drop_of_length_le (Nat.le_refl _)]; rfl
    have HV3 := Lib.hid (show rv = if l.all (fun x => x.k == (l.headD default).k) = false then 14 else 0 by rw [HV2.out, if_neg (by simp [hra])])
    clear HV2 hra HRi hil hlt
    have hhd : l.headD default = l[0] := by
      cases l with
      | nil => simp at hlp
      | cons y r => rfl
    rw [hhd] at HV3
    generalize hka : l.all (fun x => x.k == (l[0]).k) = ka at *
    have HKA : Hid ((l.drop 0).all (fun x => x.k == (l[0]).k) = ka) := Lib.hid (by rw [List.drop_zero]; exact hka)
    clear hka hhd
    obtain ⟨ws, rfl⟩ : ∃ wx : World, wx = wr := ⟨_, rfl⟩
    go_wp2_with fail
    go_loopw [43] (fun iv wq => ∃ (i : Nat), i ≤ l.length ∧ iv = .int .i64 (i : Int) ∧ Ext w wq ∧ Hid ((l.drop i).all (fun x => x.k == (l[0]).k) = ka)) (fun iv _ => l.length - (intOf iv).toNat)
    case atStart => exact ⟨0, Nat.zero_le _, rfl, hEr, HKA⟩
    case round =>
    obtain ⟨i, hil, rfl, hEq, HKi⟩ := hrel
    clear HKA
    by_cases hlt : i < l.length
    · obtain ⟨b, off, c0, c1, c2, c3, rfl, _, g0, g1, g2, g3, hx⟩ := ItemsAt.get l _ 0 i (HL.out.ext hEq) hlt
      obtain ⟨b', off', e0, e1, e2, e3, hb', _, h0, h1, h2, h3, hy⟩ := ItemsAt.get l _ 0 0 (HL.out.ext hEq) hlp
      simp only [Option.some.injEq, Addr.mk.injEq, and_true] at hb'
      obtain ⟨rfl, rfl⟩ := hb'
      rw [Nat.zero_add] at g0 g1 g2 g3
      simp only [Nat.zero_add, Nat.zero_mul, Nat.add_zero] at h0
      obtain ⟨rfl, hy1, hy2⟩ := hy.kind
      obtain ⟨xk, q1, x1, y1, q2, x2, y2, q3, x3, y3, rfl, rfl, rfl, rfl⟩ := hx.form
      obtain ⟨hxk, hx1, hx2⟩ := hx.kind
      simp only [Value.int.injEq, true_and] at hxk
      have hst := HKi.out
      rw [all_step hlt, ← hxk] at hst
      rw [← hxk] at hx1 hx2
      have HST := Lib.hid hst
      have hEb : Ext wr (wr.alloc (.cells #[.int .i64 xk, .slice q1 x1 y1, .slice q2 x2 y2, .slice q3 x3 y3] 26)) := (Ext.refl _).alloc _
      have h0' := hEb.cell h0
      have hBb := box_new wr (.int .i64 xk) (.slice q1 x1 y1) (.slice q2 x2 y2) (.slice q3 x3 y3)
      obtain ⟨s0, s1, s2, s3⟩ := hBb.cell
      have HEb := Lib.hid (hEq.trans hEb)
      clear hEb hBb hx hy hst HKi h1 h2 h3 hxk
      generalize (l[0]).k = hk0 at *
      go_wp2_with fail
      generalize wr.alloc (.cells #[.int .i64 xk, .slice q1 x1 y1, .slice q2 x2 y2, .slice q3 x3 y3] 26) = w3 at *
      clear g0 g1 g2 g3 h0
      by_cases hkk : xk = hk0
      · have HKi : Hid ((l.drop (i + 1)).all (fun x => x.k == hk0) = ka) := by
          show _ = _
          rw [← HST.out, hkk]; simp
        subst hkk
        go_quiet (fail)
        go_wp2_with fail
        go_roundw
        case rel => exact ⟨i + 1, by omega, by go_num, HEb.out.drewN _, HKi⟩
        case measure => simp [intOf]; omega
      · have hka : ka = false := by rw [← HST.out]; simp [hkk]
        have HR := Lib.hid (show rv = 14 by rw [HV3.out, if_pos hka])
        clear hka HV3 HST
        go_quiet (fail)
        go_wp2_with fail
        go_ret
        exact ⟨ret_int HR.out.symm, HEb.out.drewN _⟩
    · have hie : i = l.length := by omega
      have hka : ka = true := by rw [← HKi.out, List.drop_of_length_le (by omega)]; rfl
      have HR := Lib.hid (show rv = 0 by rw [HV3.out, if_neg (by simp [hka])])
      clear HV3 hka HKi
      go_wp2_with fail
      go_ret
      exact ⟨ret_int HR.out.symm, hEq⟩
end Go.Proofs.Ytmpjnjhiklaofaa

namespace Go.Proofs.Ytmpjnjhiklaofaa
set_option linter.unusedSimpArgs false
set_option linter.unusedVariables false
open Go.RowKit

theorem leadV_getD {s : List Int} {n j : Nat} : (leadV s n).getD j 0 = if j < n - s.length then 1 else s.getD (j - (n - s.length)) 0 := by
  unfold leadV
  simp only [List.getD]
  split
  · rename_i h
    rw [List.getElem?_append_left (by simpa using h)]
    simp [h]
  · rename_i h
    rw [List.getElem?_append_right (by simp; omega), List.length_replicate]
theorem list_ext_getD {a b : List Int} (h : a.length = b.length) (hj : ∀ j, j < a.length → a.getD j 0 = b.getD j 0) : a = b := by
  apply List.ext_getElem h
  intro i h1 h2
  have := hj i h1
  simpa [List.getD, h1, h2] using this
theorem ArrAt.shape {F : Nat → Prop} {w : World} {x : Arr} {c0 c1 c2 c3 : Value} (h : ArrAt F w x c0 c1 c2 c3) : ∃ p c, c1 = .slice p x.sh.length c ∧ SlOk x.sh.length c ∧ IntsAt F w p x.sh := by
  obtain ⟨k, s, n, it⟩ := x
  unfold ArrAt at h
  exact h.2.2.1

set_option maxRecDepth 1000000 in
set_option maxHeartbeats 4000000 in
theorem ccommon_any (G : Nat → Prop) (l : List Arr) (pl : Option Addr) (cl : Nat) (w : World) (hl : ItemsAt G w pl 0 l) (hlo : ItOk l.length cl) (hb : ∀ x ∈ l, x.sh.length ≤ 8) :
    Calls Try.prog 80 #[.slice pl l.length cl] w fun e w' => ∃ g, e = .returned (.slice (some ⟨g, 0, none⟩) (commonV l).length (commonV l).length) ∧ RowI w' g (commonV l) ∧ w.heap.size ≤ g ∧ Ext w w' := by
  obtain ⟨l1, l1', l1''⟩ := hlo
  have HL := Lib.hid (ItemsAt.mono (G := fun b => b < w.heap.size) (w' := w) (fun b _ hlt => ⟨hlt, rfl⟩) _ _ _ hl)
  have HB8 := Lib.hid hb
  have hR8 : rankMax 0 l ≤ 8 := rankMax_le l 0 8 (by omega) hb
  have HLE := Lib.hid (rankMax_ge l 0).2
  rw [commonV_len]
  have HC : Hid (commonV l = commonGo (rankMax 0 l) (List.replicate (rankMax 0 l) 0) l) := rfl
  generalize commonV l = res at *
  have HR0 : Hid (rankMax 0 (l.drop 0) = rankMax 0 l) := Lib.hid (by rw [List.drop_zero])
  generalize rankMax 0 l = R at *
  clear hl hb
  go_enter Try.func80, Try.ntmps80
  go_wp2_with fail
  go_loopw [3, 14] (fun mv iv wr => ∃ (i m : Nat), mv = .int .i64 (m : Int) ∧ iv = .int .i64 (i : Int) ∧ i ≤ l.length ∧ m ≤ 8 ∧ Ext w wr ∧ Hid (rankMax m (l.drop i) = R)) (fun _ iv _ => l.length - (intOf iv).toNat)
  case atStart => exact ⟨0, 0, rfl, rfl, Nat.zero_le _, by omega, Ext.refl _, HR0⟩
  case round =>
  obtain ⟨i, m, rfl, rfl, hil, hm8, hE, HRi⟩ := hrel
  clear HR0
  by_cases hlt : i < l.length
  · obtain ⟨b, off, c0, c1, c2, c3, rfl, _, g0, g1, g2, g3, hx⟩ := ItemsAt.get l _ 0 i (HL.out.ext hE) hlt
    rw [Nat.zero_add] at g0 g1 g2 g3
    obtain ⟨ps, cs, rfl, _, _⟩ := hx.shape
    obtain ⟨xk, q1, x1, y1, q2, x2, y2, q3, x3, y3, rfl, hq1, rfl, rfl⟩ := hx.form
    clear hq1
    have hxl : (l[i]).sh.length ≤ 8 := HB8.out _ (List.getElem_mem hlt)
    have hst := HRi.out
    rw [List.drop_eq_getElem_cons hlt, rankMax] at hst
    have HST := Lib.hid hst
    clear hst HRi hx
    generalize (l[i]).sh.length = sl at *
    have hEb : Ext wr (wr.alloc (.cells #[.int .i64 xk, .slice ps sl cs, .slice q2 x2 y2, .slice q3 x3 y3] 26)) := (Ext.refl _).alloc _
    have hBb := box_new wr (.int .i64 xk) (.slice ps sl cs) (.slice q2 x2 y2) (.slice q3 x3 y3)
    obtain ⟨s0, s1, s2, s3⟩ := hBb.cell
    have HE1 := Lib.hid (hE.trans hEb)
    clear hEb hBb
    go_wp2_with fail
    generalize wr.alloc (.cells #[.int .i64 xk, .slice ps sl cs, .slice q2 x2 y2, .slice q3 x3 y3] 26) = w3 at *
    clear g0 g1 g2 g3
    by_cases hms : m < sl
    · have HRi : Hid (rankMax sl (l.drop (i + 1)) = R) := Lib.hid (by have := HST.out; rwa [if_pos hms] at this)
      clear HST
      go_wp2_with fail
      go_roundw
      case rel => exact ⟨i + 1, sl, rfl, by go_num, by omega, hxl, HE1.out, HRi⟩
      case measure => simp [intOf]; omega
    · have HRi : Hid (rankMax m (l.drop (i + 1)) = R) := Lib.hid (by have := HST.out; rwa [if_neg hms] at this)
      clear HST
      go_wp2_with fail
      go_roundw
      case rel => exact ⟨i + 1, m, rfl, by go_num, by omega, hm8, HE1.out, HRi⟩
      case measure => simp [intOf]; omega
  · have hie : i = l.length := by omega
    subst hie
    have hmR : m = R := by
      have := HRi.out
      rwa [List.drop_of_length_le (Nat.le_refl _), rankMax] at this
    subst hmR
    clear HRi hlt hil
    obtain ⟨wa, rfl⟩ : ∃ wx : World, wx = wr := ⟨_, rfl⟩
    have hmk := run_make_ints m (by omega)
    have hRow := RowI.made (w := wa) m
    have hEa : Ext wa (wa.alloc (.cells (madeCells #[.int .i64 0] m) 3)) := (Ext.refl _).alloc _
    go_wp2_with fail
    generalize hgw : wa.heap.size = g at *
    have hgl : w.heap.size ≤ g := by rw [← hgw]; exact hE.lt
    have HE1 := Lib.hid (hE.trans hEa)
    generalize wa.alloc (.cells (madeCells #[.int .i64 0] m) 3) = w1 at *
    have HROW := Lib.hid hRow
    have HC0 : Hid (commonGo m (List.replicate m 0) (l.drop 0) = res) := Lib.hid (by rw [List.drop_zero]; exact HC.out.symm)
    clear hgw hEa hRow hE HC hmk
    go_loopw [28] (fun iv wr => ∃ (i : Nat) (o : List Int), iv = .int .i64 (i : Int) ∧ i ≤ l.length ∧ o.length = m ∧ RowI wr g o ∧ Ext w wr ∧ Hid (commonGo m o (l.drop i) = res)) (fun iv _ => l.length - (intOf iv).toNat)
    case atStart => exact ⟨0, _, rfl, Nat.zero_le _, by simp, HROW.out, HE1.out, HC0⟩
    case round =>
    obtain ⟨i, o, rfl, hil, hol, hRo, hE, HCi⟩ := hrel
    clear HROW HE1 HC0
    by_cases hlt : i < l.length
    · obtain ⟨b, off, c0, c1, c2, c3, rfl, _, g0, g1, g2, g3, hx⟩ := ItemsAt.get l _ 0 i (HL.out.ext hE) hlt
      rw [Nat.zero_add] at g0 g1 g2 g3
      obtain ⟨ps, cs, rfl, hso, hsi⟩ := hx.shape
      obtain ⟨xk, q1, x1, y1, q2, x2, y2, q3, x3, y3, rfl, hq1, rfl, rfl⟩ := hx.form
      clear hq1
      have hxl : (l[i]).sh.length ≤ 8 := HB8.out _ (List.getElem_mem hlt)
      have hxm : (l[i]).sh.length ≤ m := HLE.out _ (List.getElem_mem hlt)
      have hst := HCi.out
      rw [List.drop_eq_getElem_cons hlt, commonGo] at hst
      have HST := Lib.hid hst
      clear hst HCi hx
      generalize (l[i]).sh = sh at *
      have hzl : (zipMax o (leadV sh m)).length = m := by rw [zipMax_len _ _ (by rw [leadV_len hxm, hol]), hol]
      have HZ : Hid (∀ j, j < m → (zipMax o (leadV sh m)).getD j 0 = if o.getD j 0 < (leadV sh m).getD j 0 then (leadV sh m).getD j 0 else o.getD j 0) := Lib.hid (fun j hj => zipMax_getD _ _ j (by rw [leadV_len hxm, hol]) (by omega))
      generalize zipMax o (leadV sh m) = zm at *
      have hEb : Ext wr (wr.alloc (.cells #[.int .i64 xk, .slice ps sh.length cs, .slice q2 x2 y2, .slice q3 x3 y3] 26)) := (Ext.refl _).alloc _
      have hBb := box_new wr (.int .i64 xk) (.slice ps sh.length cs) (.slice q2 x2 y2) (.slice q3 x3 y3)
      have HE1 := Lib.hid (hE.trans hEb)
      have HBb := Lib.hid hBb
      have HSI := Lib.hid (hsi.ext hEb)
      have hgb : g ≠ wr.heap.size := by have := hRo.lt; omega
      have HRo := Lib.hid (hRo.ext hEb)
      clear hEb hBb hE hsi hRo
      go_wp2_with fail
      generalize wr.alloc (.cells #[.int .i64 xk, .slice ps sh.length cs, .slice q2 x2 y2, .slice q3 x3 y3] 26) = w3 at *
      generalize wr.heap.size = bb at *
      clear g0 g1 g2 g3
      have HSI2 := Lib.hid (HSI.out.mono (G := fun q => q < w.heap.size ∧ q < w3.heap.size) (w' := w3) (fun q hq hlt => ⟨⟨hq, hlt⟩, rfl⟩))
      obtain ⟨wo, hwo⟩ : ∃ wx : World, wx = w3 := ⟨_, rfl⟩
      rw [← hwo] at HE1 HBb HSI HSI2 HRo ⊢
      clear hwo
      go_wp2_with fail
      go_loopw [33] (fun jv wq => ∃ (j : Nat) (o' : List Int), jv = .int .i64 (j : Int) ∧ j ≤ m ∧ o'.length = m ∧ RowI wq g o' ∧ Ext w wq ∧ Box4 wq bb (.int .i64 xk) (.slice ps sh.length cs) (.slice q2 x2 y2) (.slice q3 x3 y3) ∧ (∀ q, q ≠ g → q < wo.heap.size → wq.heap[q]? = wo.heap[q]?) ∧ Hid (∀ k, k < m → o'.getD k 0 = if k < j then zm.getD k 0 else o.getD k 0)) (fun jv _ => m - (intOf jv).toNat)
      case atStart => exact ⟨0, o, rfl, Nat.zero_le _, hol, HRo.out, HE1.out, HBb.out, fun _ _ _ => rfl, Lib.hid (fun k hk => by rw [if_neg (by omega)])⟩
      case round =>
      obtain ⟨j, o', rfl, hjm, hol', hRo, hE, hBq, hfar, HO⟩ := hrel
      clear HRo HE1
      by_cases hjl : j < m
      · have hcell := hRo.cell (j := j) (by omega)
        have hfr := hRo.free j
        have hoj := HO.out j hjl
        rw [if_neg (by omega)] at hoj
        have hzj := HZ.out j hjl
        rw [leadV_getD] at hzj
        rw [hoj] at hcell
        obtain ⟨s0, s1, s2, s3⟩ := hBq.cell
        have hRs := fun v : Int => hRo.set j v
        have hfar2 := fun (v : Value) (q : Nat) (h1 : q ≠ g) (h2 : q < wo.heap.size) => (Below.heap_setCell wr ⟨g, j, none⟩ v q h1).trans (hfar q h1 h2)
        have hE2 := fun v : Value => hE.setCell (p := ⟨g, j, none⟩) hgl v
        have hB2 := fun v : Value => hBq.far (a := ⟨g, j, none⟩) (fun e => hgb e.symm) v
        have HRS := Lib.hid hRs
        have HFAR2 := Lib.hid hfar2
        have HE2 := Lib.hid hE2
        have HB2 := Lib.hid hB2
        clear hRs hfar2 hE2 hB2 hRo hBq
        have HSET : Hid (∀ v : Int, v = zm.getD j 0 → ∀ k, k < m → (o'.set j v).getD k 0 = if k < j + 1 then zm.getD k 0 else o.getD k 0) := Lib.hid (fun v hv k hk => by
          rw [getD_set (by omega)]
          by_cases hkj : j = k
          · subst hkj; rw [if_pos rfl, if_pos (by omega), hv]
          · rw [if_neg hkj, HO.out k hk]
            by_cases h : k < j
            · rw [if_pos h, if_pos (by omega)]
            · rw [if_neg h, if_neg (by omega)])
        by_cases hk : j < m - sh.length
        · rw [if_pos hk] at hzj
          have HZJ := Lib.hid hzj
          have hw1 : IntKind.i64.wrap ((j : Int) - (m : Int)) = (j : Int) - (m : Int) := IntWalk.i64_in _ (by omega)
          have hw2 : IntKind.i64.wrap ((j : Int) - (m : Int) + (sh.length : Int)) = (j : Int) - (m : Int) + (sh.length : Int) := IntWalk.i64_in _ (by omega)
          have hneg : ¬ (0 : Int) ≤ (j : Int) - (m : Int) + (sh.length : Int) := by omega
          generalize o.getD j 0 = a at *
          clear hzj hoj
          by_cases ha : a < 1
          · have hv : (1 : Int) = zm.getD j 0 := by rw [HZJ.out, if_pos ha]
            have HV := Lib.hid hv
            clear hv HZJ
            go_wp2_with fail
            go_roundw
            case rel => exact ⟨j + 1, o'.set j 1, by go_num, by omega, by rw [List.length_set]; exact hol', HRS.out 1, HE2.out _, HB2.out _, HFAR2.out _, Lib.hid (HSET.out 1 HV.out)⟩
            case measure => simp [intOf]; omega
          · have hv : a = zm.getD j 0 := by rw [HZJ.out, if_neg ha]
            have HV := Lib.hid hv
            clear hv HZJ
            go_wp2_with fail
            go_roundw
            case rel => exact ⟨j + 1, o'.set j a, by go_num, by omega, by rw [List.length_set]; exact hol', HRS.out a, HE2.out _, HB2.out _, HFAR2.out _, Lib.hid (HSET.out a HV.out)⟩
            case measure => simp [intOf]; omega
        · rw [if_neg hk] at hzj
          obtain ⟨kk, hkk⟩ : ∃ kk, j - (m - sh.length) = kk := ⟨_, rfl⟩
          rw [hkk] at hzj
          have hkl : kk < sh.length := by omega
          have HZJ := Lib.hid hzj
          have hw1 : IntKind.i64.wrap ((j : Int) - (m : Int)) = (j : Int) - (m : Int) := IntWalk.i64_in _ (by omega)
          have hw2 : IntKind.i64.wrap ((j : Int) - (m : Int) + (sh.length : Int)) = (kk : Int) := by rw [show (j : Int) - (m : Int) + (sh.length : Int) = (kk : Int) by omega]; exact IntWalk.i64_in _ (by omega)
          obtain ⟨b9, o9, rfl, hb9, a9, _, _⟩ := HSI2.out kk hkl
          have hb9g : b9 ≠ g := by have := hb9.1; omega
          have a9' : wr.cell? ⟨b9, o9 + kk, none⟩ = some (.int .i64 (sh.getD kk 0)) := (World.cell?_of_block (hfar b9 hb9g hb9.2)).trans a9
          generalize o.getD j 0 = a at *
          generalize sh.getD kk 0 = dd at *
          clear hzj hoj a9
          by_cases ha : a < dd
          · have hv : dd = zm.getD j 0 := by rw [HZJ.out, if_pos ha]
            have HV := Lib.hid hv
            clear hv HZJ hkk
            go_wp2_with fail
            go_roundw
            case rel => exact ⟨j + 1, o'.set j dd, by go_num, by omega, by rw [List.length_set]; exact hol', HRS.out dd, HE2.out _, HB2.out _, HFAR2.out _, Lib.hid (HSET.out dd HV.out)⟩
            case measure => simp [intOf]; omega
          · have hv : a = zm.getD j 0 := by rw [HZJ.out, if_neg ha]
            have HV := Lib.hid hv
            clear hv HZJ hkk
            go_wp2_with fail
            go_roundw
            case rel => exact ⟨j + 1, o'.set j a, by go_num, by omega, by rw [List.length_set]; exact hol', HRS.out a, HE2.out _, HB2.out _, HFAR2.out _, Lib.hid (HSET.out a HV.out)⟩
            case measure => simp [intOf]; omega
      · have hje : j = m := by omega
        have hoz : o' = zm := list_ext_getD (by rw [hol', hzl]) (fun k hk => by rw [HO.out k (by omega), if_pos (by omega)])
        subst hoz
        clear HO HZ
        go_wp2_with fail
        go_roundw
        case rel => exact ⟨i + 1, o', by go_num, by omega, hol', hRo, hE, HST.out⟩
        case measure => simp [intOf]; omega
    · have hie : i = l.length := by omega
      have hres : o = res := by
        have := HCi.out
        rwa [List.drop_of_length_le (by omega), commonGo] at this
      subst hres
      clear HCi
      go_wp2_with fail
      go_ret
      exact ⟨g, rfl, hRo, hgl, hE⟩
end Go.Proofs.Ytmpjnjhiklaofaa
