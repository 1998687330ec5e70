/-
  THE WALK of law04.CellKeeps: it returns true, and turns nothing that was there. (Printed by gen_cellkeeps.py.)
-/
import Derived.Test.YtmpjnjhiklaofaaCellAwk
import Derived.Test.YtmpjnjhiklaofaaKeepsP
import Derived.Test.YtmpjnjhiklaofaaRRight
namespace Go.Proofs.Ytmpjnjhiklaofaa
set_option linter.unusedSimpArgs false
set_option linter.unusedVariables false
open Go.RowKit

theorem fill_nums {k : Int} {s n : List Int} {it : List Arr} (hk : k = 1 ∨ k = 2 ∨ k = 3) (h3 : k ≠ 3) : fillV (.mk k s n it) = .mk k [] [padN k] [] := by
  rcases hk with rfl | rfl | rfl
  · rfl
  · rfl
  · exact absurd rfl h3
/-- A place that holds a number. -/
def MProp.numAt (x : Int) : MProp := ⟨fun _ w v => ∃ b off, v = .pointer (some ⟨b, off, none⟩) ∧ w.cell? ⟨b, off, none⟩ = some (.int .i64 x), fun _ _ _ _ _ e _ h => by
  obtain ⟨b, off, h1, h2⟩ := h
  exact ⟨b, off, h1, e.cell h2⟩⟩
set_option maxRecDepth 100000 in
set_option maxHeartbeats 8000000 in
theorem cellkeeps_any (F : Nat → Prop) (x : Arr) (c0 c1 c2 c3 : Value) (z : Int) (w : World) (hx : ArrAt F w x c0 c1 c2 c3) (hz : 0 ≤ z ∧ z ≤ 255) :
    Calls Try.prog 14 #[.agg #[c0, c1, c2, c3], .int .u8 z] w fun e w' => e = .returned (.bool true) ∧ Ext w w' := by
  obtain ⟨kx, s, nx, ix⟩ := x
  have hx' := hx
  unfold ArrAt at hx'
  obtain ⟨rfl, hkx, ⟨q1, m1, rfl, ⟨o1, o1', o1''⟩, i1⟩, ⟨q2, m2, rfl, ⟨o2, o2', o2''⟩, i2⟩, ⟨q3, m3, rfl, ⟨o3, o3', o3''⟩, _⟩⟩ := hx'
  have HX := Lib.hid hx
  have HS := Lib.hid i1
  have HN := Lib.hid i2
  clear hx i1 i2
  go_enter Try.func14, Try.ntmps14
  go_upto_region 1 with (fail)
  have hE0 : Ext w (w.alloc (.cells #[.int .i64 kx, .slice q1 s.length m1, .slice q2 nx.length m2, .slice q3 ix.length m3] 26)) := (Ext.refl _).alloc _
  have hBX := box_new w (.int .i64 kx) (.slice q1 s.length m1) (.slice q2 nx.length m2) (.slice q3 ix.length m3)
  have HAx := Lib.hid (HX.out.ext hE0)
  generalize w.alloc (.cells #[.int .i64 kx, .slice q1 s.length m1, .slice q2 nx.length m2, .slice q3 ix.length m3] 26) = w1 at hE0 hBX HAx ⊢
  have HBx := Lib.hid hBX
  have HE := Lib.hid hE0
  clear hBX hE0 HX
  obtain ⟨s0, s1, s2, s3⟩ := HBx.out.cell
  go_wp2_with fail
  refine (few_any _ _ _ _ _ _ 300 w1 HAx.out).mono ?_
  rintro e w2 ⟨rfl, hE1⟩
  replace HE := Lib.hid (HE.out.trans hE1)
  replace HBx := Lib.hid (HBx.out.ext hE1)
  replace HAx := Lib.hid (HAx.out.ext hE1)
  clear s0 s1 s2 s3 hE1
  cases hf1 : fewV (.mk kx s nx ix) 300 with
  | false =>
    clear hf1
    go_wp2_with fail
    refine (cellawake_any _).mono ?_
    rintro e wl ⟨rfl, hEl⟩
    go_wp2_with fail
    go_ret
    exact ⟨rfl, (HE.out).trans hEl⟩
  | true =>
  have HFEW := Lib.hid hf1
  clear hf1
  obtain ⟨s0, s1, s2, s3⟩ := HBx.out.cell
  go_wp2_with fail
  refine (rright6_any _ _ _ _ _ _ w2 HAx.out).mono ?_
  rintro e w3 ⟨rfl, hE1⟩
  replace HE := Lib.hid (HE.out.trans hE1)
  replace HBx := Lib.hid (HBx.out.ext hE1)
  replace HAx := Lib.hid (HAx.out.ext hE1)
  clear s0 s1 s2 s3 hE1
  by_cases hr : rightV (.mk kx s nx ix) = 0
  rotate_left
  · have hr1 : (rightV (.mk kx s nx ix) != 0) = true := by simpa using hr
    generalize rightV (.mk kx s nx ix) = rr at *
    go_wp2_with fail
    refine (cellawake_any _).mono ?_
    rintro e wl ⟨rfl, hEl⟩
    go_wp2_with fail
    go_ret
    exact ⟨rfl, (HE.out).trans hEl⟩
  obtain ⟨hk3, h8, hrs, hn3, hi3⟩ := right_parts hr
  have hsr : shapeRight s = true := by simp only [shapeRight, Bool.and_eq_true, decide_eq_true_eq]; exact ⟨h8, hrs⟩
  have hn6 : nx.length ≤ 65536 := by
    have h9 := shapeSize_hi s
    by_cases h3 : kx = 3
    · rw [(hi3 h3).1]; simp
    · have := (hn3 h3).2; omega
  have HRX := Lib.hid hr
  have HK3 := Lib.hid hk3
  have HRS := Lib.hid hrs
  have HN3 := Lib.hid hn3
  have HSR := Lib.hid hsr
  have HFRS : Hid (FrOk (leadV s s.length) s) := Lib.hid (by rw [leadV_self]; exact ⟨rfl, fun j hj => by
    have hm : s.getD j 0 ∈ s := by simp [List.getD, hj]
    exact ⟨(rightGo_nonneg s 1 hrs _ hm).1, Int.le_refl _⟩⟩)
  have HPS : Hid (padR (.mk kx s nx ix) s = ((.mk kx s nx ix), 0)) := Lib.hid (padR_self hr)
  rw [hr]
  clear hr hk3 hrs hn3 hi3 hsr
  go_upto_region 3 with (fail)
  obtain ⟨s0, s1, s2, s3⟩ := HBx.out.cell
  have hra : RdAll w3 s (.slice q1 s.length m1) := ⟨q1, m1, rfl, ⟨o1, o1', o1''⟩, (HS.out.ext HE.out).mono fun _ _ _ => ⟨trivial, rfl⟩⟩
  have HRA := Lib.hid hra
  clear hra
  go_wp2_with fail
  refine (pad_rd (X := fun _ => False) HPS.out HRX.out HSR.out (Nat.le_refl _) HFRS.out (Rd.mk HAx.out) HRA.out (fun _ h => False.elim h)).mono ?_
  rintro e w4 ⟨x4, rfl, h4, hE4⟩
  clear s0 s1 s2 s3 HRA
  obtain ⟨c0, c1, c2, c3, rfl, hA9⟩ := h4
  obtain ⟨ky1, pay1, lay1, may1, pby1, lby1, mby1, pcy1, lcy1, mcy1, rfl, rfl, rfl, rfl⟩ := hA9.form
  have hEn := (hE4).alloc (.cells #[(.int .i64 ky1), (.slice pay1 lay1 may1), (.slice pby1 lby1 mby1), (.slice pcy1 lcy1 mcy1)] 26)
  have hBn := box_new w4 (.int .i64 ky1) (.slice pay1 lay1 may1) (.slice pby1 lby1 mby1) (.slice pcy1 lcy1 mcy1)
  have hAn := hA9.ext ((Ext.refl _).alloc (.cells #[(.int .i64 ky1), (.slice pay1 lay1 may1), (.slice pby1 lby1 mby1), (.slice pcy1 lcy1 mcy1)] 26))
  clear hA9 hE4
  have HF := Lib.hid (And.intro hEn (And.intro hBn hAn))
  clear hEn hBn hAn
  go_upto_region 4 with (fail)
  obtain ⟨hEn, hBn, hAn⟩ := HF.out
  clear HF
  generalize hbz : w4.heap.size = by1 at *
  clear hbz
  generalize w4.alloc (.cells #[(.int .i64 ky1), (.slice pay1 lay1 may1), (.slice pby1 lby1 mby1), (.slice pcy1 lcy1 mcy1)] 26) = wk2 at *
  replace HBx := Lib.hid (HBx.out.ext hEn)
  replace HAx := Lib.hid (HAx.out.ext hEn)
  replace HE := Lib.hid (HE.out.trans (hEn))
  have HBp := Lib.hid hBn
  have HAp := Lib.hid hAn
  clear hEn hBn hAn
  obtain ⟨s0, s1, s2, s3⟩ := HBx.out.cell
  obtain ⟨t0, t1, t2, t3⟩ := HBp.out.cell
  go_wp2_with fail
  refine (same_true (Rd.mk HAp.out) (Rd.mk HAx.out) rfl rfl).mono ?_
  rintro e w5 ⟨rfl, hE5⟩
  replace HE := Lib.hid (HE.out.trans hE5)
  replace HBx := Lib.hid (HBx.out.ext hE5)
  replace HAx := Lib.hid (HAx.out.ext hE5)
  clear s0 s1 s2 s3 t0 t1 t2 t3 HBp HAp hE5
  obtain ⟨s0, s1, s2, s3⟩ := HBx.out.cell
  go_wp2_with fail
  go_loopw [7] (fun iv wr => ∃ (i : Nat), iv = .int .i64 (i : Int) ∧ i ≤ s.length ∧ wr = w5 ∧ Hid (∀ d ∈ s.take i, d ≤ 40)) (fun iv _ => s.length - (intOf iv).toNat)
  case atStart => exact ⟨0, rfl, Nat.zero_le _, rfl, Lib.hid (by simp)⟩
  case round =>
  obtain ⟨i, rfl, hil, rfl, HI40⟩ := hrel
  by_cases hlt : i < s.length
  · obtain ⟨b1, f1, rfl, a1, _, _⟩ := (HS.out.ext HE.out).get hlt
    by_cases h40 : 40 < s.getD i 0
    · generalize s.getD i 0 = dd at *
      go_wp2_with fail
      refine (cellawake_any _).mono ?_
      rintro e wl ⟨rfl, hEl⟩
      go_wp2_with fail
      go_ret
      exact ⟨rfl, (HE.out).trans hEl⟩
    · have HI41 : Hid (∀ d ∈ s.take (i + 1), d ≤ 40) := Lib.hid (fun d hd => by
        rw [List.take_succ_eq_append_getElem hlt] at hd
        rcases List.mem_append.1 hd with h | h
        · exact HI40.out d h
        · rw [List.mem_singleton] at h
          simp only [List.getD, hlt, List.getElem?_eq_getElem, Option.getD_some] at h40
          omega)
      generalize s.getD i 0 = dd at *
      clear HI40
      go_wp2_with fail
      go_roundw
      case rel => exact ⟨i + 1, by go_num, by omega, by trivial, HI41⟩
      case measure => simp [intOf]; omega
  have hie : i = s.length := by omega
  subst hie
  obtain ⟨w6, rfl⟩ : ∃ wx : World, wx = wr := ⟨_, rfl⟩
  have h40 : ∀ d ∈ s, d ≤ 40 := by
    have := HI40.out
    rwa [List.take_of_length_le (Nat.le_refl _)] at this
  have H40 := Lib.hid h40
  clear HI40 h40 hlt hil
  by_cases hs0 : s.length = 0
  · have hs0' : (s.length : Int) = 0 := by omega
    go_wp2_with fail
    refine (cellawake_any _).mono ?_
    rintro e wl ⟨rfl, hEl⟩
    go_wp2_with fail
    go_ret
    exact ⟨rfl, (HE.out).trans hEl⟩
  by_cases hs3 : 3 < s.length
  · have hs3' : (3 : Int) < (s.length : Int) := by omega
    have hs0' : ¬ (s.length : Int) = 0 := by omega
    go_wp2_with fail
    refine (cellawake_any _).mono ?_
    rintro e wl ⟨rfl, hEl⟩
    go_wp2_with fail
    go_ret
    exact ⟨rfl, (HE.out).trans hEl⟩
  by_cases hkb : kx = 3
  · have hs3' : ¬ (3 : Int) < (s.length : Int) := by omega
    have hs0' : ¬ (s.length : Int) = 0 := by omega
    have hkb' : (kx == 3) = true := by simpa using hkb
    clear hkb
    go_wp2_with fail
    refine (cellawake_any _).mono ?_
    rintro e wl ⟨rfl, hEl⟩
    go_wp2_with fail
    go_ret
    exact ⟨rfl, (HE.out).trans hEl⟩
  have hs3' : ¬ (3 : Int) < (s.length : Int) := by omega
  have hs0' : ¬ (s.length : Int) = 0 := by omega
  have hkb' : (kx == 3) = false := by simpa using hkb
  obtain ⟨hix, hnz⟩ := HN3.out hkb
  subst hix
  obtain ⟨d, r, rfl⟩ : ∃ d r, s = d :: r := by
    cases s with
    | nil => exact absurd rfl hs0
    | cons d r => exact ⟨d, r, rfl⟩
  have hm : 0 ≤ z.tmod 20 ∧ z.tmod 20 ≤ 19 := by
    have h1 := Int.tmod_lt_of_pos z (show (0 : Int) < 20 by omega)
    have h2 := Int.tmod_nonneg 20 hz.1
    omega
  have hfn := few_len HFEW.out hn6
  have hd0 := rightGo_nonneg _ 1 HRS.out d (by simp)
  have hrow := rows_right HRS.out (by omega) H40.out hnz (by omega) hm
  have hfro := rows_fr HRS.out hm.1
  obtain ⟨q, hpq, hq6⟩ := keeps_rows HRX.out hkb hrow hm.1
  have HROW := Lib.hid hrow
  have HFRO := Lib.hid hfro
  have HPQ := Lib.hid hpq
  obtain ⟨m, hmz⟩ : ∃ m, z.tmod 20 = m := ⟨_, rfl⟩
  rw [hmz] at hm HROW HFRO HPQ
  obtain ⟨dm, hdm⟩ : ∃ dm, d + m = dm := ⟨_, rfl⟩
  have hwa : IntKind.i64.wrap (d + m) = dm := by rw [hdm]; exact IntWalk.i64_in _ (by omega)
  rw [hdm] at HROW HFRO HPQ
  have hdmb : 0 ≤ dm ∧ dm ≤ 100000 := by omega
  obtain ⟨b1, f1, rfl, a1, _, _⟩ := (HS.out.ext HE.out).get (i := 0) (by simp)
  simp only [List.getD_cons_zero, Nat.add_zero] at a1
  have hcut := HS.out.cut (n := r.length) 1 m1 o1
  simp only [List.drop_succ_cons, List.drop_zero, List.take_length] at hcut
  have hrd : ∀ w, (Instr.sliceAt 23 (.slice (some ⟨b1, f1, none⟩) (d :: r).length m1) (some (.int .i64 1)) none none).run Try.prog w = .ok (.slice (cutAt (some ⟨b1, f1, none⟩) 1 m1 1) ((d :: r).length - 1) (m1 - 1)) w := fun w => slice_l (some ⟨b1, f1, none⟩) (d :: r).length m1 w 1 (by simp)
  generalize cutAt (some ⟨b1, f1, none⟩) 1 m1 1 = pd at *
  obtain ⟨md, hmd⟩ : ∃ md, m1 - 1 = md := ⟨_, rfl⟩
  have hrl : (d :: r).length - 1 = r.length := by simp
  rw [hrl, hmd] at hrd
  have hrm : r.length ≤ md ∧ md ≤ 9223372036854775807 ∧ r.length ≤ 8 := by simp only [List.length_cons] at o1 h8; omega
  have HCUT := Lib.hid hcut
  obtain ⟨sl, hsl⟩ : ∃ sl, (d :: r).length = sl := ⟨_, rfl⟩
  have HSL := Lib.hid hsl
  have hsl0 : 0 < sl := by rw [← hsl]; simp
  rw [hsl] at hrd s1 HBx HAx h8 o1 hs0 hs3 hs3' hs0' o1'' ⊢
  obtain ⟨sh, hsh⟩ : ∃ sh, [dm] ++ r = sh := ⟨_, rfl⟩
  have HSH := Lib.hid hsh
  have hsh2 : dm :: r = sh := hsh
  rw [hsh2] at HROW HFRO HPQ
  have hshl : sh.length = sl := by rw [← hsh, ← hsl]; simp
  have HSHL := Lib.hid hshl
  clear hcut hmd hrl hsl hsh hsh2 hshl hdm hfn hd0 hrow hfro hpq hnz 
  go_wp2_with fail
  refine wp_region_z1 [MProp.is (.pointer (some ⟨w.heap.size, 1, none⟩)), MProp.is (.slice (some ⟨b1, f1, none⟩) sl m1), MProp.is (.pointer (some ⟨b1, f1, none⟩)), MProp.is (.int .i64 d), MProp.is (.int .u8 z), MProp.is (.int .i64 z), MProp.is (.int .i64 m), MProp.is (.int .i64 dm), MProp.chain w6.heap.size ([dm]), MProp.is (.pointer (some ⟨w.heap.size, 1, none⟩)), MProp.is (.slice (some ⟨b1, f1, none⟩) sl m1), MProp.rdi r, MProp.chain w6.heap.size (sh)] [0, 1, 2, 3, 4, 5, 6, 7, 9, 10, 11] [8, 12] [66, 67, 68, 69, 70, 71, 72, 73, 75, 76, 77, 74, 78] 13 (by kernel_rfl) (by kernel_rfl) (by kernel_rfl) (by kernel_rfl) rfl ?_ ?_ ?_ ?_
  · exact mem_cons_m (zst_is _) (mem_cons_m (zst_is _) (mem_cons_m (zst_is _) (mem_cons_m (zst_is _) (mem_cons_m (zst_is _) (mem_cons_m (zst_is _) (mem_cons_m (zst_is _) (mem_cons_m (zst_is _) (mem_cons_m (zst_is _) (mem_cons_m (zst_is _) (mem_cons_m (zst_rdi _) (mem_nil_m)))))))))))
  · refine mem_cons_m ?_ (mem_cons_m ?_ (mem_cons_m ?_ (mem_cons_m ?_ (mem_cons_m ?_ (mem_cons_m ?_ (mem_cons_m ?_ (mem_cons_m ?_ (mem_cons_m ?_ (mem_cons_m ?_ (mem_cons_m ?_ (mem_nil_m)))))))))))
    · refine ⟨_, 66, rfl, by kernel_rfl, ?_⟩
      intro u w9 X hE hX hd K hK
      clear hd
      simp only [overlay, List.setIfInBounds_toArray, List.set] at hK ⊢
      go_wp2_with fail
      exact hK _ _ X (Ext.refl _) kept_m hX rfl
    · refine ⟨_, 67, rfl, by kernel_rfl, ?_⟩
      intro u w9 X hE hX hd K hK
      have d0 : u 66 = .pointer (some ⟨w.heap.size, 1, none⟩) := hd 0 (by kernel_rfl)
      clear hd
      simp only [overlay, List.setIfInBounds_toArray, List.set, d0] at hK ⊢
      have e9 : Ext w6 w9 := (Ext.refl w6).drew.trans hE
      obtain ⟨s0, s1, s2, s3⟩ := (HBx.out.ext e9).cell
      go_wp2_with fail
      exact hK _ _ X (Ext.refl _) kept_m hX rfl
    · refine ⟨_, 68, rfl, by kernel_rfl, ?_⟩
      intro u w9 X hE hX hd K hK
      have d1 : u 67 = .slice (some ⟨b1, f1, none⟩) sl m1 := hd 1 (by kernel_rfl)
      clear hd
      simp only [overlay, List.setIfInBounds_toArray, List.set, d1] at hK ⊢
      go_wp2_with fail
      exact hK _ _ X (Ext.refl _) kept_m hX rfl
    · refine ⟨_, 69, rfl, by kernel_rfl, ?_⟩
      intro u w9 X hE hX hd K hK
      have d2 : u 68 = .pointer (some ⟨b1, f1, none⟩) := hd 2 (by kernel_rfl)
      clear hd
      simp only [overlay, List.setIfInBounds_toArray, List.set, d2] at hK ⊢
      have e9 : Ext w6 w9 := (Ext.refl w6).drew.trans hE
      have a2 := e9.cell a1
      go_wp2_with fail
      exact hK _ _ X (Ext.refl _) kept_m hX rfl
    · refine ⟨_, 70, rfl, by kernel_rfl, ?_⟩
      intro u w9 X hE hX hd K hK
      clear hd
      simp only [overlay, List.setIfInBounds_toArray, List.set] at hK ⊢
      go_wp2_with fail
      exact hK _ _ X (Ext.refl _) kept_m hX rfl
    · refine ⟨_, 71, rfl, by kernel_rfl, ?_⟩
      intro u w9 X hE hX hd K hK
      have d4 : u 70 = .int .u8 z := hd 4 (by kernel_rfl)
      clear hd
      simp only [overlay, List.setIfInBounds_toArray, List.set, d4] at hK ⊢
      go_wp2_with fail
      exact hK _ _ X (Ext.refl _) kept_m hX rfl
    · refine ⟨_, 72, rfl, by kernel_rfl, ?_⟩
      intro u w9 X hE hX hd K hK
      have d5 : u 71 = .int .i64 z := hd 5 (by kernel_rfl)
      clear hd
      simp only [overlay, List.setIfInBounds_toArray, List.set, d5] at hK ⊢
      go_wp2_with fail
      exact hK _ _ X (Ext.refl _) kept_m hX rfl
    · refine ⟨_, 73, rfl, by kernel_rfl, ?_⟩
      intro u w9 X hE hX hd K hK
      have d3 : u 69 = .int .i64 d := hd 3 (by kernel_rfl)
      have d6 : u 72 = .int .i64 m := hd 6 (by kernel_rfl)
      clear hd
      simp only [overlay, List.setIfInBounds_toArray, List.set, d3, d6] at hK ⊢
      go_wp2_with fail
      exact hK _ _ X (Ext.refl _) kept_m hX rfl
    · refine ⟨_, 75, rfl, by kernel_rfl, ?_⟩
      intro u w9 X hE hX hd K hK
      clear hd
      simp only [overlay, List.setIfInBounds_toArray, List.set] at hK ⊢
      go_wp2_with fail
      exact hK _ _ X (Ext.refl _) kept_m hX rfl
    · refine ⟨_, 76, rfl, by kernel_rfl, ?_⟩
      intro u w9 X hE hX hd K hK
      have d9 : u 75 = .pointer (some ⟨w.heap.size, 1, none⟩) := hd 9 (by kernel_rfl)
      clear hd
      simp only [overlay, List.setIfInBounds_toArray, List.set, d9] at hK ⊢
      have e9 : Ext w6 w9 := (Ext.refl w6).drew.trans hE
      obtain ⟨s0, s1, s2, s3⟩ := (HBx.out.ext e9).cell
      go_wp2_with fail
      exact hK _ _ X (Ext.refl _) kept_m hX rfl
    · refine ⟨_, 77, rfl, by kernel_rfl, ?_⟩
      intro u w9 X hE hX hd K hK
      have d10 : u 76 = .slice (some ⟨b1, f1, none⟩) sl m1 := hd 10 (by kernel_rfl)
      clear hd
      simp only [overlay, List.setIfInBounds_toArray, List.set, d10] at hK ⊢
      have e9 : Ext w6 w9 := (Ext.refl w6).drew.trans hE
      go_wp2_with fail
      exact hK _ _ X (Ext.refl _) kept_m hX (RdIX.old (HCUT.out.ext HE.out) ⟨hrm.1, hrm.2.1, by omega⟩ e9 hX.lo)
  · refine mem_cons_m ?_ (mem_cons_m ?_ (mem_nil_m))
    · refine ⟨_, 74, rfl, by kernel_rfl, ?_⟩
      intro u w9 X hE hX hd K hK
      have d7 : u 73 = .int .i64 dm := hd 7 (by kernel_rfl)
      clear hd
      simp only [overlay, List.setIfInBounds_toArray, List.set, d7] at hK ⊢
      have hlt' : w6.heap.size ≤ w9.heap.size := hE.lt
      go_wp2_with fail
      exact hK _ _ (fun b => X b ∨ b = w9.heap.size) (hE.trans ((Ext.refl _).alloc _)) (Chg.of_ext ((Ext.refl _).alloc _)) added_m (XIn.add hX hE _) ⟨_, _, rfl, .inr ⟨OwnI.of_row (rowI_new' w9 [dm]) rfl (by simp) hlt' (fun h => h) (fun x hx => by rw [List.mem_singleton] at hx; omega), _, rfl, .inr rfl⟩⟩
    · refine ⟨_, 78, rfl, by kernel_rfl, ?_⟩
      intro u w9 X hE hX hd K hK
      have d8 : ∃ p c, u 74 = .slice p ([dm]).length c ∧ ChainRow w6.heap.size X w9 (.slice p ([dm]).length c) ([dm]).length ([dm]) := hd 8 (by kernel_rfl)
      have d11 : RdIX X w9 r (u 77) := hd 11 (by kernel_rfl)
      clear hd
      simp only [overlay, List.setIfInBounds_toArray, List.set] at hK ⊢
      obtain ⟨p0, c0, hv0, hc0⟩ := d8
      obtain ⟨p3', c3', hv3, hk3', hi3'⟩ := d11
      simp only [hv0, hv3] at hK ⊢
      refine wpList_chain rfl _ _ rfl w6.drew X _ [dm].length [dm] p3' c3' r rfl hc0 rfl hi3' hE hX (by simp only [List.length_singleton]; omega) ?_
      intro v' w' X' f0 f1 f2 f3 f4
      rw [← List.length_append, HSH.out] at f4
      obtain ⟨pv, cv, rfl, _⟩ := f4.own.1.form
      exact hK _ _ X' f0 f1 f2 f3 ⟨pv, cv, rfl, f4⟩
  intro u w9 X hE hX hd hdc
  have d0 : u 66 = .pointer (some ⟨w.heap.size, 1, none⟩) := hd 0 (by decide)
  have d1 : u 67 = .slice (some ⟨b1, f1, none⟩) sl m1 := hd 1 (by decide)
  have d2 : u 68 = .pointer (some ⟨b1, f1, none⟩) := hd 2 (by decide)
  have d3 : u 69 = .int .i64 d := hd 3 (by decide)
  have d4 : u 70 = .int .u8 z := hd 4 (by decide)
  have d5 : u 71 = .int .i64 z := hd 5 (by decide)
  have d6 : u 72 = .int .i64 m := hd 6 (by decide)
  have d7 : u 73 = .int .i64 dm := hd 7 (by decide)
  have d9 : u 75 = .pointer (some ⟨w.heap.size, 1, none⟩) := hd 9 (by decide)
  have d10 : u 76 = .slice (some ⟨b1, f1, none⟩) sl m1 := hd 10 (by decide)
  have d11 : RdIX X w9 r (u 77) := hd 11 (by decide)
  have d12 : ∃ p c, u 78 = .slice p (sh).length c ∧ ChainRow w6.heap.size X w9 (.slice p (sh).length c) (sh).length (sh) := hdc 1 rfl
  clear hd hdc
  simp only [overlay, List.setIfInBounds_toArray, List.set, d0, d1, d2, d3, d4, d5, d6, d7, d9, d10]
  obtain ⟨ps, cs, hvs, hcs⟩ := d12
  have hos := hcs.own.1
  simp only [hvs]
  have e9 : Ext w6 w9 := (Ext.refl w6).drew.trans hE
  obtain ⟨ps', cs', hv9, hks, his⟩ := hos.ints
  simp only [Value.slice.injEq] at hv9
  obtain ⟨rfl, _, rfl⟩ := hv9
  have hrs : RdAll w9 sh (.slice ps sh.length cs) := ⟨ps, cs, rfl, hks, his.mono fun _ _ _ => ⟨trivial, rfl⟩⟩
  have HRSH := Lib.hid hrs
  replace HE := Lib.hid (HE.out.trans e9)
  replace HBx := Lib.hid (HBx.out.ext e9)
  replace HAx := Lib.hid (HAx.out.ext e9)
  clear d0 d1 d2 d3 d4 d5 d6 d7 d9 d10 d11 hcs hos his hks hrs hX hE e9 hvs a1 hwa hrd hmz
  generalize u 74 = z74 at *
  generalize u 77 = z77 at *
  generalize u 78 = z78 at *
  clear u
  obtain ⟨w7, hw7⟩ : ∃ wx : World, wx = w9 := ⟨_, rfl⟩
  rw [← hw7] at HE HBx HAx HRSH ⊢
  clear hw7
  have hlx : (Arr.mk kx (d :: r) nx []).sh.length ≤ sh.length := by rw [HSHL.out]; exact Nat.le_of_eq HSL.out
  have HLX := Lib.hid hlx
  clear hlx
  go_wp2_with fail
  refine OnlyN.mk ?_
  obtain ⟨s0, s1, s2, s3⟩ := HBx.out.cell
  go_wp2_with fail
  refine (pad_rd (X := fun _ => False) HPQ.out HRX.out HROW.out HLX.out HFRO.out (Rd.mk HAx.out) HRSH.out (fun _ h => False.elim h)).mono ?_
  rintro e w8 ⟨x8, rfl, h8', hE8⟩
  clear s0 s1 s2 s3
  obtain ⟨c0, c1, c2, c3, rfl, hA9⟩ := h8'
  obtain ⟨ky61, pay61, lay61, may61, pby61, lby61, mby61, pcy61, lcy61, mcy61, rfl, rfl, rfl, rfl⟩ := hA9.form
  have hEn := (hE8).alloc (.cells #[(.int .i64 ky61), (.slice pay61 lay61 may61), (.slice pby61 lby61 mby61), (.slice pcy61 lcy61 mcy61)] 26)
  have hBn := box_new w8 (.int .i64 ky61) (.slice pay61 lay61 may61) (.slice pby61 lby61 mby61) (.slice pcy61 lcy61 mcy61)
  have hAn := hA9.ext ((Ext.refl _).alloc (.cells #[(.int .i64 ky61), (.slice pay61 lay61 may61), (.slice pby61 lby61 mby61), (.slice pcy61 lcy61 mcy61)] 26))
  clear hA9 hE8
  have HF := Lib.hid (And.intro hEn (And.intro hBn hAn))
  clear hEn hBn hAn
  go_upto_region 15 with (fail)
  obtain ⟨hEn, hBn, hAn⟩ := HF.out
  clear HF
  generalize hbz : w8.heap.size = by61 at *
  clear hbz
  generalize w8.alloc (.cells #[(.int .i64 ky61), (.slice pay61 lay61 may61), (.slice pby61 lby61 mby61), (.slice pcy61 lcy61 mcy61)] 26) = wk62 at *
  replace HBx := Lib.hid (HBx.out.ext hEn)
  replace HAx := Lib.hid (HAx.out.ext hEn)
  replace HRSH := Lib.hid (HRSH.out.ext hEn)
  replace HE := Lib.hid (HE.out.trans (hEn))
  have HBy := Lib.hid hBn
  have HAy := Lib.hid hAn
  clear hEn hBn hAn

  obtain ⟨yn, hyn⟩ : ∃ yn, nx ++ List.replicate q (padN kx) = yn := ⟨_, rfl⟩
  have hyl : yn.length = nx.length + q := by rw [← hyn]; simp
  have hyg : ∀ i, i < nx.length → yn.getD i 0 = nx.getD i 0 := fun i hi => by rw [← hyn, List.getD, List.getD, List.getElem?_append_left hi]
  have hyf : ∀ i, nx.length ≤ i → i < yn.length → yn.getD i 0 = padN kx := fun i hi hi2 => by
    rw [← hyn, List.getD, List.getElem?_append_right hi, List.getElem?_replicate, if_pos (by omega)]; rfl
  have HYG := Lib.hid hyg
  have HYF := Lib.hid hyf
  have hay := HAy.out
  rw [hyn] at hay
  unfold ArrAt at hay
  obtain ⟨e0, _, ⟨_, _, e1, hky1, hiy1⟩, ⟨_, _, e2, hky2, hiy2⟩, _⟩ := hay
  cases e0
  cases e1
  cases e2
  have HYS := Lib.hid hiy1
  have HYK := Lib.hid hky1
  have HYN := Lib.hid hiy2
  clear hyg hyf hyn HAy hiy1 hiy2
  obtain ⟨y1, y1', y1''⟩ := hky1
  obtain ⟨y2, y2', y2''⟩ := hky2
  obtain ⟨s0, s1, s2, s3⟩ := HBx.out.cell
  obtain ⟨t0, t1, t2, t3⟩ := HBy.out.cell
  have hnlt : ¬ ((yn.length : Int) < (nx.length : Int)) := by omega
  have HYL := Lib.hid hyl
  clear hyl
  go_wp2_with fail
  clear s0 s1 s2 s3 t0 t1 t2 t3
  go_loopw [11] (fun iv wr => ∃ (i : Nat), iv = .int .i64 (i : Int) ∧ i ≤ yn.length ∧ Ext wk62 wr) (fun iv _ => yn.length - (intOf iv).toNat)
  case atStart => exact ⟨0, rfl, Nat.zero_le _, Ext.refl _⟩
  case round =>
  obtain ⟨i, rfl, hiy, hEr⟩ := hrel
  by_cases hlt : i < yn.length
  rotate_left
  · obtain ⟨s0, s1, s2, s3⟩ := (HBy.out.ext hEr).cell
    have hrs := HRSH.out.ext hEr
    have hry : RdAll wr sh (.slice pay61 sh.length may61) := ⟨_, _, rfl, HYK.out, (HYS.out.ext hEr).mono fun _ _ _ => ⟨trivial, rfl⟩⟩
    have HRS2 := Lib.hid hrs
    have HRY := Lib.hid hry
    have hE9 := HE.out.trans hEr
    clear hrs hry
    go_wp2_with fail
    refine (ints_true HRY.out HRS2.out).mono ?_
    rintro e wg ⟨rfl, hEg⟩
    clear s0 s1 s2 s3
    go_wp2_with fail
    refine (cellawake_any _).mono ?_
    rintro e wl ⟨rfl, hEl⟩
    go_wp2_with fail
    go_ret
    exact ⟨rfl, (hE9.trans hEg).trans hEl⟩
  · obtain ⟨wo, rfl⟩ : ∃ wx : World, wx = wr := ⟨_, rfl⟩
    obtain ⟨b2, f2, hp2, g2, _, _⟩ := (HYN.out.ext hEr).get (i := i) hlt
    obtain ⟨s0, s1, s2, s3⟩ := (HBx.out.ext hEr).cell
    obtain ⟨t0, t1, t2, t3⟩ := (HBy.out.ext hEr).cell
    have hBxr := HBx.out.ext hEr
    have hByr := HBy.out.ext hEr
    have HBXR := Lib.hid hBxr
    have HBYR := Lib.hid hByr
    have HAXR := Lib.hid (HAx.out.ext hEr)
    clear hBxr hByr
    subst hp2
    clear H40 HFEW HSR HFRS HPS HROW HFRO HPQ HCUT HSL HSH HSHL HRX hrm hsl0 hdmb hm hq6 hn6 hkx hnlt y1 y1' y1'' h8 hs0 hs3 hs3' hs0'
    by_cases hin : i < nx.length
    · obtain ⟨b3, f3, hp3, g3, _, _⟩ := (HN.out.ext (HE.out.trans hEr)).get (i := i) hin
      subst hp3
      have hyi := HYG.out i hin
      rw [hyi] at g2
      generalize nx.getD i 0 = nv at *
      clear hyi
      have hin' : (i : Int) < (nx.length : Int) := by omega
      have hnle : ¬ nx.length ≤ i := by omega
      go_wp2_with fail
      clear s0 s1 s2 s3 t0 t1 t2 t3
      refine wp_region_x0 (MProp.is (.int .i64 (i : Int)) :: MProp.is (.pointer (some ⟨w.heap.size, 2, none⟩)) :: MProp.is (.slice (some ⟨b3, f3, none⟩) nx.length m2) :: MProp.is (.int .i64 (nx.length : Int)) :: MProp.is (.bool true) :: MProp.is (.bool true) :: MProp.is (.pointer (some ⟨by61, 2, none⟩)) :: MProp.is (.slice (some ⟨b2, f2, none⟩) yn.length mby61) :: MProp.is (.int .i64 (i : Int)) :: MProp.is (.pointer (some ⟨b2, f2 + i, none⟩)) :: MProp.is (.int .i64 nv) :: MProp.is (.pointer (some ⟨w.heap.size, 2, none⟩)) :: MProp.is (.slice (some ⟨b3, f3, none⟩) nx.length m2) :: MProp.is (.int .i64 (i : Int)) :: MProp.is (.pointer (some ⟨b3, f3 + i, none⟩)) :: MProp.is (.int .i64 nv) :: MProp.is (.bool false) :: MProp.is (.bool false) :: MProp.is (.bool false) :: MProp.is (.int .i64 (i : Int)) :: MProp.is (.pointer (some ⟨w.heap.size, 2, none⟩)) :: MProp.is (.slice (some ⟨b3, f3, none⟩) nx.length m2) :: MProp.is (.int .i64 (nx.length : Int)) :: MProp.is (.bool false) :: MProp.is (.bool false) :: MProp.is (undef) :: MProp.is (undef) :: MProp.is (undef) :: MProp.is (undef) :: MProp.is (undef) :: MProp.is (undef) :: MProp.is (undef) :: MProp.is (undef) :: MProp.is (undef) :: MProp.is (undef) :: MProp.is (undef) :: MProp.is (.bool false) :: MProp.is (.bool false) :: []) (0 :: 1 :: 2 :: 3 :: 4 :: 5 :: 6 :: 7 :: 8 :: 9 :: 10 :: 11 :: 12 :: 13 :: 14 :: 15 :: 16 :: 17 :: 18 :: 19 :: 20 :: 21 :: 22 :: 23 :: 24 :: 25 :: 26 :: 27 :: 28 :: 29 :: 30 :: 31 :: 32 :: 33 :: 34 :: 35 :: 36 :: 37 :: []) [] (103 :: 104 :: 105 :: 106 :: 107 :: 108 :: 109 :: 110 :: 111 :: 112 :: 113 :: 114 :: 115 :: 116 :: 117 :: 118 :: 119 :: 120 :: 121 :: 122 :: 123 :: 124 :: 125 :: 126 :: 127 :: 128 :: 129 :: 130 :: 131 :: 132 :: 133 :: 134 :: 135 :: 136 :: 137 :: 138 :: 139 :: 140 :: []) (by kernel_rfl) (by kernel_rfl) (by kernel_rfl) ?_ ?_ ?_
      · refine mem_cons_m ?_ (mem_cons_m ?_ (mem_cons_m ?_ (mem_cons_m ?_ (mem_cons_m ?_ (mem_cons_m ?_ (mem_cons_m ?_ (mem_cons_m ?_ (mem_cons_m ?_ (mem_cons_m ?_ (mem_cons_m ?_ (mem_cons_m ?_ (mem_cons_m ?_ (mem_cons_m ?_ (mem_cons_m ?_ (mem_cons_m ?_ (mem_cons_m ?_ (mem_cons_m ?_ (mem_cons_m ?_ (mem_cons_m ?_ (mem_cons_m ?_ (mem_cons_m ?_ (mem_cons_m ?_ (mem_cons_m ?_ (mem_cons_m ?_ (mem_cons_m ?_ (mem_cons_m ?_ (mem_cons_m ?_ (mem_cons_m ?_ (mem_cons_m ?_ (mem_cons_m ?_ (mem_cons_m ?_ (mem_cons_m ?_ (mem_cons_m ?_ (mem_cons_m ?_ (mem_cons_m ?_ (mem_cons_m ?_ (mem_cons_m ?_ (mem_nil_m))))))))))))))))))))))))))))))))))))))
        · refine ⟨_, 103, rfl, by kernel_rfl, ?_⟩
          intro u w9 X hE hX hd K hK
          clear hd
          simp only [overlay, List.setIfInBounds_toArray, List.set] at hK ⊢
          go_wp2_with fail
          exact hK _ _ X (Ext.refl _) kept_m hX rfl
        · refine ⟨_, 104, rfl, by kernel_rfl, ?_⟩
          intro u w9 X hE hX hd K hK
          clear hd
          simp only [overlay, List.setIfInBounds_toArray, List.set] at hK ⊢
          go_wp2_with fail
          exact hK _ _ X (Ext.refl _) kept_m hX rfl
        · refine ⟨_, 105, rfl, by kernel_rfl, ?_⟩
          intro u w9 X hE hX hd K hK
          have d1 : u 104 = .pointer (some ⟨w.heap.size, 2, none⟩) := hd 1 (by kernel_rfl)
          clear hd
          simp only [overlay, List.setIfInBounds_toArray, List.set, d1] at hK ⊢
          have e9 : Ext wo w9 := (Ext.refl wo).drew.trans hE
          obtain ⟨s0, s1, s2, s3⟩ := (HBXR.out.ext e9).cell
          go_wp2_with fail
          exact hK _ _ X (Ext.refl _) kept_m hX rfl
        · refine ⟨_, 106, rfl, by kernel_rfl, ?_⟩
          intro u w9 X hE hX hd K hK
          have d2 : u 105 = .slice (some ⟨b3, f3, none⟩) nx.length m2 := hd 2 (by kernel_rfl)
          clear hd
          simp only [overlay, List.setIfInBounds_toArray, List.set, d2] at hK ⊢
          go_wp2_with fail
          exact hK _ _ X (Ext.refl _) kept_m hX rfl
        · refine ⟨_, 107, rfl, by kernel_rfl, ?_⟩
          intro u w9 X hE hX hd K hK
          have d0 : u 103 = .int .i64 (i : Int) := hd 0 (by kernel_rfl)
          have d3 : u 106 = .int .i64 (nx.length : Int) := hd 3 (by kernel_rfl)
          clear hd
          simp only [overlay, List.setIfInBounds_toArray, List.set, d0, d3] at hK ⊢
          go_wp2_with fail
          exact hK _ _ X (Ext.refl _) kept_m hX rfl
        · refine ⟨_, 108, rfl, by kernel_rfl, ?_⟩
          intro u w9 X hE hX hd K hK
          have d4 : u 107 = .bool true := hd 4 (by kernel_rfl)
          clear hd
          simp only [overlay, List.setIfInBounds_toArray, List.set, d4] at hK ⊢
          go_wp2_with fail
          exact hK _ _ X (Ext.refl _) kept_m hX rfl
        · refine ⟨_, 109, rfl, by kernel_rfl, ?_⟩
          intro u w9 X hE hX hd K hK
          have d5 : u 108 = .bool true := hd 5 (by kernel_rfl)
          clear hd
          simp only [overlay, List.setIfInBounds_toArray, List.set, d5] at hK ⊢
          go_wp2_with fail
          exact hK _ _ X (Ext.refl _) kept_m hX rfl
        · refine ⟨_, 110, rfl, by kernel_rfl, ?_⟩
          intro u w9 X hE hX hd K hK
          have d6 : u 109 = .pointer (some ⟨by61, 2, none⟩) := hd 6 (by kernel_rfl)
          have d5 : u 108 = .bool true := hd 5 (by kernel_rfl)
          clear hd
          simp only [overlay, List.setIfInBounds_toArray, List.set, d6, d5] at hK ⊢
          have e9 : Ext wo w9 := (Ext.refl wo).drew.trans hE
          obtain ⟨s0, s1, s2, s3⟩ := (HBYR.out.ext e9).cell
          go_wp2_with fail
          exact hK _ _ X (Ext.refl _) kept_m hX rfl
        · refine ⟨_, 111, rfl, by kernel_rfl, ?_⟩
          intro u w9 X hE hX hd K hK
          have d5 : u 108 = .bool true := hd 5 (by kernel_rfl)
          clear hd
          simp only [overlay, List.setIfInBounds_toArray, List.set, d5] at hK ⊢
          go_wp2_with fail
          exact hK _ _ X (Ext.refl _) kept_m hX rfl
        · refine ⟨_, 112, rfl, by kernel_rfl, ?_⟩
          intro u w9 X hE hX hd K hK
          have d7 : u 110 = .slice (some ⟨b2, f2, none⟩) yn.length mby61 := hd 7 (by kernel_rfl)
          have d8 : u 111 = .int .i64 (i : Int) := hd 8 (by kernel_rfl)
          have d5 : u 108 = .bool true := hd 5 (by kernel_rfl)
          clear hd
          simp only [overlay, List.setIfInBounds_toArray, List.set, d7, d8, d5] at hK ⊢
          go_wp2_with fail
          exact hK _ _ X (Ext.refl _) kept_m hX rfl
        · refine ⟨_, 113, rfl, by kernel_rfl, ?_⟩
          intro u w9 X hE hX hd K hK
          have d9 : u 112 = .pointer (some ⟨b2, f2 + i, none⟩) := hd 9 (by kernel_rfl)
          have d5 : u 108 = .bool true := hd 5 (by kernel_rfl)
          clear hd
          simp only [overlay, List.setIfInBounds_toArray, List.set, d9, d5] at hK ⊢
          have e9 : Ext wo w9 := (Ext.refl wo).drew.trans hE
          have u2 := e9.cell g2
          go_wp2_with fail
          exact hK _ _ X (Ext.refl _) kept_m hX rfl
        · refine ⟨_, 114, rfl, by kernel_rfl, ?_⟩
          intro u w9 X hE hX hd K hK
          have d5 : u 108 = .bool true := hd 5 (by kernel_rfl)
          clear hd
          simp only [overlay, List.setIfInBounds_toArray, List.set, d5] at hK ⊢
          go_wp2_with fail
          exact hK _ _ X (Ext.refl _) kept_m hX rfl
        · refine ⟨_, 115, rfl, by kernel_rfl, ?_⟩
          intro u w9 X hE hX hd K hK
          have d11 : u 114 = .pointer (some ⟨w.heap.size, 2, none⟩) := hd 11 (by kernel_rfl)
          have d5 : u 108 = .bool true := hd 5 (by kernel_rfl)
          clear hd
          simp only [overlay, List.setIfInBounds_toArray, List.set, d11, d5] at hK ⊢
          have e9 : Ext wo w9 := (Ext.refl wo).drew.trans hE
          obtain ⟨s0, s1, s2, s3⟩ := (HBXR.out.ext e9).cell
          go_wp2_with fail
          exact hK _ _ X (Ext.refl _) kept_m hX rfl
        · refine ⟨_, 116, rfl, by kernel_rfl, ?_⟩
          intro u w9 X hE hX hd K hK
          have d5 : u 108 = .bool true := hd 5 (by kernel_rfl)
          clear hd
          simp only [overlay, List.setIfInBounds_toArray, List.set, d5] at hK ⊢
          go_wp2_with fail
          exact hK _ _ X (Ext.refl _) kept_m hX rfl
        · refine ⟨_, 117, rfl, by kernel_rfl, ?_⟩
          intro u w9 X hE hX hd K hK
          have d12 : u 115 = .slice (some ⟨b3, f3, none⟩) nx.length m2 := hd 12 (by kernel_rfl)
          have d13 : u 116 = .int .i64 (i : Int) := hd 13 (by kernel_rfl)
          have d5 : u 108 = .bool true := hd 5 (by kernel_rfl)
          clear hd
          simp only [overlay, List.setIfInBounds_toArray, List.set, d12, d13, d5] at hK ⊢
          go_wp2_with fail
          exact hK _ _ X (Ext.refl _) kept_m hX rfl
        · refine ⟨_, 118, rfl, by kernel_rfl, ?_⟩
          intro u w9 X hE hX hd K hK
          have d14 : u 117 = .pointer (some ⟨b3, f3 + i, none⟩) := hd 14 (by kernel_rfl)
          have d5 : u 108 = .bool true := hd 5 (by kernel_rfl)
          clear hd
          simp only [overlay, List.setIfInBounds_toArray, List.set, d14, d5] at hK ⊢
          have e9 : Ext wo w9 := (Ext.refl wo).drew.trans hE
          have u3 := e9.cell g3
          go_wp2_with fail
          exact hK _ _ X (Ext.refl _) kept_m hX rfl
        · refine ⟨_, 119, rfl, by kernel_rfl, ?_⟩
          intro u w9 X hE hX hd K hK
          have d10 : u 113 = .int .i64 nv := hd 10 (by kernel_rfl)
          have d15 : u 118 = .int .i64 nv := hd 15 (by kernel_rfl)
          have d5 : u 108 = .bool true := hd 5 (by kernel_rfl)
          clear hd
          simp only [overlay, List.setIfInBounds_toArray, List.set, d10, d15, d5] at hK ⊢
          go_wp2_with fail
          exact hK _ _ X (Ext.refl _) kept_m hX rfl
        · refine ⟨_, 120, rfl, by kernel_rfl, ?_⟩
          intro u w9 X hE hX hd K hK
          have d5 : u 108 = .bool true := hd 5 (by kernel_rfl)
          have d16 : u 119 = .bool false := hd 16 (by kernel_rfl)
          clear hd
          simp only [overlay, List.setIfInBounds_toArray, List.set, d5, d16] at hK ⊢
          go_wp2_with fail
          exact hK _ _ X (Ext.refl _) kept_m hX rfl
        · refine ⟨_, 121, rfl, by kernel_rfl, ?_⟩
          intro u w9 X hE hX hd K hK
          have d17 : u 120 = .bool false := hd 17 (by kernel_rfl)
          clear hd
          simp only [overlay, List.setIfInBounds_toArray, List.set, d17] at hK ⊢
          go_wp2_with fail
          exact hK _ _ X (Ext.refl _) kept_m hX rfl
        · refine ⟨_, 122, rfl, by kernel_rfl, ?_⟩
          intro u w9 X hE hX hd K hK
          have d18 : u 121 = .bool false := hd 18 (by kernel_rfl)
          clear hd
          simp only [overlay, List.setIfInBounds_toArray, List.set, d18] at hK ⊢
          go_wp2_with fail
          exact hK _ _ X (Ext.refl _) kept_m hX rfl
        · refine ⟨_, 123, rfl, by kernel_rfl, ?_⟩
          intro u w9 X hE hX hd K hK
          have d18 : u 121 = .bool false := hd 18 (by kernel_rfl)
          clear hd
          simp only [overlay, List.setIfInBounds_toArray, List.set, d18] at hK ⊢
          go_wp2_with fail
          exact hK _ _ X (Ext.refl _) kept_m hX rfl
        · refine ⟨_, 124, rfl, by kernel_rfl, ?_⟩
          intro u w9 X hE hX hd K hK
          have d20 : u 123 = .pointer (some ⟨w.heap.size, 2, none⟩) := hd 20 (by kernel_rfl)
          have d18 : u 121 = .bool false := hd 18 (by kernel_rfl)
          clear hd
          simp only [overlay, List.setIfInBounds_toArray, List.set, d20, d18] at hK ⊢
          have e9 : Ext wo w9 := (Ext.refl wo).drew.trans hE
          obtain ⟨s0, s1, s2, s3⟩ := (HBXR.out.ext e9).cell
          go_wp2_with fail
          exact hK _ _ X (Ext.refl _) kept_m hX rfl
        · refine ⟨_, 125, rfl, by kernel_rfl, ?_⟩
          intro u w9 X hE hX hd K hK
          have d21 : u 124 = .slice (some ⟨b3, f3, none⟩) nx.length m2 := hd 21 (by kernel_rfl)
          have d18 : u 121 = .bool false := hd 18 (by kernel_rfl)
          clear hd
          simp only [overlay, List.setIfInBounds_toArray, List.set, d21, d18] at hK ⊢
          go_wp2_with fail
          exact hK _ _ X (Ext.refl _) kept_m hX rfl
        · refine ⟨_, 126, rfl, by kernel_rfl, ?_⟩
          intro u w9 X hE hX hd K hK
          have d19 : u 122 = .int .i64 (i : Int) := hd 19 (by kernel_rfl)
          have d22 : u 125 = .int .i64 (nx.length : Int) := hd 22 (by kernel_rfl)
          have d18 : u 121 = .bool false := hd 18 (by kernel_rfl)
          clear hd
          simp only [overlay, List.setIfInBounds_toArray, List.set, d19, d22, d18] at hK ⊢
          go_wp2_with fail
          exact hK _ _ X (Ext.refl _) kept_m hX rfl
        · refine ⟨_, 127, rfl, by kernel_rfl, ?_⟩
          intro u w9 X hE hX hd K hK
          have d23 : u 126 = .bool false := hd 23 (by kernel_rfl)
          have d18 : u 121 = .bool false := hd 18 (by kernel_rfl)
          clear hd
          simp only [overlay, List.setIfInBounds_toArray, List.set, d23, d18] at hK ⊢
          go_wp2_with fail
          exact hK _ _ X (Ext.refl _) kept_m hX rfl
        · refine ⟨_, 128, rfl, by kernel_rfl, ?_⟩
          intro u w9 X hE hX hd K hK
          have d24 : u 127 = .bool false := hd 24 (by kernel_rfl)
          clear hd
          simp only [overlay, List.setIfInBounds_toArray, List.set, d24] at hK ⊢
          go_wp2_with fail
          exact hK _ _ X (Ext.refl _) kept_m hX rfl
        · refine ⟨_, 129, rfl, by kernel_rfl, ?_⟩
          intro u w9 X hE hX hd K hK
          have d25 : u 128 = undef := hd 25 (by kernel_rfl)
          have d24 : u 127 = .bool false := hd 24 (by kernel_rfl)
          clear hd
          simp only [overlay, List.setIfInBounds_toArray, List.set, d25, d24] at hK ⊢
          go_wp2_with fail
          exact hK _ _ X (Ext.refl _) kept_m hX rfl
        · refine ⟨_, 130, rfl, by kernel_rfl, ?_⟩
          intro u w9 X hE hX hd K hK
          have d24 : u 127 = .bool false := hd 24 (by kernel_rfl)
          clear hd
          simp only [overlay, List.setIfInBounds_toArray, List.set, d24] at hK ⊢
          go_wp2_with fail
          exact hK _ _ X (Ext.refl _) kept_m hX rfl
        · refine ⟨_, 131, rfl, by kernel_rfl, ?_⟩
          intro u w9 X hE hX hd K hK
          have d26 : u 129 = undef := hd 26 (by kernel_rfl)
          have d27 : u 130 = undef := hd 27 (by kernel_rfl)
          have d24 : u 127 = .bool false := hd 24 (by kernel_rfl)
          clear hd
          simp only [overlay, List.setIfInBounds_toArray, List.set, d26, d27, d24] at hK ⊢
          go_wp2_with fail
          exact hK _ _ X (Ext.refl _) kept_m hX rfl
        · refine ⟨_, 132, rfl, by kernel_rfl, ?_⟩
          intro u w9 X hE hX hd K hK
          have d28 : u 131 = undef := hd 28 (by kernel_rfl)
          have d24 : u 127 = .bool false := hd 24 (by kernel_rfl)
          clear hd
          simp only [overlay, List.setIfInBounds_toArray, List.set, d28, d24] at hK ⊢
          go_wp2_with fail
          exact hK _ _ X (Ext.refl _) kept_m hX rfl
        · refine ⟨_, 133, rfl, by kernel_rfl, ?_⟩
          intro u w9 X hE hX hd K hK
          have d24 : u 127 = .bool false := hd 24 (by kernel_rfl)
          clear hd
          simp only [overlay, List.setIfInBounds_toArray, List.set, d24] at hK ⊢
          go_wp2_with fail
          exact hK _ _ X (Ext.refl _) kept_m hX rfl
        · refine ⟨_, 134, rfl, by kernel_rfl, ?_⟩
          intro u w9 X hE hX hd K hK
          have d30 : u 133 = undef := hd 30 (by kernel_rfl)
          have d24 : u 127 = .bool false := hd 24 (by kernel_rfl)
          clear hd
          simp only [overlay, List.setIfInBounds_toArray, List.set, d30, d24] at hK ⊢
          go_wp2_with fail
          exact hK _ _ X (Ext.refl _) kept_m hX rfl
        · refine ⟨_, 135, rfl, by kernel_rfl, ?_⟩
          intro u w9 X hE hX hd K hK
          have d31 : u 134 = undef := hd 31 (by kernel_rfl)
          have d24 : u 127 = .bool false := hd 24 (by kernel_rfl)
          clear hd
          simp only [overlay, List.setIfInBounds_toArray, List.set, d31, d24] at hK ⊢
          go_wp2_with fail
          exact hK _ _ X (Ext.refl _) kept_m hX rfl
        · refine ⟨_, 136, rfl, by kernel_rfl, ?_⟩
          intro u w9 X hE hX hd K hK
          have d32 : u 135 = undef := hd 32 (by kernel_rfl)
          have d24 : u 127 = .bool false := hd 24 (by kernel_rfl)
          clear hd
          simp only [overlay, List.setIfInBounds_toArray, List.set, d32, d24] at hK ⊢
          go_wp2_with fail
          exact hK _ _ X (Ext.refl _) kept_m hX rfl
        · refine ⟨_, 137, rfl, by kernel_rfl, ?_⟩
          intro u w9 X hE hX hd K hK
          have d33 : u 136 = undef := hd 33 (by kernel_rfl)
          have d24 : u 127 = .bool false := hd 24 (by kernel_rfl)
          clear hd
          simp only [overlay, List.setIfInBounds_toArray, List.set, d33, d24] at hK ⊢
          go_wp2_with fail
          exact hK _ _ X (Ext.refl _) kept_m hX rfl
        · refine ⟨_, 138, rfl, by kernel_rfl, ?_⟩
          intro u w9 X hE hX hd K hK
          have d29 : u 132 = undef := hd 29 (by kernel_rfl)
          have d34 : u 137 = undef := hd 34 (by kernel_rfl)
          have d24 : u 127 = .bool false := hd 24 (by kernel_rfl)
          clear hd
          simp only [overlay, List.setIfInBounds_toArray, List.set, d29, d34, d24] at hK ⊢
          go_wp2_with fail
          exact hK _ _ X (Ext.refl _) kept_m hX rfl
        · refine ⟨_, 139, rfl, by kernel_rfl, ?_⟩
          intro u w9 X hE hX hd K hK
          have d24 : u 127 = .bool false := hd 24 (by kernel_rfl)
          have d35 : u 138 = undef := hd 35 (by kernel_rfl)
          have d18 : u 121 = .bool false := hd 18 (by kernel_rfl)
          clear hd
          simp only [overlay, List.setIfInBounds_toArray, List.set, d24, d35, d18] at hK ⊢
          go_wp2_with fail
          exact hK _ _ X (Ext.refl _) kept_m hX rfl
        · refine ⟨_, 140, rfl, by kernel_rfl, ?_⟩
          intro u w9 X hE hX hd K hK
          have d18 : u 121 = .bool false := hd 18 (by kernel_rfl)
          have d36 : u 139 = .bool false := hd 36 (by kernel_rfl)
          clear hd
          simp only [overlay, List.setIfInBounds_toArray, List.set, d18, d36] at hK ⊢
          go_wp2_with fail
          exact hK _ _ X (Ext.refl _) kept_m hX rfl
      · exact mem_nil_m
      intro u w9 X hE hX hd
      have d0 : u 103 = .int .i64 (i : Int) := hd 0 (by decide)
      have d1 : u 104 = .pointer (some ⟨w.heap.size, 2, none⟩) := hd 1 (by decide)
      have d2 : u 105 = .slice (some ⟨b3, f3, none⟩) nx.length m2 := hd 2 (by decide)
      have d3 : u 106 = .int .i64 (nx.length : Int) := hd 3 (by decide)
      have d4 : u 107 = .bool true := hd 4 (by decide)
      have d5 : u 108 = .bool true := hd 5 (by decide)
      have d6 : u 109 = .pointer (some ⟨by61, 2, none⟩) := hd 6 (by decide)
      have d7 : u 110 = .slice (some ⟨b2, f2, none⟩) yn.length mby61 := hd 7 (by decide)
      have d8 : u 111 = .int .i64 (i : Int) := hd 8 (by decide)
      have d9 : u 112 = .pointer (some ⟨b2, f2 + i, none⟩) := hd 9 (by decide)
      have d10 : u 113 = .int .i64 nv := hd 10 (by decide)
      have d11 : u 114 = .pointer (some ⟨w.heap.size, 2, none⟩) := hd 11 (by decide)
      have d12 : u 115 = .slice (some ⟨b3, f3, none⟩) nx.length m2 := hd 12 (by decide)
      have d13 : u 116 = .int .i64 (i : Int) := hd 13 (by decide)
      have d14 : u 117 = .pointer (some ⟨b3, f3 + i, none⟩) := hd 14 (by decide)
      have d15 : u 118 = .int .i64 nv := hd 15 (by decide)
      have d16 : u 119 = .bool false := hd 16 (by decide)
      have d17 : u 120 = .bool false := hd 17 (by decide)
      have d18 : u 121 = .bool false := hd 18 (by decide)
      have d19 : u 122 = .int .i64 (i : Int) := hd 19 (by decide)
      have d20 : u 123 = .pointer (some ⟨w.heap.size, 2, none⟩) := hd 20 (by decide)
      have d21 : u 124 = .slice (some ⟨b3, f3, none⟩) nx.length m2 := hd 21 (by decide)
      have d22 : u 125 = .int .i64 (nx.length : Int) := hd 22 (by decide)
      have d23 : u 126 = .bool false := hd 23 (by decide)
      have d24 : u 127 = .bool false := hd 24 (by decide)
      have d25 : u 128 = undef := hd 25 (by decide)
      have d26 : u 129 = undef := hd 26 (by decide)
      have d27 : u 130 = undef := hd 27 (by decide)
      have d28 : u 131 = undef := hd 28 (by decide)
      have d29 : u 132 = undef := hd 29 (by decide)
      have d30 : u 133 = undef := hd 30 (by decide)
      have d31 : u 134 = undef := hd 31 (by decide)
      have d32 : u 135 = undef := hd 32 (by decide)
      have d33 : u 136 = undef := hd 33 (by decide)
      have d34 : u 137 = undef := hd 34 (by decide)
      have d35 : u 138 = undef := hd 35 (by decide)
      have d36 : u 139 = .bool false := hd 36 (by decide)
      have d37 : u 140 = .bool false := hd 37 (by decide)
      clear hd
      simp only [overlay, List.setIfInBounds_toArray, List.set, d0, d1, d2, d3, d4, d5, d6, d7, d8, d9, d10, d11, d12, d13, d14, d15, d16, d17, d18, d19, d20, d21, d22, d23, d24, d25, d26, d27, d28, d29, d30, d31, d32, d33, d34, d35, d36, d37]
      have e9 : Ext wo w9 := (Ext.refl wo).drew.trans hE
      clear d0 d1 d2 d3 d4 d5 d6 d7 d8 d9 d10 d11 d12 d13 d14 d15 d16 d17 d18 d19 d20 d21 d22 d23 d24 d25 d26 d27 d28 d29 d30 d31 d32 d33 d34 d35 d36 d37
      clear hX hE
      clear u
      go_wp2_with fail
      go_roundw
      case rel => exact ⟨i + 1, by go_num, by omega, hEr.trans e9⟩
      case measure => simp [intOf]; omega
    · have hyi := HYF.out i (by omega) hlt
      rw [hyi] at g2
      clear hyi
      have hin' : ¬ (i : Int) < (nx.length : Int) := by omega
      have hge : (nx.length : Int) ≤ (i : Int) := by omega
      go_wp2_with fail
      clear s0 s1 s2 s3 t0 t1 t2 t3
      refine wp_region_x0 (MProp.is (.int .i64 (i : Int)) :: MProp.is (.pointer (some ⟨w.heap.size, 2, none⟩)) :: MProp.is (.slice q2 nx.length m2) :: MProp.is (.int .i64 (nx.length : Int)) :: MProp.is (.bool false) :: MProp.is (.bool false) :: MProp.is (undef) :: MProp.is (undef) :: MProp.is (undef) :: MProp.is (undef) :: MProp.is (undef) :: MProp.is (undef) :: MProp.is (undef) :: MProp.is (undef) :: MProp.is (undef) :: MProp.is (undef) :: MProp.is (undef) :: MProp.is (.bool false) :: MProp.is (.bool false) :: MProp.is (.int .i64 (i : Int)) :: MProp.is (.pointer (some ⟨w.heap.size, 2, none⟩)) :: MProp.is (.slice q2 nx.length m2) :: MProp.is (.int .i64 (nx.length : Int)) :: MProp.is (.bool true) :: MProp.is (.bool true) :: MProp.is (.pointer (some ⟨by61, 2, none⟩)) :: MProp.is (.slice (some ⟨b2, f2, none⟩) yn.length mby61) :: MProp.is (.int .i64 (i : Int)) :: MProp.is (.pointer (some ⟨b2, f2 + i, none⟩)) :: MProp.is (.int .i64 (padN kx)) :: MProp.is (.agg #[.int .i64 kx, .slice (some ⟨b1, f1, none⟩) sl m1, .slice q2 nx.length m2, .slice q3 ([] : List Arr).length m3]) :: MProp.rd (fillV (.mk kx (d :: r) nx [])) :: MProp.rdi [padN kx] :: MProp.numAt (padN kx) :: MProp.is (.int .i64 (padN kx)) :: MProp.is (.bool false) :: MProp.is (.bool false) :: MProp.is (.bool false) :: []) (0 :: 1 :: 2 :: 3 :: 4 :: 5 :: 6 :: 7 :: 8 :: 9 :: 10 :: 11 :: 12 :: 13 :: 14 :: 15 :: 16 :: 17 :: 18 :: 19 :: 20 :: 21 :: 22 :: 23 :: 24 :: 25 :: 26 :: 27 :: 28 :: 29 :: 30 :: 31 :: 32 :: 33 :: 34 :: 35 :: 36 :: 37 :: []) [] (103 :: 104 :: 105 :: 106 :: 107 :: 108 :: 109 :: 110 :: 111 :: 112 :: 113 :: 114 :: 115 :: 116 :: 117 :: 118 :: 119 :: 120 :: 121 :: 122 :: 123 :: 124 :: 125 :: 126 :: 127 :: 128 :: 129 :: 130 :: 131 :: 132 :: 133 :: 134 :: 135 :: 136 :: 137 :: 138 :: 139 :: 140 :: []) (by kernel_rfl) (by kernel_rfl) (by kernel_rfl) ?_ ?_ ?_
      · refine mem_cons_m ?_ (mem_cons_m ?_ (mem_cons_m ?_ (mem_cons_m ?_ (mem_cons_m ?_ (mem_cons_m ?_ (mem_cons_m ?_ (mem_cons_m ?_ (mem_cons_m ?_ (mem_cons_m ?_ (mem_cons_m ?_ (mem_cons_m ?_ (mem_cons_m ?_ (mem_cons_m ?_ (mem_cons_m ?_ (mem_cons_m ?_ (mem_cons_m ?_ (mem_cons_m ?_ (mem_cons_m ?_ (mem_cons_m ?_ (mem_cons_m ?_ (mem_cons_m ?_ (mem_cons_m ?_ (mem_cons_m ?_ (mem_cons_m ?_ (mem_cons_m ?_ (mem_cons_m ?_ (mem_cons_m ?_ (mem_cons_m ?_ (mem_cons_m ?_ (mem_cons_m ?_ (mem_cons_m ?_ (mem_cons_m ?_ (mem_cons_m ?_ (mem_cons_m ?_ (mem_cons_m ?_ (mem_cons_m ?_ (mem_cons_m ?_ (mem_nil_m))))))))))))))))))))))))))))))))))))))
        · refine ⟨_, 103, rfl, by kernel_rfl, ?_⟩
          intro u w9 X hE hX hd K hK
          clear hd
          simp only [overlay, List.setIfInBounds_toArray, List.set] at hK ⊢
          go_wp2_with fail
          exact hK _ _ X (Ext.refl _) kept_m hX rfl
        · refine ⟨_, 104, rfl, by kernel_rfl, ?_⟩
          intro u w9 X hE hX hd K hK
          clear hd
          simp only [overlay, List.setIfInBounds_toArray, List.set] at hK ⊢
          go_wp2_with fail
          exact hK _ _ X (Ext.refl _) kept_m hX rfl
        · refine ⟨_, 105, rfl, by kernel_rfl, ?_⟩
          intro u w9 X hE hX hd K hK
          have d1 : u 104 = .pointer (some ⟨w.heap.size, 2, none⟩) := hd 1 (by kernel_rfl)
          clear hd
          simp only [overlay, List.setIfInBounds_toArray, List.set, d1] at hK ⊢
          have e9 : Ext wo w9 := (Ext.refl wo).drew.trans hE
          obtain ⟨s0, s1, s2, s3⟩ := (HBXR.out.ext e9).cell
          go_wp2_with fail
          exact hK _ _ X (Ext.refl _) kept_m hX rfl
        · refine ⟨_, 106, rfl, by kernel_rfl, ?_⟩
          intro u w9 X hE hX hd K hK
          have d2 : u 105 = .slice q2 nx.length m2 := hd 2 (by kernel_rfl)
          clear hd
          simp only [overlay, List.setIfInBounds_toArray, List.set, d2] at hK ⊢
          go_wp2_with fail
          exact hK _ _ X (Ext.refl _) kept_m hX rfl
        · refine ⟨_, 107, rfl, by kernel_rfl, ?_⟩
          intro u w9 X hE hX hd K hK
          have d0 : u 103 = .int .i64 (i : Int) := hd 0 (by kernel_rfl)
          have d3 : u 106 = .int .i64 (nx.length : Int) := hd 3 (by kernel_rfl)
          clear hd
          simp only [overlay, List.setIfInBounds_toArray, List.set, d0, d3] at hK ⊢
          go_wp2_with fail
          exact hK _ _ X (Ext.refl _) kept_m hX rfl
        · refine ⟨_, 108, rfl, by kernel_rfl, ?_⟩
          intro u w9 X hE hX hd K hK
          have d4 : u 107 = .bool false := hd 4 (by kernel_rfl)
          clear hd
          simp only [overlay, List.setIfInBounds_toArray, List.set, d4] at hK ⊢
          go_wp2_with fail
          exact hK _ _ X (Ext.refl _) kept_m hX rfl
        · refine ⟨_, 109, rfl, by kernel_rfl, ?_⟩
          intro u w9 X hE hX hd K hK
          have d5 : u 108 = .bool false := hd 5 (by kernel_rfl)
          clear hd
          simp only [overlay, List.setIfInBounds_toArray, List.set, d5] at hK ⊢
          go_wp2_with fail
          exact hK _ _ X (Ext.refl _) kept_m hX rfl
        · refine ⟨_, 110, rfl, by kernel_rfl, ?_⟩
          intro u w9 X hE hX hd K hK
          have d6 : u 109 = undef := hd 6 (by kernel_rfl)
          have d5 : u 108 = .bool false := hd 5 (by kernel_rfl)
          clear hd
          simp only [overlay, List.setIfInBounds_toArray, List.set, d6, d5] at hK ⊢
          go_wp2_with fail
          exact hK _ _ X (Ext.refl _) kept_m hX rfl
        · refine ⟨_, 111, rfl, by kernel_rfl, ?_⟩
          intro u w9 X hE hX hd K hK
          have d5 : u 108 = .bool false := hd 5 (by kernel_rfl)
          clear hd
          simp only [overlay, List.setIfInBounds_toArray, List.set, d5] at hK ⊢
          go_wp2_with fail
          exact hK _ _ X (Ext.refl _) kept_m hX rfl
        · refine ⟨_, 112, rfl, by kernel_rfl, ?_⟩
          intro u w9 X hE hX hd K hK
          have d7 : u 110 = undef := hd 7 (by kernel_rfl)
          have d8 : u 111 = undef := hd 8 (by kernel_rfl)
          have d5 : u 108 = .bool false := hd 5 (by kernel_rfl)
          clear hd
          simp only [overlay, List.setIfInBounds_toArray, List.set, d7, d8, d5] at hK ⊢
          go_wp2_with fail
          exact hK _ _ X (Ext.refl _) kept_m hX rfl
        · refine ⟨_, 113, rfl, by kernel_rfl, ?_⟩
          intro u w9 X hE hX hd K hK
          have d9 : u 112 = undef := hd 9 (by kernel_rfl)
          have d5 : u 108 = .bool false := hd 5 (by kernel_rfl)
          clear hd
          simp only [overlay, List.setIfInBounds_toArray, List.set, d9, d5] at hK ⊢
          go_wp2_with fail
          exact hK _ _ X (Ext.refl _) kept_m hX rfl
        · refine ⟨_, 114, rfl, by kernel_rfl, ?_⟩
          intro u w9 X hE hX hd K hK
          have d5 : u 108 = .bool false := hd 5 (by kernel_rfl)
          clear hd
          simp only [overlay, List.setIfInBounds_toArray, List.set, d5] at hK ⊢
          go_wp2_with fail
          exact hK _ _ X (Ext.refl _) kept_m hX rfl
        · refine ⟨_, 115, rfl, by kernel_rfl, ?_⟩
          intro u w9 X hE hX hd K hK
          have d11 : u 114 = undef := hd 11 (by kernel_rfl)
          have d5 : u 108 = .bool false := hd 5 (by kernel_rfl)
          clear hd
          simp only [overlay, List.setIfInBounds_toArray, List.set, d11, d5] at hK ⊢
          go_wp2_with fail
          exact hK _ _ X (Ext.refl _) kept_m hX rfl
        · refine ⟨_, 116, rfl, by kernel_rfl, ?_⟩
          intro u w9 X hE hX hd K hK
          have d5 : u 108 = .bool false := hd 5 (by kernel_rfl)
          clear hd
          simp only [overlay, List.setIfInBounds_toArray, List.set, d5] at hK ⊢
          go_wp2_with fail
          exact hK _ _ X (Ext.refl _) kept_m hX rfl
        · refine ⟨_, 117, rfl, by kernel_rfl, ?_⟩
          intro u w9 X hE hX hd K hK
          have d12 : u 115 = undef := hd 12 (by kernel_rfl)
          have d13 : u 116 = undef := hd 13 (by kernel_rfl)
          have d5 : u 108 = .bool false := hd 5 (by kernel_rfl)
          clear hd
          simp only [overlay, List.setIfInBounds_toArray, List.set, d12, d13, d5] at hK ⊢
          go_wp2_with fail
          exact hK _ _ X (Ext.refl _) kept_m hX rfl
        · refine ⟨_, 118, rfl, by kernel_rfl, ?_⟩
          intro u w9 X hE hX hd K hK
          have d14 : u 117 = undef := hd 14 (by kernel_rfl)
          have d5 : u 108 = .bool false := hd 5 (by kernel_rfl)
          clear hd
          simp only [overlay, List.setIfInBounds_toArray, List.set, d14, d5] at hK ⊢
          go_wp2_with fail
          exact hK _ _ X (Ext.refl _) kept_m hX rfl
        · refine ⟨_, 119, rfl, by kernel_rfl, ?_⟩
          intro u w9 X hE hX hd K hK
          have d10 : u 113 = undef := hd 10 (by kernel_rfl)
          have d15 : u 118 = undef := hd 15 (by kernel_rfl)
          have d5 : u 108 = .bool false := hd 5 (by kernel_rfl)
          clear hd
          simp only [overlay, List.setIfInBounds_toArray, List.set, d10, d15, d5] at hK ⊢
          go_wp2_with fail
          exact hK _ _ X (Ext.refl _) kept_m hX rfl
        · refine ⟨_, 120, rfl, by kernel_rfl, ?_⟩
          intro u w9 X hE hX hd K hK
          have d5 : u 108 = .bool false := hd 5 (by kernel_rfl)
          have d16 : u 119 = undef := hd 16 (by kernel_rfl)
          clear hd
          simp only [overlay, List.setIfInBounds_toArray, List.set, d5, d16] at hK ⊢
          go_wp2_with fail
          exact hK _ _ X (Ext.refl _) kept_m hX rfl
        · refine ⟨_, 121, rfl, by kernel_rfl, ?_⟩
          intro u w9 X hE hX hd K hK
          have d17 : u 120 = .bool false := hd 17 (by kernel_rfl)
          clear hd
          simp only [overlay, List.setIfInBounds_toArray, List.set, d17] at hK ⊢
          go_wp2_with fail
          exact hK _ _ X (Ext.refl _) kept_m hX rfl
        · refine ⟨_, 122, rfl, by kernel_rfl, ?_⟩
          intro u w9 X hE hX hd K hK
          have d18 : u 121 = .bool false := hd 18 (by kernel_rfl)
          clear hd
          simp only [overlay, List.setIfInBounds_toArray, List.set, d18] at hK ⊢
          go_wp2_with fail
          exact hK _ _ X (Ext.refl _) kept_m hX rfl
        · refine ⟨_, 123, rfl, by kernel_rfl, ?_⟩
          intro u w9 X hE hX hd K hK
          have d18 : u 121 = .bool false := hd 18 (by kernel_rfl)
          clear hd
          simp only [overlay, List.setIfInBounds_toArray, List.set, d18] at hK ⊢
          go_wp2_with fail
          exact hK _ _ X (Ext.refl _) kept_m hX rfl
        · refine ⟨_, 124, rfl, by kernel_rfl, ?_⟩
          intro u w9 X hE hX hd K hK
          have d20 : u 123 = .pointer (some ⟨w.heap.size, 2, none⟩) := hd 20 (by kernel_rfl)
          have d18 : u 121 = .bool false := hd 18 (by kernel_rfl)
          clear hd
          simp only [overlay, List.setIfInBounds_toArray, List.set, d20, d18] at hK ⊢
          have e9 : Ext wo w9 := (Ext.refl wo).drew.trans hE
          obtain ⟨s0, s1, s2, s3⟩ := (HBXR.out.ext e9).cell
          go_wp2_with fail
          exact hK _ _ X (Ext.refl _) kept_m hX rfl
        · refine ⟨_, 125, rfl, by kernel_rfl, ?_⟩
          intro u w9 X hE hX hd K hK
          have d21 : u 124 = .slice q2 nx.length m2 := hd 21 (by kernel_rfl)
          have d18 : u 121 = .bool false := hd 18 (by kernel_rfl)
          clear hd
          simp only [overlay, List.setIfInBounds_toArray, List.set, d21, d18] at hK ⊢
          go_wp2_with fail
          exact hK _ _ X (Ext.refl _) kept_m hX rfl
        · refine ⟨_, 126, rfl, by kernel_rfl, ?_⟩
          intro u w9 X hE hX hd K hK
          have d19 : u 122 = .int .i64 (i : Int) := hd 19 (by kernel_rfl)
          have d22 : u 125 = .int .i64 (nx.length : Int) := hd 22 (by kernel_rfl)
          have d18 : u 121 = .bool false := hd 18 (by kernel_rfl)
          clear hd
          simp only [overlay, List.setIfInBounds_toArray, List.set, d19, d22, d18] at hK ⊢
          go_wp2_with fail
          exact hK _ _ X (Ext.refl _) kept_m hX rfl
        · refine ⟨_, 127, rfl, by kernel_rfl, ?_⟩
          intro u w9 X hE hX hd K hK
          have d23 : u 126 = .bool true := hd 23 (by kernel_rfl)
          have d18 : u 121 = .bool false := hd 18 (by kernel_rfl)
          clear hd
          simp only [overlay, List.setIfInBounds_toArray, List.set, d23, d18] at hK ⊢
          go_wp2_with fail
          exact hK _ _ X (Ext.refl _) kept_m hX rfl
        · refine ⟨_, 128, rfl, by kernel_rfl, ?_⟩
          intro u w9 X hE hX hd K hK
          have d24 : u 127 = .bool true := hd 24 (by kernel_rfl)
          clear hd
          simp only [overlay, List.setIfInBounds_toArray, List.set, d24] at hK ⊢
          go_wp2_with fail
          exact hK _ _ X (Ext.refl _) kept_m hX rfl
        · refine ⟨_, 129, rfl, by kernel_rfl, ?_⟩
          intro u w9 X hE hX hd K hK
          have d25 : u 128 = .pointer (some ⟨by61, 2, none⟩) := hd 25 (by kernel_rfl)
          have d24 : u 127 = .bool true := hd 24 (by kernel_rfl)
          clear hd
          simp only [overlay, List.setIfInBounds_toArray, List.set, d25, d24] at hK ⊢
          have e9 : Ext wo w9 := (Ext.refl wo).drew.trans hE
          obtain ⟨s0, s1, s2, s3⟩ := (HBYR.out.ext e9).cell
          go_wp2_with fail
          exact hK _ _ X (Ext.refl _) kept_m hX rfl
        · refine ⟨_, 130, rfl, by kernel_rfl, ?_⟩
          intro u w9 X hE hX hd K hK
          have d24 : u 127 = .bool true := hd 24 (by kernel_rfl)
          clear hd
          simp only [overlay, List.setIfInBounds_toArray, List.set, d24] at hK ⊢
          go_wp2_with fail
          exact hK _ _ X (Ext.refl _) kept_m hX rfl
        · refine ⟨_, 131, rfl, by kernel_rfl, ?_⟩
          intro u w9 X hE hX hd K hK
          have d26 : u 129 = .slice (some ⟨b2, f2, none⟩) yn.length mby61 := hd 26 (by kernel_rfl)
          have d27 : u 130 = .int .i64 (i : Int) := hd 27 (by kernel_rfl)
          have d24 : u 127 = .bool true := hd 24 (by kernel_rfl)
          clear hd
          simp only [overlay, List.setIfInBounds_toArray, List.set, d26, d27, d24] at hK ⊢
          go_wp2_with fail
          exact hK _ _ X (Ext.refl _) kept_m hX rfl
        · refine ⟨_, 132, rfl, by kernel_rfl, ?_⟩
          intro u w9 X hE hX hd K hK
          have d28 : u 131 = .pointer (some ⟨b2, f2 + i, none⟩) := hd 28 (by kernel_rfl)
          have d24 : u 127 = .bool true := hd 24 (by kernel_rfl)
          clear hd
          simp only [overlay, List.setIfInBounds_toArray, List.set, d28, d24] at hK ⊢
          have e9 : Ext wo w9 := (Ext.refl wo).drew.trans hE
          have u2 := e9.cell g2
          go_wp2_with fail
          exact hK _ _ X (Ext.refl _) kept_m hX rfl
        · refine ⟨_, 133, rfl, by kernel_rfl, ?_⟩
          intro u w9 X hE hX hd K hK
          have d24 : u 127 = .bool true := hd 24 (by kernel_rfl)
          clear hd
          simp only [overlay, List.setIfInBounds_toArray, List.set, d24] at hK ⊢
          have e9 : Ext wo w9 := (Ext.refl wo).drew.trans hE
          obtain ⟨s0, s1, s2, s3⟩ := (HBXR.out.ext e9).cell
          go_wp2_with fail
          exact hK _ _ X (Ext.refl _) kept_m hX rfl
        · refine ⟨_, 134, rfl, by kernel_rfl, ?_⟩
          intro u w9 X hE hX hd K hK
          have d30 : u 133 = .agg #[.int .i64 kx, .slice (some ⟨b1, f1, none⟩) sl m1, .slice q2 nx.length m2, .slice q3 ([] : List Arr).length m3] := hd 30 (by kernel_rfl)
          have d24 : u 127 = .bool true := hd 24 (by kernel_rfl)
          clear hd
          simp only [overlay, List.setIfInBounds_toArray, List.set, d30, d24] at hK ⊢
          have e9 : Ext wo w9 := (Ext.refl wo).drew.trans hE
          go_wp2_with fail
          refine (rfill_any F (.mk kx (d :: r) nx []) _ _ _ _ w9 (HAXR.out.ext e9)).mono ?_
          rintro e w8 ⟨e0, e1, e2, e3, rfl, hF, hE8⟩
          go_wp2_with fail
          exact hK _ _ X hE8 kept_m (hX.ext hE8) (RdX.new hF (fun b hb _ => .inl hb) hX.hi)
        · refine ⟨_, 135, rfl, by kernel_rfl, ?_⟩
          intro u w9 X hE hX hd K hK
          have d31 : RdX X w9 (fillV (.mk kx (d :: r) nx [])) (u 134) := hd 31 (by kernel_rfl)
          have d24 : u 127 = .bool true := hd 24 (by kernel_rfl)
          clear hd
          simp only [overlay, List.setIfInBounds_toArray, List.set, d24] at hK ⊢
          obtain ⟨e0, e1, e2, e3, hv31, hF⟩ := d31
          obtain ⟨sa, na, ia, hfe, hfn, _⟩ := fill_parts kx (d :: r) nx [] HK3.out
          simp only [hv31] at hK ⊢
          rw [fill_nums HK3.out hkb] at hF
          unfold ArrAt at hF
          obtain ⟨rfl, _, ⟨pa, ma, rfl, _, _⟩, ⟨pz, cz, rfl, hkz, hiz⟩, ⟨pc, mc, rfl, _, _⟩⟩ := hF
          simp only [List.length_nil, List.length_singleton, List.length_cons, Nat.zero_add]
          have hfd : ∀ w : World, (Instr.field 26 (.agg #[.int .i64 kx, .slice pa 0 ma, .slice pz 1 cz, .slice pc 0 mc]) 2).run Try.prog w = .ok (.slice pz 1 cz) w := fun _ => by kernel_rfl
          go_wp2_with fail
          exact hK (.slice pz 1 cz) _ X (Ext.refl _) kept_m hX ⟨pz, cz, rfl, hkz, hiz⟩
        · refine ⟨_, 136, rfl, by kernel_rfl, ?_⟩
          intro u w9 X hE hX hd K hK
          have d32 : RdIX X w9 [padN kx] (u 135) := hd 32 (by kernel_rfl)
          have d24 : u 127 = .bool true := hd 24 (by kernel_rfl)
          clear hd
          simp only [overlay, List.setIfInBounds_toArray, List.set, d24] at hK ⊢
          obtain ⟨pz, cz, hv32, hkz, hiz⟩ := d32
          obtain ⟨bz, oz, rfl, gz, _, _⟩ := hiz.get (i := 0) (by simp)
          simp only [hv32] at hK ⊢
          simp only [List.getD_cons_zero, Nat.add_zero] at gz
          go_wp2_with fail
          exact hK _ _ X (Ext.refl _) kept_m hX ⟨bz, oz, rfl, gz⟩
        · refine ⟨_, 137, rfl, by kernel_rfl, ?_⟩
          intro u w9 X hE hX hd K hK
          have d33 : ∃ b off, u 136 = .pointer (some ⟨b, off, none⟩) ∧ w9.cell? ⟨b, off, none⟩ = some (.int .i64 (padN kx)) := hd 33 (by kernel_rfl)
          have d24 : u 127 = .bool true := hd 24 (by kernel_rfl)
          clear hd
          simp only [overlay, List.setIfInBounds_toArray, List.set, d24] at hK ⊢
          obtain ⟨bz, oz, hv33, gz⟩ := d33
          simp only [hv33] at hK ⊢
          go_wp2_with fail
          exact hK _ _ X (Ext.refl _) kept_m hX rfl
        · refine ⟨_, 138, rfl, by kernel_rfl, ?_⟩
          intro u w9 X hE hX hd K hK
          have d29 : u 132 = .int .i64 (padN kx) := hd 29 (by kernel_rfl)
          have d34 : u 137 = .int .i64 (padN kx) := hd 34 (by kernel_rfl)
          have d24 : u 127 = .bool true := hd 24 (by kernel_rfl)
          clear hd
          simp only [overlay, List.setIfInBounds_toArray, List.set, d29, d34, d24] at hK ⊢
          go_wp2_with fail
          exact hK _ _ X (Ext.refl _) kept_m hX rfl
        · refine ⟨_, 139, rfl, by kernel_rfl, ?_⟩
          intro u w9 X hE hX hd K hK
          have d24 : u 127 = .bool true := hd 24 (by kernel_rfl)
          have d35 : u 138 = .bool false := hd 35 (by kernel_rfl)
          have d18 : u 121 = .bool false := hd 18 (by kernel_rfl)
          clear hd
          simp only [overlay, List.setIfInBounds_toArray, List.set, d24, d35, d18] at hK ⊢
          go_wp2_with fail
          exact hK _ _ X (Ext.refl _) kept_m hX rfl
        · refine ⟨_, 140, rfl, by kernel_rfl, ?_⟩
          intro u w9 X hE hX hd K hK
          have d18 : u 121 = .bool false := hd 18 (by kernel_rfl)
          have d36 : u 139 = .bool false := hd 36 (by kernel_rfl)
          clear hd
          simp only [overlay, List.setIfInBounds_toArray, List.set, d18, d36] at hK ⊢
          go_wp2_with fail
          exact hK _ _ X (Ext.refl _) kept_m hX rfl
      · exact mem_nil_m
      intro u w9 X hE hX hd
      have d0 : u 103 = .int .i64 (i : Int) := hd 0 (by decide)
      have d1 : u 104 = .pointer (some ⟨w.heap.size, 2, none⟩) := hd 1 (by decide)
      have d2 : u 105 = .slice q2 nx.length m2 := hd 2 (by decide)
      have d3 : u 106 = .int .i64 (nx.length : Int) := hd 3 (by decide)
      have d4 : u 107 = .bool false := hd 4 (by decide)
      have d5 : u 108 = .bool false := hd 5 (by decide)
      have d6 : u 109 = undef := hd 6 (by decide)
      have d7 : u 110 = undef := hd 7 (by decide)
      have d8 : u 111 = undef := hd 8 (by decide)
      have d9 : u 112 = undef := hd 9 (by decide)
      have d10 : u 113 = undef := hd 10 (by decide)
      have d11 : u 114 = undef := hd 11 (by decide)
      have d12 : u 115 = undef := hd 12 (by decide)
      have d13 : u 116 = undef := hd 13 (by decide)
      have d14 : u 117 = undef := hd 14 (by decide)
      have d15 : u 118 = undef := hd 15 (by decide)
      have d16 : u 119 = undef := hd 16 (by decide)
      have d17 : u 120 = .bool false := hd 17 (by decide)
      have d18 : u 121 = .bool false := hd 18 (by decide)
      have d19 : u 122 = .int .i64 (i : Int) := hd 19 (by decide)
      have d20 : u 123 = .pointer (some ⟨w.heap.size, 2, none⟩) := hd 20 (by decide)
      have d21 : u 124 = .slice q2 nx.length m2 := hd 21 (by decide)
      have d22 : u 125 = .int .i64 (nx.length : Int) := hd 22 (by decide)
      have d23 : u 126 = .bool true := hd 23 (by decide)
      have d24 : u 127 = .bool true := hd 24 (by decide)
      have d25 : u 128 = .pointer (some ⟨by61, 2, none⟩) := hd 25 (by decide)
      have d26 : u 129 = .slice (some ⟨b2, f2, none⟩) yn.length mby61 := hd 26 (by decide)
      have d27 : u 130 = .int .i64 (i : Int) := hd 27 (by decide)
      have d28 : u 131 = .pointer (some ⟨b2, f2 + i, none⟩) := hd 28 (by decide)
      have d29 : u 132 = .int .i64 (padN kx) := hd 29 (by decide)
      have d30 : u 133 = .agg #[.int .i64 kx, .slice (some ⟨b1, f1, none⟩) sl m1, .slice q2 nx.length m2, .slice q3 ([] : List Arr).length m3] := hd 30 (by decide)
      have d31 : RdX X w9 (fillV (.mk kx (d :: r) nx [])) (u 134) := hd 31 (by decide)
      have d32 : RdIX X w9 [padN kx] (u 135) := hd 32 (by decide)
      have d33 : ∃ b off, u 136 = .pointer (some ⟨b, off, none⟩) ∧ w9.cell? ⟨b, off, none⟩ = some (.int .i64 (padN kx)) := hd 33 (by decide)
      have d34 : u 137 = .int .i64 (padN kx) := hd 34 (by decide)
      have d35 : u 138 = .bool false := hd 35 (by decide)
      have d36 : u 139 = .bool false := hd 36 (by decide)
      have d37 : u 140 = .bool false := hd 37 (by decide)
      clear hd
      simp only [overlay, List.setIfInBounds_toArray, List.set, d0, d1, d2, d3, d4, d5, d6, d7, d8, d9, d10, d11, d12, d13, d14, d15, d16, d17, d18, d19, d20, d21, d22, d23, d24, d25, d26, d27, d28, d29, d30, d34, d35, d36, d37]
      have e9 : Ext wo w9 := (Ext.refl wo).drew.trans hE
      clear d0 d1 d2 d3 d4 d5 d6 d7 d8 d9 d10 d11 d12 d13 d14 d15 d16 d17 d18 d19 d20 d21 d22 d23 d24 d25 d26 d27 d28 d29 d30 d31 d32 d33 d34 d35 d36 d37
      clear hX hE
      generalize u 134 = zz31
      generalize u 135 = zz32
      generalize u 136 = zz33
      clear u
      go_wp2_with fail
      go_roundw
      case rel => exact ⟨i + 1, by go_num, by omega, hEr.trans e9⟩
      case measure => simp [intOf]; omega

end Go.Proofs.Ytmpjnjhiklaofaa
