/-
  THE WALK of law27.awake: the chapter's examples; contracts over readings. (Printed by gen_radawk.py.)
-/
import Derived.Test.YtmpjnjhiklaofaaRDec
import Derived.Test.YtmpjnjhiklaofaaREnc
import Derived.Test.YtmpjnjhiklaofaaRadLaw2
namespace Go.Proofs.Ytmpjnjhiklaofaa
set_option linter.unusedSimpArgs false
set_option linter.unusedVariables false
open Go.RowKit

theorem enc_at {X : Nat → Prop} {w : World} {a b t : Arr} {n : Int} {v1 v2 : Value} (ex : encV a b = (t, n)) (h1 : RdX X w a v1) (h2 : RdX X w b v2) (hX : ∀ b, X b → b < w.heap.size) : Calls Try.prog 17 #[v1, v2] w fun e w' => ∃ x, e = .returned (.tuple #[x, .int .i64 n]) ∧ RdX X w' t x ∧ Ext w w' := by
  obtain ⟨c0, c1, c2, c3, rfl, hA⟩ := h1
  obtain ⟨d0, d1, d2, d3, rfl, hB⟩ := h2
  refine (encode_any _ _ a b _ _ _ _ _ _ _ _ w hA hB).mono ?_
  rintro e w' ⟨e0, e1, e2, e3, rfl, hR, hE⟩
  rw [ex] at hR ⊢
  exact ⟨_, rfl, RdX.new hR (fun b hb _ => .inl hb) hX, hE⟩
theorem dec_at {X : Nat → Prop} {w : World} {a b t : Arr} {n : Int} {v1 v2 : Value} (ex : decV a b = (t, n)) (h1 : RdX X w a v1) (h2 : RdX X w b v2) (hX : ∀ b, X b → b < w.heap.size) : Calls Try.prog 19 #[v1, v2] w fun e w' => ∃ x, e = .returned (.tuple #[x, .int .i64 n]) ∧ RdX X w' t x ∧ Ext w w' := by
  obtain ⟨c0, c1, c2, c3, rfl, hA⟩ := h1
  obtain ⟨d0, d1, d2, d3, rfl, hB⟩ := h2
  refine (decode_any _ _ a b _ _ _ _ _ _ _ _ w hA hB).mono ?_
  rintro e w' ⟨e0, e1, e2, e3, rfl, hR, hE⟩
  rw [ex] at hR ⊢
  exact ⟨_, rfl, RdX.new hR (fun b hb _ => .inl hb) hX, hE⟩
theorem renc_at {X : Nat → Prop} {w : World} {a b t : Arr} {n : Int} {v1 v2 : Value} (ex : encV a b = (t, n)) (h1 : RdX X w a v1) (h2 : RdX X w b v2) (hX : ∀ b, X b → b < w.heap.size) : Calls Try.prog 18 #[v1, v2] w fun e w' => ∃ x, e = .returned (.tuple #[x, .int .i64 n]) ∧ RdX X w' t x ∧ Ext w w' := by
  obtain ⟨c0, c1, c2, c3, rfl, hA⟩ := h1
  obtain ⟨d0, d1, d2, d3, rfl, hB⟩ := h2
  refine (rencode_any _ _ a b _ _ _ _ _ _ _ _ w hA hB).mono ?_
  rintro e w' ⟨e0, e1, e2, e3, rfl, hR, hE⟩
  rw [ex] at hR ⊢
  exact ⟨_, rfl, RdX.new hR (fun b hb _ => .inl hb) hX, hE⟩
theorem rdec_at {X : Nat → Prop} {w : World} {a b t : Arr} {n : Int} {v1 v2 : Value} (ex : decV a b = (t, n)) (h1 : RdX X w a v1) (h2 : RdX X w b v2) (hX : ∀ b, X b → b < w.heap.size) : Calls Try.prog 20 #[v1, v2] w fun e w' => ∃ x, e = .returned (.tuple #[x, .int .i64 n]) ∧ RdX X w' t x ∧ Ext w w' := by
  obtain ⟨c0, c1, c2, c3, rfl, hA⟩ := h1
  obtain ⟨d0, d1, d2, d3, rfl, hB⟩ := h2
  refine (rdecode_any _ _ a b _ _ _ _ _ _ _ _ w hA hB).mono ?_
  rintro e w' ⟨e0, e1, e2, e3, rfl, hR, hE⟩
  rw [ex] at hR ⊢
  exact ⟨_, rfl, RdX.new hR (fun b hb _ => .inl hb) hX, hE⟩

theorem ra1 : encV (vecV [24, 60, 60]) (numV 3661) = (vecV [1, 1, 1], 0) := by rfl
theorem ra2 : decV (vecV [24, 60, 60]) (vecV [1, 1, 1]) = (numV 3661, 0) := by rfl
theorem ra3 : encV (vecV [0, 10]) (numV 345) = (vecV [34, 5], 0) := by rfl
theorem ra4 : decV (numV 2) (vecV [1, 0, 1]) = (numV 5, 0) := by rfl
theorem ra5 : encV (vecV [-1, 2]) (numV 5) = (Arr.zero, 17) := by rfl

set_option maxRecDepth 100000 in
set_option maxHeartbeats 8000000 in
theorem radawake_any (w : World) : Calls Try.prog 16 #[] w fun e w' => e = .returned (.bool true) ∧ Ext w w' := by
  go_enter Try.func16, Try.ntmps16
  have HE := Lib.hid (Ext.refl w)
  go_wp2_with fail
  refine (vec_rd (rdix_lit0 w [24, 60, 60] (by decide) (by decide)) (fun _ h => False.elim h)).mono ?_
  rintro e wf2 ⟨x1, rfl, hx1, hEx1⟩
  replace hEx1 := ((Ext.refl w).alloc (.cells #[.int .i64 24, .int .i64 60, .int .i64 60] 3)).trans hEx1
  go_wp2_with fail
  refine (num_rd (by decide) (fun _ h => False.elim h)).mono ?_
  rintro e wf4 ⟨x3, rfl, hx3, hEx3⟩
  replace hx1 := hx1.mono0 hEx3
  go_wp2_with fail
  refine (enc_at ra1 hx1 hx3 (fun _ h => False.elim h)).mono ?_
  rintro e wf6 ⟨x5, rfl, hx5, hEx5⟩
  obtain ⟨c0, c1, c2, c3, rfl, hA9⟩ := hx5
  obtain ⟨kx5, pax5, lax5, max5, pbx5, lbx5, mbx5, pcx5, lcx5, mcx5, rfl, rfl, rfl, rfl⟩ := hA9.form
  have hEn := ((((Ext.refl w).trans hEx1).trans hEx3).trans hEx5).alloc (.cells #[(.int .i64 kx5), (.slice pax5 lax5 max5), (.slice pbx5 lbx5 mbx5), (.slice pcx5 lcx5 mcx5)] 26)
  have hBn := box_new wf6 (.int .i64 kx5) (.slice pax5 lax5 max5) (.slice pbx5 lbx5 mbx5) (.slice pcx5 lcx5 mcx5)
  have hAn := hA9.ext ((Ext.refl _).alloc (.cells #[(.int .i64 kx5), (.slice pax5 lax5 max5), (.slice pbx5 lbx5 mbx5), (.slice pcx5 lcx5 mcx5)] 26))
  clear hA9 hEx5 hEx1 hEx3 hx1 hx3
  have HF := Lib.hid (And.intro hEn (And.intro hBn hAn))
  clear hEn hBn hAn
  go_upto_region 2 with (fail)
  obtain ⟨hEn, hBn, hAn⟩ := HF.out
  clear HF
  generalize hbz : wf6.heap.size = bx5 at *
  clear hbz
  generalize wf6.alloc (.cells #[(.int .i64 kx5), (.slice pax5 lax5 max5), (.slice pbx5 lbx5 mbx5), (.slice pcx5 lcx5 mcx5)] 26) = wk7 at *
  replace HE := Lib.hid (HE.out.trans (hEn))
  have HBa := Lib.hid hBn
  have HAa := Lib.hid hAn
  clear hEn hBn hAn
  go_wp2_with fail
  refine (vec_rd (rdix_lit0 wk7 [24, 60, 60] (by decide) (by decide)) (fun _ h => False.elim h)).mono ?_
  rintro e wf9 ⟨x8, rfl, hx8, hEx8⟩
  replace hEx8 := ((Ext.refl wk7).alloc (.cells #[.int .i64 24, .int .i64 60, .int .i64 60] 3)).trans hEx8
  go_wp2_with fail
  refine (vec_rd (rdix_lit0 wf9 [1, 1, 1] (by decide) (by decide)) (fun _ h => False.elim h)).mono ?_
  rintro e wf11 ⟨x10, rfl, hx10, hEx10⟩
  replace hEx10 := ((Ext.refl wf9).alloc (.cells #[.int .i64 1, .int .i64 1, .int .i64 1] 3)).trans hEx10
  replace hx8 := hx8.mono0 hEx10
  go_wp2_with fail
  refine (dec_at ra2 hx8 hx10 (fun _ h => False.elim h)).mono ?_
  rintro e wf13 ⟨x12, rfl, hx12, hEx12⟩
  obtain ⟨c0, c1, c2, c3, rfl, hA9⟩ := hx12
  obtain ⟨kx12, pax12, lax12, max12, pbx12, lbx12, mbx12, pcx12, lcx12, mcx12, rfl, rfl, rfl, rfl⟩ := hA9.form
  have hEn := ((((Ext.refl wk7).trans hEx8).trans hEx10).trans hEx12).alloc (.cells #[(.int .i64 kx12), (.slice pax12 lax12 max12), (.slice pbx12 lbx12 mbx12), (.slice pcx12 lcx12 mcx12)] 26)
  have hBn := box_new wf13 (.int .i64 kx12) (.slice pax12 lax12 max12) (.slice pbx12 lbx12 mbx12) (.slice pcx12 lcx12 mcx12)
  have hAn := hA9.ext ((Ext.refl _).alloc (.cells #[(.int .i64 kx12), (.slice pax12 lax12 max12), (.slice pbx12 lbx12 mbx12), (.slice pcx12 lcx12 mcx12)] 26))
  clear hA9 hEx12 hEx8 hEx10 hx8 hx10
  have HF := Lib.hid (And.intro hEn (And.intro hBn hAn))
  clear hEn hBn hAn
  go_upto_region 3 with (fail)
  obtain ⟨hEn, hBn, hAn⟩ := HF.out
  clear HF
  generalize hbz : wf13.heap.size = bx12 at *
  clear hbz
  generalize wf13.alloc (.cells #[(.int .i64 kx12), (.slice pax12 lax12 max12), (.slice pbx12 lbx12 mbx12), (.slice pcx12 lcx12 mcx12)] 26) = wk14 at *
  replace HBa := Lib.hid (HBa.out.ext hEn)
  replace HAa := Lib.hid (HAa.out.ext hEn)
  replace HE := Lib.hid (HE.out.trans (hEn))
  have HBb := Lib.hid hBn
  have HAb := Lib.hid hAn
  clear hEn hBn hAn
  go_wp2_with fail
  refine (vec_rd (rdix_lit0 wk14 [0, 10] (by decide) (by decide)) (fun _ h => False.elim h)).mono ?_
  rintro e wf16 ⟨x15, rfl, hx15, hEx15⟩
  replace hEx15 := ((Ext.refl wk14).alloc (.cells #[.int .i64 0, .int .i64 10] 3)).trans hEx15
  go_wp2_with fail
  refine (num_rd (by decide) (fun _ h => False.elim h)).mono ?_
  rintro e wf18 ⟨x17, rfl, hx17, hEx17⟩
  replace hx15 := hx15.mono0 hEx17
  go_wp2_with fail
  refine (enc_at ra3 hx15 hx17 (fun _ h => False.elim h)).mono ?_
  rintro e wf20 ⟨x19, rfl, hx19, hEx19⟩
  obtain ⟨c0, c1, c2, c3, rfl, hA9⟩ := hx19
  obtain ⟨kx19, pax19, lax19, max19, pbx19, lbx19, mbx19, pcx19, lcx19, mcx19, rfl, rfl, rfl, rfl⟩ := hA9.form
  have hEn := ((((Ext.refl wk14).trans hEx15).trans hEx17).trans hEx19).alloc (.cells #[(.int .i64 kx19), (.slice pax19 lax19 max19), (.slice pbx19 lbx19 mbx19), (.slice pcx19 lcx19 mcx19)] 26)
  have hBn := box_new wf20 (.int .i64 kx19) (.slice pax19 lax19 max19) (.slice pbx19 lbx19 mbx19) (.slice pcx19 lcx19 mcx19)
  have hAn := hA9.ext ((Ext.refl _).alloc (.cells #[(.int .i64 kx19), (.slice pax19 lax19 max19), (.slice pbx19 lbx19 mbx19), (.slice pcx19 lcx19 mcx19)] 26))
  clear hA9 hEx19 hEx15 hEx17 hx15 hx17
  have HF := Lib.hid (And.intro hEn (And.intro hBn hAn))
  clear hEn hBn hAn
  go_upto_region 4 with (fail)
  obtain ⟨hEn, hBn, hAn⟩ := HF.out
  clear HF
  generalize hbz : wf20.heap.size = bx19 at *
  clear hbz
  generalize wf20.alloc (.cells #[(.int .i64 kx19), (.slice pax19 lax19 max19), (.slice pbx19 lbx19 mbx19), (.slice pcx19 lcx19 mcx19)] 26) = wk21 at *
  replace HBa := Lib.hid (HBa.out.ext hEn)
  replace HAa := Lib.hid (HAa.out.ext hEn)
  replace HBb := Lib.hid (HBb.out.ext hEn)
  replace HAb := Lib.hid (HAb.out.ext hEn)
  replace HE := Lib.hid (HE.out.trans (hEn))
  have HBc := Lib.hid hBn
  have HAc := Lib.hid hAn
  clear hEn hBn hAn
  go_wp2_with fail
  refine (num_rd (by decide) (fun _ h => False.elim h)).mono ?_
  rintro e wf23 ⟨x22, rfl, hx22, hEx22⟩
  go_wp2_with fail
  refine (vec_rd (rdix_lit0 wf23 [1, 0, 1] (by decide) (by decide)) (fun _ h => False.elim h)).mono ?_
  rintro e wf25 ⟨x24, rfl, hx24, hEx24⟩
  replace hEx24 := ((Ext.refl wf23).alloc (.cells #[.int .i64 1, .int .i64 0, .int .i64 1] 3)).trans hEx24
  replace hx22 := hx22.mono0 hEx24
  go_wp2_with fail
  refine (dec_at ra4 hx22 hx24 (fun _ h => False.elim h)).mono ?_
  rintro e wf27 ⟨x26, rfl, hx26, hEx26⟩
  obtain ⟨c0, c1, c2, c3, rfl, hA9⟩ := hx26
  obtain ⟨kx26, pax26, lax26, max26, pbx26, lbx26, mbx26, pcx26, lcx26, mcx26, rfl, rfl, rfl, rfl⟩ := hA9.form
  have hEn := ((((Ext.refl wk21).trans hEx22).trans hEx24).trans hEx26).alloc (.cells #[(.int .i64 kx26), (.slice pax26 lax26 max26), (.slice pbx26 lbx26 mbx26), (.slice pcx26 lcx26 mcx26)] 26)
  have hBn := box_new wf27 (.int .i64 kx26) (.slice pax26 lax26 max26) (.slice pbx26 lbx26 mbx26) (.slice pcx26 lcx26 mcx26)
  have hAn := hA9.ext ((Ext.refl _).alloc (.cells #[(.int .i64 kx26), (.slice pax26 lax26 max26), (.slice pbx26 lbx26 mbx26), (.slice pcx26 lcx26 mcx26)] 26))
  clear hA9 hEx26 hEx22 hEx24 hx22 hx24
  have HF := Lib.hid (And.intro hEn (And.intro hBn hAn))
  clear hEn hBn hAn
  go_upto_region 5 with (fail)
  obtain ⟨hEn, hBn, hAn⟩ := HF.out
  clear HF
  generalize hbz : wf27.heap.size = bx26 at *
  clear hbz
  generalize wf27.alloc (.cells #[(.int .i64 kx26), (.slice pax26 lax26 max26), (.slice pbx26 lbx26 mbx26), (.slice pcx26 lcx26 mcx26)] 26) = wk28 at *
  replace HBa := Lib.hid (HBa.out.ext hEn)
  replace HAa := Lib.hid (HAa.out.ext hEn)
  replace HBb := Lib.hid (HBb.out.ext hEn)
  replace HAb := Lib.hid (HAb.out.ext hEn)
  replace HBc := Lib.hid (HBc.out.ext hEn)
  replace HAc := Lib.hid (HAc.out.ext hEn)
  replace HE := Lib.hid (HE.out.trans (hEn))
  have HBd := Lib.hid hBn
  have HAd := Lib.hid hAn
  clear hEn hBn hAn
  go_wp2_with fail
  refine (vec_rd (rdix_lit0 wk28 [(-1), 2] (by decide) (by decide)) (fun _ h => False.elim h)).mono ?_
  rintro e wf30 ⟨x29, rfl, hx29, hEx29⟩
  replace hEx29 := ((Ext.refl wk28).alloc (.cells #[.int .i64 (-1), .int .i64 2] 3)).trans hEx29
  go_wp2_with fail
  refine (num_rd (by decide) (fun _ h => False.elim h)).mono ?_
  rintro e wf32 ⟨x31, rfl, hx31, hEx31⟩
  replace hx29 := hx29.mono0 hEx31
  go_wp2_with fail
  refine (enc_at ra5 hx29 hx31 (fun _ h => False.elim h)).mono ?_
  rintro e wf34 ⟨x33, rfl, hx33, hEx33⟩
  obtain ⟨c0, c1, c2, c3, rfl, hA9⟩ := hx33
  obtain ⟨kx33, pax33, lax33, max33, pbx33, lbx33, mbx33, pcx33, lcx33, mcx33, rfl, rfl, rfl, rfl⟩ := hA9.form
  have hEn := ((((Ext.refl wk28).trans hEx29).trans hEx31).trans hEx33).alloc (.cells #[(.int .i64 kx33), (.slice pax33 lax33 max33), (.slice pbx33 lbx33 mbx33), (.slice pcx33 lcx33 mcx33)] 26)
  have hBn := box_new wf34 (.int .i64 kx33) (.slice pax33 lax33 max33) (.slice pbx33 lbx33 mbx33) (.slice pcx33 lcx33 mcx33)
  have hAn := hA9.ext ((Ext.refl _).alloc (.cells #[(.int .i64 kx33), (.slice pax33 lax33 max33), (.slice pbx33 lbx33 mbx33), (.slice pcx33 lcx33 mcx33)] 26))
  clear hA9 hEx33 hEx29 hEx31 hx29 hx31
  have HF := Lib.hid (And.intro hEn (And.intro hBn hAn))
  clear hEn hBn hAn
  go_upto_region 6 with (fail)
  obtain ⟨hEn, hBn, hAn⟩ := HF.out
  clear HF
  generalize hbz : wf34.heap.size = bx33 at *
  clear hbz
  generalize wf34.alloc (.cells #[(.int .i64 kx33), (.slice pax33 lax33 max33), (.slice pbx33 lbx33 mbx33), (.slice pcx33 lcx33 mcx33)] 26) = wk35 at *
  replace HBa := Lib.hid (HBa.out.ext hEn)
  replace HAa := Lib.hid (HAa.out.ext hEn)
  replace HBb := Lib.hid (HBb.out.ext hEn)
  replace HAb := Lib.hid (HAb.out.ext hEn)
  replace HBc := Lib.hid (HBc.out.ext hEn)
  replace HAc := Lib.hid (HAc.out.ext hEn)
  replace HBd := Lib.hid (HBd.out.ext hEn)
  replace HAd := Lib.hid (HAd.out.ext hEn)
  replace HE := Lib.hid (HE.out.trans (hEn))
  have HBk := Lib.hid hBn
  have HAk := Lib.hid hAn
  clear hEn hBn hAn
  refine wp_region_x0 (MProp.is (.int .i64 0) :: MProp.is (.bool true) :: MProp.is (.bool true) :: MProp.is (.int .i64 0) :: MProp.is (.bool true) :: MProp.is (.bool true) :: MProp.is (.bool true) :: MProp.is (.int .i64 0) :: MProp.is (.bool true) :: MProp.is (.bool true) :: MProp.is (.bool true) :: MProp.is (.int .i64 0) :: MProp.is (.bool true) :: MProp.is (.bool true) :: MProp.is (.bool true) :: MProp.is (.int .i64 17) :: MProp.is (.bool true) :: MProp.is (.bool true) :: MProp.is (.bool true) :: MProp.is (.agg #[(.int .i64 kx5), (.slice pax5 lax5 max5), (.slice pbx5 lbx5 mbx5), (.slice pcx5 lcx5 mcx5)]) :: MProp.rdi [1, 1, 1] :: MProp.rd (vecV [1, 1, 1]) :: MProp.is (.bool true) :: MProp.is (.bool true) :: MProp.is (.bool true) :: MProp.is (.agg #[(.int .i64 kx12), (.slice pax12 lax12 max12), (.slice pbx12 lbx12 mbx12), (.slice pcx12 lcx12 mcx12)]) :: MProp.rd (numV 3661) :: MProp.is (.bool true) :: MProp.is (.bool true) :: MProp.is (.bool true) :: MProp.is (.agg #[(.int .i64 kx19), (.slice pax19 lax19 max19), (.slice pbx19 lbx19 mbx19), (.slice pcx19 lcx19 mcx19)]) :: MProp.rdi [34, 5] :: MProp.rd (vecV [34, 5]) :: MProp.is (.bool true) :: MProp.is (.bool true) :: MProp.is (.bool true) :: MProp.is (.agg #[(.int .i64 kx26), (.slice pax26 lax26 max26), (.slice pbx26 lbx26 mbx26), (.slice pcx26 lcx26 mcx26)]) :: MProp.rd (numV 5) :: MProp.is (.bool true) :: MProp.is (.bool true) :: MProp.is (.bool true) :: []) (0 :: 1 :: 2 :: 3 :: 4 :: 5 :: 6 :: 7 :: 8 :: 9 :: 10 :: 11 :: 12 :: 13 :: 14 :: 15 :: 16 :: 17 :: 18 :: 19 :: 20 :: 21 :: 22 :: 23 :: 24 :: 25 :: 26 :: 27 :: 28 :: 29 :: 30 :: 31 :: 32 :: 33 :: 34 :: 35 :: 36 :: 37 :: 38 :: 39 :: 40 :: []) [] (47 :: 48 :: 49 :: 50 :: 51 :: 52 :: 53 :: 54 :: 55 :: 56 :: 57 :: 58 :: 59 :: 60 :: 61 :: 62 :: 63 :: 64 :: 65 :: 66 :: 67 :: 68 :: 69 :: 70 :: 71 :: 72 :: 73 :: 74 :: 75 :: 76 :: 77 :: 78 :: 79 :: 80 :: 81 :: 82 :: 83 :: 84 :: 85 :: 86 :: 0 :: []) (by kernel_rfl) (by kernel_rfl) (by kernel_rfl) ?_ ?_ ?_
  · refine mem_cons_m ?_ (mem_cons_m ?_ (mem_cons_m ?_ (mem_cons_m ?_ (mem_cons_m ?_ (mem_cons_m ?_ (mem_cons_m ?_ (mem_cons_m ?_ (mem_cons_m ?_ (mem_cons_m ?_ (mem_cons_m ?_ (mem_cons_m ?_ (mem_cons_m ?_ (mem_cons_m ?_ (mem_cons_m ?_ (mem_cons_m ?_ (mem_cons_m ?_ (mem_cons_m ?_ (mem_cons_m ?_ (mem_cons_m ?_ (mem_cons_m ?_ (mem_cons_m ?_ (mem_cons_m ?_ (mem_cons_m ?_ (mem_cons_m ?_ (mem_cons_m ?_ (mem_cons_m ?_ (mem_cons_m ?_ (mem_cons_m ?_ (mem_cons_m ?_ (mem_cons_m ?_ (mem_cons_m ?_ (mem_cons_m ?_ (mem_cons_m ?_ (mem_cons_m ?_ (mem_cons_m ?_ (mem_cons_m ?_ (mem_cons_m ?_ (mem_cons_m ?_ (mem_cons_m ?_ (mem_cons_m ?_ (mem_nil_m)))))))))))))))))))))))))))))))))))))))))
    · refine ⟨_, 47, rfl, by kernel_rfl, ?_⟩
      intro u w9 X hE hX hd K hK
      clear hd
      simp only [overlay, List.setIfInBounds_toArray, List.set] at hK ⊢
      go_wp2_with fail
      exact hK _ _ X (Ext.refl _) kept_m hX rfl
    · refine ⟨_, 48, rfl, by kernel_rfl, ?_⟩
      intro u w9 X hE hX hd K hK
      have d0 : u 47 = .int .i64 0 := hd 0 (by kernel_rfl)
      clear hd
      simp only [overlay, List.setIfInBounds_toArray, List.set, d0] at hK ⊢
      go_wp2_with fail
      exact hK _ _ X (Ext.refl _) kept_m hX rfl
    · refine ⟨_, 49, rfl, by kernel_rfl, ?_⟩
      intro u w9 X hE hX hd K hK
      have d1 : u 48 = .bool true := hd 1 (by kernel_rfl)
      clear hd
      simp only [overlay, List.setIfInBounds_toArray, List.set, d1] at hK ⊢
      go_wp2_with fail
      exact hK _ _ X (Ext.refl _) kept_m hX rfl
    · refine ⟨_, 50, rfl, by kernel_rfl, ?_⟩
      intro u w9 X hE hX hd K hK
      have d2 : u 49 = .bool true := hd 2 (by kernel_rfl)
      clear hd
      simp only [overlay, List.setIfInBounds_toArray, List.set, d2] at hK ⊢
      go_wp2_with fail
      exact hK _ _ X (Ext.refl _) kept_m hX rfl
    · refine ⟨_, 51, rfl, by kernel_rfl, ?_⟩
      intro u w9 X hE hX hd K hK
      have d3 : u 50 = .int .i64 0 := hd 3 (by kernel_rfl)
      have d2 : u 49 = .bool true := hd 2 (by kernel_rfl)
      clear hd
      simp only [overlay, List.setIfInBounds_toArray, List.set, d3, d2] at hK ⊢
      go_wp2_with fail
      exact hK _ _ X (Ext.refl _) kept_m hX rfl
    · refine ⟨_, 52, rfl, by kernel_rfl, ?_⟩
      intro u w9 X hE hX hd K hK
      have d2 : u 49 = .bool true := hd 2 (by kernel_rfl)
      have d4 : u 51 = .bool true := hd 4 (by kernel_rfl)
      clear hd
      simp only [overlay, List.setIfInBounds_toArray, List.set, d2, d4] at hK ⊢
      go_wp2_with fail
      exact hK _ _ X (Ext.refl _) kept_m hX rfl
    · refine ⟨_, 53, rfl, by kernel_rfl, ?_⟩
      intro u w9 X hE hX hd K hK
      have d5 : u 52 = .bool true := hd 5 (by kernel_rfl)
      clear hd
      simp only [overlay, List.setIfInBounds_toArray, List.set, d5] at hK ⊢
      go_wp2_with fail
      exact hK _ _ X (Ext.refl _) kept_m hX rfl
    · refine ⟨_, 54, rfl, by kernel_rfl, ?_⟩
      intro u w9 X hE hX hd K hK
      have d6 : u 53 = .bool true := hd 6 (by kernel_rfl)
      clear hd
      simp only [overlay, List.setIfInBounds_toArray, List.set, d6] at hK ⊢
      go_wp2_with fail
      exact hK _ _ X (Ext.refl _) kept_m hX rfl
    · refine ⟨_, 55, rfl, by kernel_rfl, ?_⟩
      intro u w9 X hE hX hd K hK
      have d7 : u 54 = .int .i64 0 := hd 7 (by kernel_rfl)
      have d6 : u 53 = .bool true := hd 6 (by kernel_rfl)
      clear hd
      simp only [overlay, List.setIfInBounds_toArray, List.set, d7, d6] at hK ⊢
      go_wp2_with fail
      exact hK _ _ X (Ext.refl _) kept_m hX rfl
    · refine ⟨_, 56, rfl, by kernel_rfl, ?_⟩
      intro u w9 X hE hX hd K hK
      have d6 : u 53 = .bool true := hd 6 (by kernel_rfl)
      have d8 : u 55 = .bool true := hd 8 (by kernel_rfl)
      clear hd
      simp only [overlay, List.setIfInBounds_toArray, List.set, d6, d8] at hK ⊢
      go_wp2_with fail
      exact hK _ _ X (Ext.refl _) kept_m hX rfl
    · refine ⟨_, 57, rfl, by kernel_rfl, ?_⟩
      intro u w9 X hE hX hd K hK
      have d9 : u 56 = .bool true := hd 9 (by kernel_rfl)
      clear hd
      simp only [overlay, List.setIfInBounds_toArray, List.set, d9] at hK ⊢
      go_wp2_with fail
      exact hK _ _ X (Ext.refl _) kept_m hX rfl
    · refine ⟨_, 58, rfl, by kernel_rfl, ?_⟩
      intro u w9 X hE hX hd K hK
      have d10 : u 57 = .bool true := hd 10 (by kernel_rfl)
      clear hd
      simp only [overlay, List.setIfInBounds_toArray, List.set, d10] at hK ⊢
      go_wp2_with fail
      exact hK _ _ X (Ext.refl _) kept_m hX rfl
    · refine ⟨_, 59, rfl, by kernel_rfl, ?_⟩
      intro u w9 X hE hX hd K hK
      have d11 : u 58 = .int .i64 0 := hd 11 (by kernel_rfl)
      have d10 : u 57 = .bool true := hd 10 (by kernel_rfl)
      clear hd
      simp only [overlay, List.setIfInBounds_toArray, List.set, d11, d10] at hK ⊢
      go_wp2_with fail
      exact hK _ _ X (Ext.refl _) kept_m hX rfl
    · refine ⟨_, 60, rfl, by kernel_rfl, ?_⟩
      intro u w9 X hE hX hd K hK
      have d10 : u 57 = .bool true := hd 10 (by kernel_rfl)
      have d12 : u 59 = .bool true := hd 12 (by kernel_rfl)
      clear hd
      simp only [overlay, List.setIfInBounds_toArray, List.set, d10, d12] at hK ⊢
      go_wp2_with fail
      exact hK _ _ X (Ext.refl _) kept_m hX rfl
    · refine ⟨_, 61, rfl, by kernel_rfl, ?_⟩
      intro u w9 X hE hX hd K hK
      have d13 : u 60 = .bool true := hd 13 (by kernel_rfl)
      clear hd
      simp only [overlay, List.setIfInBounds_toArray, List.set, d13] at hK ⊢
      go_wp2_with fail
      exact hK _ _ X (Ext.refl _) kept_m hX rfl
    · refine ⟨_, 62, rfl, by kernel_rfl, ?_⟩
      intro u w9 X hE hX hd K hK
      have d14 : u 61 = .bool true := hd 14 (by kernel_rfl)
      clear hd
      simp only [overlay, List.setIfInBounds_toArray, List.set, d14] at hK ⊢
      go_wp2_with fail
      exact hK _ _ X (Ext.refl _) kept_m hX rfl
    · refine ⟨_, 63, rfl, by kernel_rfl, ?_⟩
      intro u w9 X hE hX hd K hK
      have d15 : u 62 = .int .i64 17 := hd 15 (by kernel_rfl)
      have d14 : u 61 = .bool true := hd 14 (by kernel_rfl)
      clear hd
      simp only [overlay, List.setIfInBounds_toArray, List.set, d15, d14] at hK ⊢
      go_wp2_with fail
      exact hK _ _ X (Ext.refl _) kept_m hX rfl
    · refine ⟨_, 64, rfl, by kernel_rfl, ?_⟩
      intro u w9 X hE hX hd K hK
      have d14 : u 61 = .bool true := hd 14 (by kernel_rfl)
      have d16 : u 63 = .bool true := hd 16 (by kernel_rfl)
      clear hd
      simp only [overlay, List.setIfInBounds_toArray, List.set, d14, d16] at hK ⊢
      go_wp2_with fail
      exact hK _ _ X (Ext.refl _) kept_m hX rfl
    · refine ⟨_, 65, rfl, by kernel_rfl, ?_⟩
      intro u w9 X hE hX hd K hK
      have d17 : u 64 = .bool true := hd 17 (by kernel_rfl)
      clear hd
      simp only [overlay, List.setIfInBounds_toArray, List.set, d17] at hK ⊢
      go_wp2_with fail
      exact hK _ _ X (Ext.refl _) kept_m hX rfl
    · refine ⟨_, 66, rfl, by kernel_rfl, ?_⟩
      intro u w9 X hE hX hd K hK
      have d18 : u 65 = .bool true := hd 18 (by kernel_rfl)
      clear hd
      simp only [overlay, List.setIfInBounds_toArray, List.set, d18] at hK ⊢
      have e9 : Ext wk35 w9 := (Ext.refl wk35).drew.trans hE
      obtain ⟨s0, s1, s2, s3⟩ := (HBa.out.ext e9).cell
      go_wp2_with fail
      exact hK _ _ X (Ext.refl _) kept_m hX rfl
    · refine ⟨_, 67, rfl, by kernel_rfl, ?_⟩
      intro u w9 X hE hX hd K hK
      have d18 : u 65 = .bool true := hd 18 (by kernel_rfl)
      clear hd
      simp only [overlay, List.setIfInBounds_toArray, List.set, d18] at hK ⊢
      go_wp2_with fail
      exact hK _ _ X ((Ext.refl _).alloc _) kept_m (hX.ext ((Ext.refl _).alloc _)) (rdix_lit w9 [1, 1, 1] (by decide) (by decide) hX.hi)
    · refine ⟨_, 68, rfl, by kernel_rfl, ?_⟩
      intro u w9 X hE hX hd K hK
      have d20 : RdIX X w9 [1, 1, 1] (u 67) := hd 20 (by kernel_rfl)
      have d18 : u 65 = .bool true := hd 18 (by kernel_rfl)
      clear hd
      simp only [overlay, List.setIfInBounds_toArray, List.set, d18] at hK ⊢
      have e9 : Ext wk35 w9 := (Ext.refl wk35).drew.trans hE
      go_wp2_with fail
      refine (vec_rd d20 hX.hi).mono ?_
      rintro e w8 ⟨x8, rfl, hx8, hE8⟩
      go_wp2_with fail
      exact hK _ _ X hE8 kept_m (hX.ext hE8) hx8
    · refine ⟨_, 69, rfl, by kernel_rfl, ?_⟩
      intro u w9 X hE hX hd K hK
      have d19 : u 66 = .agg #[(.int .i64 kx5), (.slice pax5 lax5 max5), (.slice pbx5 lbx5 mbx5), (.slice pcx5 lcx5 mcx5)] := hd 19 (by kernel_rfl)
      have d21 : RdX X w9 (vecV [1, 1, 1]) (u 68) := hd 21 (by kernel_rfl)
      have d18 : u 65 = .bool true := hd 18 (by kernel_rfl)
      clear hd
      simp only [overlay, List.setIfInBounds_toArray, List.set, d19, d18] at hK ⊢
      have e9 : Ext wk35 w9 := (Ext.refl wk35).drew.trans hE
      go_wp2_with fail
      refine (same_true ((RdX.old HAa.out e9 hX.lo)).rd (d21).rd rfl rfl).mono ?_
      rintro e w8 ⟨rfl, hE8⟩
      go_wp2_with fail
      exact hK _ _ X hE8 kept_m (hX.ext hE8) rfl
    · refine ⟨_, 70, rfl, by kernel_rfl, ?_⟩
      intro u w9 X hE hX hd K hK
      have d18 : u 65 = .bool true := hd 18 (by kernel_rfl)
      have d22 : u 69 = .bool true := hd 22 (by kernel_rfl)
      clear hd
      simp only [overlay, List.setIfInBounds_toArray, List.set, d18, d22] at hK ⊢
      go_wp2_with fail
      exact hK _ _ X (Ext.refl _) kept_m hX rfl
    · refine ⟨_, 71, rfl, by kernel_rfl, ?_⟩
      intro u w9 X hE hX hd K hK
      have d23 : u 70 = .bool true := hd 23 (by kernel_rfl)
      clear hd
      simp only [overlay, List.setIfInBounds_toArray, List.set, d23] at hK ⊢
      go_wp2_with fail
      exact hK _ _ X (Ext.refl _) kept_m hX rfl
    · refine ⟨_, 72, rfl, by kernel_rfl, ?_⟩
      intro u w9 X hE hX hd K hK
      have d24 : u 71 = .bool true := hd 24 (by kernel_rfl)
      clear hd
      simp only [overlay, List.setIfInBounds_toArray, List.set, d24] at hK ⊢
      have e9 : Ext wk35 w9 := (Ext.refl wk35).drew.trans hE
      obtain ⟨s0, s1, s2, s3⟩ := (HBb.out.ext e9).cell
      go_wp2_with fail
      exact hK _ _ X (Ext.refl _) kept_m hX rfl
    · refine ⟨_, 73, rfl, by kernel_rfl, ?_⟩
      intro u w9 X hE hX hd K hK
      have d24 : u 71 = .bool true := hd 24 (by kernel_rfl)
      clear hd
      simp only [overlay, List.setIfInBounds_toArray, List.set, d24] at hK ⊢
      have e9 : Ext wk35 w9 := (Ext.refl wk35).drew.trans hE
      go_wp2_with fail
      refine (num_rd (by decide) hX.hi).mono ?_
      rintro e w8 ⟨x8, rfl, hx8, hE8⟩
      go_wp2_with fail
      exact hK _ _ X hE8 kept_m (hX.ext hE8) hx8
    · refine ⟨_, 74, rfl, by kernel_rfl, ?_⟩
      intro u w9 X hE hX hd K hK
      have d25 : u 72 = .agg #[(.int .i64 kx12), (.slice pax12 lax12 max12), (.slice pbx12 lbx12 mbx12), (.slice pcx12 lcx12 mcx12)] := hd 25 (by kernel_rfl)
      have d26 : RdX X w9 (numV 3661) (u 73) := hd 26 (by kernel_rfl)
      have d24 : u 71 = .bool true := hd 24 (by kernel_rfl)
      clear hd
      simp only [overlay, List.setIfInBounds_toArray, List.set, d25, d24] at hK ⊢
      have e9 : Ext wk35 w9 := (Ext.refl wk35).drew.trans hE
      go_wp2_with fail
      refine (same_true ((RdX.old HAb.out e9 hX.lo)).rd (d26).rd rfl rfl).mono ?_
      rintro e w8 ⟨rfl, hE8⟩
      go_wp2_with fail
      exact hK _ _ X hE8 kept_m (hX.ext hE8) rfl
    · refine ⟨_, 75, rfl, by kernel_rfl, ?_⟩
      intro u w9 X hE hX hd K hK
      have d24 : u 71 = .bool true := hd 24 (by kernel_rfl)
      have d27 : u 74 = .bool true := hd 27 (by kernel_rfl)
      clear hd
      simp only [overlay, List.setIfInBounds_toArray, List.set, d24, d27] at hK ⊢
      go_wp2_with fail
      exact hK _ _ X (Ext.refl _) kept_m hX rfl
    · refine ⟨_, 76, rfl, by kernel_rfl, ?_⟩
      intro u w9 X hE hX hd K hK
      have d28 : u 75 = .bool true := hd 28 (by kernel_rfl)
      clear hd
      simp only [overlay, List.setIfInBounds_toArray, List.set, d28] at hK ⊢
      go_wp2_with fail
      exact hK _ _ X (Ext.refl _) kept_m hX rfl
    · refine ⟨_, 77, rfl, by kernel_rfl, ?_⟩
      intro u w9 X hE hX hd K hK
      have d29 : u 76 = .bool true := hd 29 (by kernel_rfl)
      clear hd
      simp only [overlay, List.setIfInBounds_toArray, List.set, d29] at hK ⊢
      have e9 : Ext wk35 w9 := (Ext.refl wk35).drew.trans hE
      obtain ⟨s0, s1, s2, s3⟩ := (HBc.out.ext e9).cell
      go_wp2_with fail
      exact hK _ _ X (Ext.refl _) kept_m hX rfl
    · refine ⟨_, 78, rfl, by kernel_rfl, ?_⟩
      intro u w9 X hE hX hd K hK
      have d29 : u 76 = .bool true := hd 29 (by kernel_rfl)
      clear hd
      simp only [overlay, List.setIfInBounds_toArray, List.set, d29] at hK ⊢
      go_wp2_with fail
      exact hK _ _ X ((Ext.refl _).alloc _) kept_m (hX.ext ((Ext.refl _).alloc _)) (rdix_lit w9 [34, 5] (by decide) (by decide) hX.hi)
    · refine ⟨_, 79, rfl, by kernel_rfl, ?_⟩
      intro u w9 X hE hX hd K hK
      have d31 : RdIX X w9 [34, 5] (u 78) := hd 31 (by kernel_rfl)
      have d29 : u 76 = .bool true := hd 29 (by kernel_rfl)
      clear hd
      simp only [overlay, List.setIfInBounds_toArray, List.set, d29] at hK ⊢
      have e9 : Ext wk35 w9 := (Ext.refl wk35).drew.trans hE
      go_wp2_with fail
      refine (vec_rd d31 hX.hi).mono ?_
      rintro e w8 ⟨x8, rfl, hx8, hE8⟩
      go_wp2_with fail
      exact hK _ _ X hE8 kept_m (hX.ext hE8) hx8
    · refine ⟨_, 80, rfl, by kernel_rfl, ?_⟩
      intro u w9 X hE hX hd K hK
      have d30 : u 77 = .agg #[(.int .i64 kx19), (.slice pax19 lax19 max19), (.slice pbx19 lbx19 mbx19), (.slice pcx19 lcx19 mcx19)] := hd 30 (by kernel_rfl)
      have d32 : RdX X w9 (vecV [34, 5]) (u 79) := hd 32 (by kernel_rfl)
      have d29 : u 76 = .bool true := hd 29 (by kernel_rfl)
      clear hd
      simp only [overlay, List.setIfInBounds_toArray, List.set, d30, d29] at hK ⊢
      have e9 : Ext wk35 w9 := (Ext.refl wk35).drew.trans hE
      go_wp2_with fail
      refine (same_true ((RdX.old HAc.out e9 hX.lo)).rd (d32).rd rfl rfl).mono ?_
      rintro e w8 ⟨rfl, hE8⟩
      go_wp2_with fail
      exact hK _ _ X hE8 kept_m (hX.ext hE8) rfl
    · refine ⟨_, 81, rfl, by kernel_rfl, ?_⟩
      intro u w9 X hE hX hd K hK
      have d29 : u 76 = .bool true := hd 29 (by kernel_rfl)
      have d33 : u 80 = .bool true := hd 33 (by kernel_rfl)
      clear hd
      simp only [overlay, List.setIfInBounds_toArray, List.set, d29, d33] at hK ⊢
      go_wp2_with fail
      exact hK _ _ X (Ext.refl _) kept_m hX rfl
    · refine ⟨_, 82, rfl, by kernel_rfl, ?_⟩
      intro u w9 X hE hX hd K hK
      have d34 : u 81 = .bool true := hd 34 (by kernel_rfl)
      clear hd
      simp only [overlay, List.setIfInBounds_toArray, List.set, d34] at hK ⊢
      go_wp2_with fail
      exact hK _ _ X (Ext.refl _) kept_m hX rfl
    · refine ⟨_, 83, rfl, by kernel_rfl, ?_⟩
      intro u w9 X hE hX hd K hK
      have d35 : u 82 = .bool true := hd 35 (by kernel_rfl)
      clear hd
      simp only [overlay, List.setIfInBounds_toArray, List.set, d35] at hK ⊢
      have e9 : Ext wk35 w9 := (Ext.refl wk35).drew.trans hE
      obtain ⟨s0, s1, s2, s3⟩ := (HBd.out.ext e9).cell
      go_wp2_with fail
      exact hK _ _ X (Ext.refl _) kept_m hX rfl
    · refine ⟨_, 84, rfl, by kernel_rfl, ?_⟩
      intro u w9 X hE hX hd K hK
      have d35 : u 82 = .bool true := hd 35 (by kernel_rfl)
      clear hd
      simp only [overlay, List.setIfInBounds_toArray, List.set, d35] at hK ⊢
      have e9 : Ext wk35 w9 := (Ext.refl wk35).drew.trans hE
      go_wp2_with fail
      refine (num_rd (by decide) hX.hi).mono ?_
      rintro e w8 ⟨x8, rfl, hx8, hE8⟩
      go_wp2_with fail
      exact hK _ _ X hE8 kept_m (hX.ext hE8) hx8
    · refine ⟨_, 85, rfl, by kernel_rfl, ?_⟩
      intro u w9 X hE hX hd K hK
      have d36 : u 83 = .agg #[(.int .i64 kx26), (.slice pax26 lax26 max26), (.slice pbx26 lbx26 mbx26), (.slice pcx26 lcx26 mcx26)] := hd 36 (by kernel_rfl)
      have d37 : RdX X w9 (numV 5) (u 84) := hd 37 (by kernel_rfl)
      have d35 : u 82 = .bool true := hd 35 (by kernel_rfl)
      clear hd
      simp only [overlay, List.setIfInBounds_toArray, List.set, d36, d35] at hK ⊢
      have e9 : Ext wk35 w9 := (Ext.refl wk35).drew.trans hE
      go_wp2_with fail
      refine (same_true ((RdX.old HAd.out e9 hX.lo)).rd (d37).rd rfl rfl).mono ?_
      rintro e w8 ⟨rfl, hE8⟩
      go_wp2_with fail
      exact hK _ _ X hE8 kept_m (hX.ext hE8) rfl
    · refine ⟨_, 86, rfl, by kernel_rfl, ?_⟩
      intro u w9 X hE hX hd K hK
      have d35 : u 82 = .bool true := hd 35 (by kernel_rfl)
      have d38 : u 85 = .bool true := hd 38 (by kernel_rfl)
      clear hd
      simp only [overlay, List.setIfInBounds_toArray, List.set, d35, d38] at hK ⊢
      go_wp2_with fail
      exact hK _ _ X (Ext.refl _) kept_m hX rfl
    · refine ⟨_, 0, rfl, by kernel_rfl, ?_⟩
      intro u w9 X hE hX hd K hK
      have d39 : u 86 = .bool true := hd 39 (by kernel_rfl)
      clear hd
      simp only [overlay, List.setIfInBounds_toArray, List.set, d39] at hK ⊢
      go_wp2_with fail
      exact hK _ _ X (Ext.refl _) kept_m hX rfl
  · exact mem_nil_m
  intro u w9 X hE hX hd
  have d0 : u 47 = .int .i64 0 := hd 0 (by decide)
  have d1 : u 48 = .bool true := hd 1 (by decide)
  have d2 : u 49 = .bool true := hd 2 (by decide)
  have d3 : u 50 = .int .i64 0 := hd 3 (by decide)
  have d4 : u 51 = .bool true := hd 4 (by decide)
  have d5 : u 52 = .bool true := hd 5 (by decide)
  have d6 : u 53 = .bool true := hd 6 (by decide)
  have d7 : u 54 = .int .i64 0 := hd 7 (by decide)
  have d8 : u 55 = .bool true := hd 8 (by decide)
  have d9 : u 56 = .bool true := hd 9 (by decide)
  have d10 : u 57 = .bool true := hd 10 (by decide)
  have d11 : u 58 = .int .i64 0 := hd 11 (by decide)
  have d12 : u 59 = .bool true := hd 12 (by decide)
  have d13 : u 60 = .bool true := hd 13 (by decide)
  have d14 : u 61 = .bool true := hd 14 (by decide)
  have d15 : u 62 = .int .i64 17 := hd 15 (by decide)
  have d16 : u 63 = .bool true := hd 16 (by decide)
  have d17 : u 64 = .bool true := hd 17 (by decide)
  have d18 : u 65 = .bool true := hd 18 (by decide)
  have d19 : u 66 = .agg #[(.int .i64 kx5), (.slice pax5 lax5 max5), (.slice pbx5 lbx5 mbx5), (.slice pcx5 lcx5 mcx5)] := hd 19 (by decide)
  have d20 : RdIX X w9 [1, 1, 1] (u 67) := hd 20 (by decide)
  have d21 : RdX X w9 (vecV [1, 1, 1]) (u 68) := hd 21 (by decide)
  have d22 : u 69 = .bool true := hd 22 (by decide)
  have d23 : u 70 = .bool true := hd 23 (by decide)
  have d24 : u 71 = .bool true := hd 24 (by decide)
  have d25 : u 72 = .agg #[(.int .i64 kx12), (.slice pax12 lax12 max12), (.slice pbx12 lbx12 mbx12), (.slice pcx12 lcx12 mcx12)] := hd 25 (by decide)
  have d26 : RdX X w9 (numV 3661) (u 73) := hd 26 (by decide)
  have d27 : u 74 = .bool true := hd 27 (by decide)
  have d28 : u 75 = .bool true := hd 28 (by decide)
  have d29 : u 76 = .bool true := hd 29 (by decide)
  have d30 : u 77 = .agg #[(.int .i64 kx19), (.slice pax19 lax19 max19), (.slice pbx19 lbx19 mbx19), (.slice pcx19 lcx19 mcx19)] := hd 30 (by decide)
  have d31 : RdIX X w9 [34, 5] (u 78) := hd 31 (by decide)
  have d32 : RdX X w9 (vecV [34, 5]) (u 79) := hd 32 (by decide)
  have d33 : u 80 = .bool true := hd 33 (by decide)
  have d34 : u 81 = .bool true := hd 34 (by decide)
  have d35 : u 82 = .bool true := hd 35 (by decide)
  have d36 : u 83 = .agg #[(.int .i64 kx26), (.slice pax26 lax26 max26), (.slice pbx26 lbx26 mbx26), (.slice pcx26 lcx26 mcx26)] := hd 36 (by decide)
  have d37 : RdX X w9 (numV 5) (u 84) := hd 37 (by decide)
  have d38 : u 85 = .bool true := hd 38 (by decide)
  have d39 : u 86 = .bool true := hd 39 (by decide)
  have d40 : u 0 = .bool true := hd 40 (by decide)
  clear hd
  simp only [overlay, List.setIfInBounds_toArray, List.set, d0, d1, d2, d3, d4, d5, d6, d7, d8, d9, d10, d11, d12, d13, d14, d15, d16, d17, d18, d19, d22, d23, d24, d25, d27, d28, d29, d30, d33, d34, d35, d36, d38, d39, d40]
  have e9 : Ext wk35 w9 := (Ext.refl wk35).drew.trans hE
  clear d0 d1 d2 d3 d4 d5 d6 d7 d8 d9 d10 d11 d12 d13 d14 d15 d16 d17 d18 d19 d20 d21 d22 d23 d24 d25 d26 d27 d28 d29 d30 d31 d32 d33 d34 d35 d36 d37 d38 d39 d40
  clear hX hE
  generalize u 67 = t67z36
  generalize u 68 = t68z36
  generalize u 73 = t73z36
  generalize u 78 = t78z36
  generalize u 79 = t79z36
  generalize u 84 = t84z36
  clear u
  obtain ⟨wk37, rfl⟩ : ∃ wx : World, wx = w9 := ⟨_, rfl⟩
  replace HBa := Lib.hid (HBa.out.ext e9)
  replace HAa := Lib.hid (HAa.out.ext e9)
  replace HBb := Lib.hid (HBb.out.ext e9)
  replace HAb := Lib.hid (HAb.out.ext e9)
  replace HBc := Lib.hid (HBc.out.ext e9)
  replace HAc := Lib.hid (HAc.out.ext e9)
  replace HBd := Lib.hid (HBd.out.ext e9)
  replace HAd := Lib.hid (HAd.out.ext e9)
  replace HBk := Lib.hid (HBk.out.ext e9)
  replace HAk := Lib.hid (HAk.out.ext e9)
  replace HE := Lib.hid (HE.out.trans (e9))
  clear e9
  go_wp2_with fail
  go_ret
  exact ⟨rfl, HE.out⟩
end Go.Proofs.Ytmpjnjhiklaofaa
