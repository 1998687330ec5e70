/-
  THE WALK of law27.RadixBack: it returns true, and turns nothing that was there. (Printed by gen_radback.py.)
-/
import Derived.Test.YtmpjnjhiklaofaaRadCol
import Derived.Test.YtmpjnjhiklaofaaArgW
namespace Go.Proofs.Ytmpjnjhiklaofaa
set_option linter.unusedSimpArgs false
set_option linter.unusedVariables false
open Go.RowKit

theorem prodL_snoc : ∀ (l : List Int) (r : Int), prodL (l ++ [r]) = prodL l * r
  | [], r => by simp [prodL]
  | a :: l, r => by rw [List.cons_append, prodL, prodL, prodL_snoc l r, Int.mul_assoc]

set_option maxRecDepth 100000 in
set_option maxHeartbeats 16000000 in
theorem radback_any (F : Nat → Prop) (p1 : Option Addr) (c1 : Nat) (l : List Int) (n : Int) (w : World) (h1 : WordsAt F w p1 l) (hl1 : l.length ≤ 9223372036854775807) (hnb : -9223372036854775808 ≤ n ∧ n ≤ 9223372036854775807) :
    Calls Try.prog 4 #[.slice p1 l.length c1, .int .i64 n] w fun e w' => e = .returned (.bool true) ∧ Ext w w' := by
  have HL := Lib.hid h1
  clear h1
  go_enter Try.func4, Try.ntmps4
  by_cases hc1 : 20 < l.length
  · have hc1' : (20 : Int) < (l.length : Int) := by omega
    go_wp2_with fail
    refine (radawake_any _).mono ?_
    rintro e wl ⟨rfl, hEl⟩
    go_wp2_with fail
    go_ret
    exact ⟨rfl, (Ext.refl w).trans hEl⟩
  have hc1' : ¬ (20 : Int) < (l.length : Int) := by omega
  go_wp2_with fail
  refine (rfits_any n w).mono ?_
  rintro e w' ⟨rfl, rfl⟩
  cases hfn : isNum n with
  | false =>
    clear hfn
    go_wp2_with fail
    refine (radawake_any _).mono ?_
    rintro e wl ⟨rfl, hEl⟩
    go_wp2_with fail
    go_ret
    exact ⟨rfl, (Ext.refl w).trans hEl⟩
  | true =>
  have HN := Lib.hid (NumB.of hfn)
  clear hfn
  obtain ⟨R, hR⟩ : ∃ R : List Int, R = l.map (fun d => 1 + d) := ⟨_, rfl⟩
  have hRl : R.length = l.length := by rw [hR]; simp
  have hRg : ∀ k, k < l.length → R.getD k 0 = 1 + l.getD k 0 := fun k hk => by rw [hR]; simp [List.getD, hk]
  have HRL := Lib.hid hRl
  have HRG := Lib.hid hRg
  clear hR hRl hRg
  have hrow0 : RowI (w.alloc (.cells #[] 3)) w.heap.size [] := rowI_new' w []
  have hE0 : Ext w (w.alloc (.cells #[] 3)) := (Ext.refl _).alloc _
  have HO0 := Lib.hid (OwnI.of_row (B := w.heap.size) (X := fun _ => False) (n := 0) (xs := []) hrow0 rfl (by omega) (Nat.le_refl _) (fun h => h) (by simp))
  clear hrow0
  go_wp2_with fail
  generalize w.alloc (.cells #[] 3) = w1 at hE0 HO0 ⊢
  have HE0 := Lib.hid hE0
  have HP0 := Lib.hid (show (1 : Int) = prodL (R.take 0) ∧ (1 : Int) ≤ 1 ∧ (1 : Int) ≤ 4611686018427387903 from ⟨by simp [prodL], by decide, by decide⟩)
  clear hE0
  go_loopw [5, 6, 7] (fun rv pv iv wr => ∃ (k : Nat) (v : Value) (P : Int), k ≤ l.length ∧ v = rv ∧ pv = .int .i64 P ∧ iv = .int .i64 k ∧ OwnI w.heap.size (fun _ => False) wr v k (R.take k) ∧ Ext w wr ∧ Hid (P = prodL (R.take k) ∧ 1 ≤ P ∧ P ≤ 4611686018427387903)) (fun _ _ iv _ => l.length - (intOf iv).toNat)
  case atStart => exact ⟨0, _, 1, Nat.zero_le _, rfl, rfl, rfl, HO0.out, HE0.out, HP0⟩
  case round =>
  obtain ⟨k, v, P, hk, rfl, rfl, rfl, hO, hE, HP⟩ := hrel
  clear HO0 HE0 HP0
  obtain ⟨pv, cv, rfl, hcv⟩ := hO.form
  by_cases hlt : k < l.length
  · obtain ⟨b1, off1, rfl, _, a1, a2, a3⟩ := HL.out k hlt
    have a1 := hE.cell a1
    have hts : R.take (k + 1) = R.take k ++ [1 + l.getD k 0] := by
      rw [List.take_add_one, ← HRG.out k hlt]; simp [List.getD, show k < R.length by rw [HRL.out]; exact hlt]
    generalize l.getD k 0 = d at *
    have hps : prodL (R.take (k + 1)) = P * (1 + d) := by rw [hts, prodL_snoc, HP.out.1]
    obtain ⟨r, hr⟩ : ∃ r, r = 1 + d := ⟨_, rfl⟩
    rw [← hr] at hts hps
    have hr' : 1 + d = r := hr.symm
    have hrb : 1 ≤ r ∧ r ≤ 65536 := by omega
    have hwr : IntKind.i64.wrap (1 + d) = r := by rw [hr']; exact IntWalk.i64_in _ (by omega)
    have HTS := Lib.hid hts
    have HPS := Lib.hid hps
    have HO := Lib.hid hO
    have HE := Lib.hid hE
    clear hts hps hr hO hE
    go_wp2_with fail
    refine (rmul_any P r wr ⟨by have := HP.out.2; omega, HP.out.2.2⟩ ⟨by omega, by omega⟩).mono ?_
    rintro e w' ⟨rfl, rfl⟩
    cases hf : isNum (P * r) with
    | false =>
      have HF := Lib.hid (show fitV (P * r) = (0, 19) by unfold fitV; rw [if_neg (by rw [hf]; simp)])
      rw [HF.out]
      clear hf HF
      go_wp2_with fail
      refine (radawake_any _).mono ?_
      rintro e wl ⟨rfl, hEl⟩
      go_wp2_with fail
      go_ret
      exact ⟨rfl, HE.out.trans hEl⟩
    | true =>
    have HF := Lib.hid (show fitV (P * r) = (P * r, 0) by unfold fitV; rw [if_pos hf])
    rw [HF.out]
    have hqb := NumB.of hf
    have hq1 : 1 ≤ P * r := by
      have h1 := Int.mul_le_mul HP.out.2.1 hrb.1 (by omega) (by have := HP.out.2.1; omega)
      omega
    generalize P * r = Q at *
    have HQ := Lib.hid (show Q = prodL (R.take (k + 1)) ∧ 1 ≤ Q ∧ Q ≤ 4611686018427387903 from ⟨HPS.out.symm, hq1, hqb.2⟩)
    clear hf HF hqb hq1 HPS HP
    have hEn : Ext wr (wr.alloc (.cells #[.int .i64 r] 3)) := (Ext.refl _).alloc _
    have hnc : (wr.alloc (.cells #[.int .i64 r] 3)).cell? ⟨wr.heap.size, 0, none⟩ = some (.int .i64 r) := by simp
    have HON := Lib.hid (HO.out.ext hEn)
    have HEN := Lib.hid (HE.out.trans hEn)
    clear HO HE hEn a1 hwr hr'
    go_wp2_with (at_builtin; refine wpList_append_int rfl _ _ rfl w.heap.size (fun _ => False) (.slice pv k cv) k (R.take k) r rfl HON.out ⟨wr.heap.size, 0, none⟩ 1 rfl hnc (fun _ h => h.elim) (by omega) (by omega) HEN.out.lt ?_)
    intro g cap w8 hon8 hgrow hat8 _ _
    rw [← HTS.out] at hon8
    have hE8 := HEN.out.grown hgrow HEN.out.lt (fun q e => (HON.out.2.2.1.lt q e).1)
    clear HON HEN hgrow hat8 hnc
    go_wp2_with fail
    go_roundw
    case rel => exact ⟨k + 1, _, Q, by omega, rfl, rfl, by go_num, hon8, hE8, HQ⟩
    case measure => simp [intOf]; omega
  have hke : k = l.length := by omega
  subst hke
  rw [← HRL.out, List.take_length] at hO HP
  have hrr : ∀ a ∈ R, 1 ≤ a ∧ a ≤ 65536 := fun a ha => by
    obtain ⟨j, hj, e⟩ := List.mem_iff_getElem.1 ha
    have hj' : j < l.length := by rw [← HRL.out]; exact hj
    obtain ⟨_, _, _, _, _, h3, h4⟩ := HL.out j hj'
    have h5 := HRG.out j hj'
    simp only [List.getD, hj, List.getElem?_eq_getElem, Option.getD_some] at h5
    rw [← e, h5]
    simp only [List.getD] at h3 h4
    omega
  have hR20 : R.length ≤ 20 := by rw [HRL.out]; omega
  have HR1 := Lib.hid (show ∀ a ∈ R, 1 ≤ a from fun a ha => (hrr a ha).1)
  have HRR := Lib.hid (show RadOk R from fun a ha => ⟨by have := (hrr a ha).1; omega, by have := (hrr a ha).2; omega⟩)
  have HR0 := Lib.hid (show RadOk (0 :: R) from fun a ha => by
    rcases List.mem_cons.1 ha with rfl | ha
    · omega
    · exact HRR.out a ha)
  rw [← HRL.out] at hlt ⊢
  have HPP := Lib.hid HP.out.1
  have hP1 := HP.out.2.1
  have hP2 := HP.out.2.2
  obtain ⟨p5, c5, he5, ⟨m1, m2, m3⟩, hi5⟩ := hO.ints
  cases he5
  have HI5 := Lib.hid hi5
  have HE := Lib.hid hE
  clear hrr hi5 hE hO hk hcv HL HRG HP
  obtain ⟨wA, rfl⟩ : ∃ wx : World, wx = wr := ⟨_, rfl⟩
  have HENC := Lib.hid (enc_num (l := R) (n := n) (by omega) HRR.out HN.out)
  have HDEC := Lib.hid (dec_enc (l := R) (n := n) (by omega) HR1.out HRR.out (by rw [← HPP.out]; exact hP2) HN.out)
  have hdlen := dig_len R n
  have HLT := Lib.hid (dig_lt R n HR1.out)
  generalize (dig R n).1 = dg at *
  have HDL := Lib.hid hdlen
  clear hdlen
  go_wp2_with fail
  refine (vec_rd (X := fun _ => False) (RdIX.old HI5.out ⟨m1, m2, m3⟩ (Ext.refl wA) (fun _ h => False.elim h)) (fun _ h => False.elim h)).mono ?_
  rintro e wf2 ⟨x1, rfl, hx1, hEx1⟩
  go_wp2_with fail
  refine (num_rd hnb (fun _ h => False.elim h)).mono ?_
  rintro e wf4 ⟨x3, rfl, hx3, hEx3⟩
  replace hx1 := hx1.mono0 hEx3
  go_wp2_with fail
  refine (enc_at HENC.out hx1 hx3 (fun _ h => False.elim h)).mono ?_
  rintro e wf6 ⟨x5, rfl, hx5, hEx5⟩
  obtain ⟨c0, c1, c2, c3, rfl, hA9⟩ := hx5
  obtain ⟨kx5, pax5, lax5, max5, pbx5, lbx5, mbx5, pcx5, lcx5, mcx5, rfl, rfl, rfl, rfl⟩ := hA9.form
  have hEn := ((((Ext.refl wA).trans hEx1).trans hEx3).trans hEx5).alloc (.cells #[(.int .i64 kx5), (.slice pax5 lax5 max5), (.slice pbx5 lbx5 mbx5), (.slice pcx5 lcx5 mcx5)] 26)
  have hBn := box_new wf6 (.int .i64 kx5) (.slice pax5 lax5 max5) (.slice pbx5 lbx5 mbx5) (.slice pcx5 lcx5 mcx5)
  have hAn := hA9.ext ((Ext.refl _).alloc (.cells #[(.int .i64 kx5), (.slice pax5 lax5 max5), (.slice pbx5 lbx5 mbx5), (.slice pcx5 lcx5 mcx5)] 26))
  clear hA9 hEx5 hEx1 hEx3 hx1 hx3
  have HF := Lib.hid (And.intro hEn (And.intro hBn hAn))
  clear hEn hBn hAn
  go_upto_region 14 with (fail)
  obtain ⟨hEn, hBn, hAn⟩ := HF.out
  clear HF
  generalize hbz : wf6.heap.size = bx5 at *
  clear hbz
  generalize wf6.alloc (.cells #[(.int .i64 kx5), (.slice pax5 lax5 max5), (.slice pbx5 lbx5 mbx5), (.slice pcx5 lcx5 mcx5)] 26) = wk7 at *
  replace HI5 := Lib.hid (HI5.out.ext hEn)
  replace HE := Lib.hid (HE.out.trans (hEn))
  have HBa := Lib.hid hBn
  have HAa := Lib.hid hAn
  clear hEn hBn hAn
  obtain ⟨q1, n1, q2, n2, e1, ⟨z1, z1', z1''⟩, i1, e2, ⟨z2, z2', z2''⟩, i2⟩ := HAa.out.plain
  simp only [Value.slice.injEq] at e1 e2
  obtain ⟨rfl, hlb1, rfl⟩ := e1
  obtain ⟨rfl, hlb, rfl⟩ := e2
  have hlb1' : lax5 = 1 := by rw [hlb1]; rfl
  subst hlb1'
  rw [HDL.out] at hlb
  subst hlb
  have hI2 := Lib.hid i2
  have hI1 := Lib.hid i1
  have hrow2 : IntsAt (fun x => x = wk7.heap.size) (wk7.alloc (.cells #[.int .i64 (R.length : Int)] 3)) (some ⟨wk7.heap.size, 0, none⟩) [(R.length : Int)] := (rowI_new wk7 [(R.length : Int)]).ints (fun a ha => by
    simp only [List.mem_cons, List.not_mem_nil, or_false] at ha
    subst ha; omega)
  have hic : Calls Try.prog 26 #[.slice pax5 1 max5, .slice (some ⟨wk7.heap.size, 0, none⟩) 1 1] (wk7.alloc (.cells #[.int .i64 (R.length : Int)] 3)) fun e w' => e = .returned (.bool true) ∧ Ext (wk7.alloc (.cells #[.int .i64 (R.length : Int)] 3)) w' := by
    have hI1' := hI1.out
    rw [HDL.out] at hI1'
    have h := ints_any _ _ pax5 (some ⟨wk7.heap.size, 0, none⟩) max5 1 [(R.length : Int)] [(R.length : Int)] (wk7.alloc (.cells #[.int .i64 (R.length : Int)] 3)) (hI1'.ext ((Ext.refl wk7).alloc _)) hrow2 (by unfold lenMax; simp) (by unfold lenMax; simp)
    rw [beq_self_eq_true] at h
    exact h
  have HIC := Lib.hid hic
  clear hic hrow2 i1 i2 hlb1 hI1
  obtain ⟨s0, s1, s2, s3⟩ := HBa.out.cell
  go_wp2_with fail
  refine HIC.out.mono ?_
  rintro e wI ⟨rfl, hEI⟩
  have hEJ : Ext wk7 wI := ((Ext.refl wk7).alloc (.cells #[.int .i64 (R.length : Int)] 3)).trans hEI
  replace s2 := hEJ.cell s2
  clear s0 s1 s3 hEI HIC
  go_wp2_with fail
  clear s2
  replace HE := Lib.hid (HE.out.trans hEJ)
  replace HI5 := Lib.hid (HI5.out.ext hEJ)
  replace HBa := Lib.hid (HBa.out.ext hEJ)
  replace HAa := Lib.hid (HAa.out.ext hEJ)
  replace hI2 := Lib.hid (hI2.out.ext hEJ)
  clear hEJ
  go_loopw [13] (fun iv wr => ∃ i : Nat, i ≤ R.length ∧ iv = .int .i64 i ∧ Ext wI wr) (fun iv _ => R.length - (intOf iv).toNat)
  case atStart => exact ⟨0, Nat.zero_le _, rfl, Ext.refl _⟩
  case round =>
  obtain ⟨i, hi, rfl, hEr⟩ := hrel
  have HEr := Lib.hid hEr
  clear hEr
  by_cases hil : i < R.length
  · have hlt2 := HLT.out i hil
    obtain ⟨ba, oa, rfl, ha, _, _⟩ := (hI2.out.ext HEr.out).get (show i < dg.length by rw [HDL.out]; exact hil)
    obtain ⟨bb, ob, rfl, hb, _, _⟩ := (HI5.out.ext HEr.out).get hil
    generalize dg.getD i 0 = z at *
    generalize R.getD i 0 = r at *
    have hz1 : decide (z < 0) = false := by simpa using hlt2.1
    have hz2 : decide (r ≤ z) = false := by simpa using hlt2.2
    obtain ⟨s0, s1, s2, s3⟩ := (HBa.out.ext HEr.out).cell
    clear hlt2
    go_wp2_with fail
    go_quiet (fail)
    have hEn : Ext wI (wr.drewN nq) := HEr.out.trans ((Ext.refl wr).drewN nq)
    clear hz1 hz2 s0 s1 s2 s3 ha hb HEr
    go_wp2_with fail
    go_roundw
    case rel => exact ⟨i + 1, by omega, by go_num, hEn⟩
    case measure => simp [intOf]; omega
  have hie : i = R.length := by omega
  subst hie
  replace HE := Lib.hid (HE.out.trans HEr.out)
  replace HI5 := Lib.hid (HI5.out.ext HEr.out)
  replace HBa := Lib.hid (HBa.out.ext HEr.out)
  replace HAa := Lib.hid (HAa.out.ext HEr.out)
  clear HEr hI2 hi hil
  obtain ⟨wo, rfl⟩ : ∃ wx : World, wx = wr := ⟨_, rfl⟩
  go_wp2_with fail
  refine wp_region_y2 [MProp.rdi (R), MProp.rd (vecV R), MProp.is (.agg #[(.int .i64 kx5), (.slice pax5 1 max5), (.slice pbx5 R.length mbx5), (.slice pcx5 lcx5 mcx5)]), MProp.rd2 (numV (n % prodL R)) 0, MProp.rd2 (numV (n % prodL R)) 0, MProp.rd (numV (n % prodL R)), MProp.is (.int .i64 0), MProp.box] [0, 1, 2, 3, 4, 5, 6, 7] [6] [111, 112, 113, 114, 110, 115, 116, 14] 8 9 (by kernel_rfl) (by kernel_rfl) (by kernel_rfl) rfl rfl ?_ ?_ ?_
  · refine mem_cons_m ?_ (mem_cons_m ?_ (mem_cons_m ?_ (mem_cons_m ?_ (mem_cons_m ?_ (mem_cons_m ?_ (mem_cons_m ?_ (mem_cons_m ?_ (mem_nil_m))))))))
    · refine ⟨_, 111, rfl, by kernel_rfl, ?_⟩
      intro u w9 X hE hX hd K hK
      clear hd
      simp only [overlay, List.setIfInBounds_toArray, List.set] at hK ⊢
      have e9 : Ext wo w9 := (Ext.refl wo).drew.trans hE
      go_wp2_with fail
      exact hK _ _ X (Ext.refl _) kept_m hX (RdIX.old HI5.out ⟨m1, m2, m3⟩ e9 hX.lo)
    · refine ⟨_, 112, rfl, by kernel_rfl, ?_⟩
      intro u w9 X hE hX hd K hK
      have d0 : RdIX X w9 (R) (u 111) := hd 0 (by kernel_rfl)
      clear hd
      simp only [overlay, List.setIfInBounds_toArray, List.set] at hK ⊢
      have e9 : Ext wo w9 := (Ext.refl wo).drew.trans hE
      go_wp2_with fail
      refine (vec_rd d0 hX.hi).mono ?_
      rintro e w8 ⟨x8, rfl, hx8, hE8⟩
      go_wp2_with fail
      exact hK _ _ X hE8 kept_m (hX.ext hE8) hx8
    · refine ⟨_, 113, rfl, by kernel_rfl, ?_⟩
      intro u w9 X hE hX hd K hK
      clear hd
      simp only [overlay, List.setIfInBounds_toArray, List.set] at hK ⊢
      have e9 : Ext wo w9 := (Ext.refl wo).drew.trans hE
      obtain ⟨s0, s1, s2, s3⟩ := (HBa.out.ext e9).cell
      go_wp2_with fail
      exact hK _ _ X (Ext.refl _) kept_m hX rfl
    · refine ⟨_, 114, rfl, by kernel_rfl, ?_⟩
      intro u w9 X hE hX hd K hK
      have d1 : RdX X w9 (vecV R) (u 112) := hd 1 (by kernel_rfl)
      have d2 : u 113 = .agg #[(.int .i64 kx5), (.slice pax5 1 max5), (.slice pbx5 R.length mbx5), (.slice pcx5 lcx5 mcx5)] := hd 2 (by kernel_rfl)
      clear hd
      simp only [overlay, List.setIfInBounds_toArray, List.set, d2] at hK ⊢
      have e9 : Ext wo w9 := (Ext.refl wo).drew.trans hE
      go_wp2_with fail
      refine (dec_at HDEC.out d1 (RdX.old HAa.out e9 hX.lo) hX.hi).mono ?_
      rintro e w8 ⟨x8, rfl, hx8, hE8⟩
      go_wp2_with fail
      exact hK _ _ X hE8 kept_m (hX.ext hE8) ⟨x8, rfl, hx8⟩
    · refine ⟨_, 110, rfl, by kernel_rfl, ?_⟩
      intro u w9 X hE hX hd K hK
      have d3 : ∃ x, u 114 = .tuple #[x, .int .i64 0] ∧ RdX X w9 (numV (n % prodL R)) x := hd 3 (by kernel_rfl)
      clear hd
      simp only [overlay, List.setIfInBounds_toArray, List.set] at hK ⊢
      obtain ⟨x8, hv8, hx8⟩ := d3
      simp only [hv8] at hK ⊢
      go_wp2_with fail
      exact hK _ _ X (Ext.refl _) kept_m hX ⟨x8, rfl, hx8⟩
    · refine ⟨_, 115, rfl, by kernel_rfl, ?_⟩
      intro u w9 X hE hX hd K hK
      have d4 : ∃ x, u 110 = .tuple #[x, .int .i64 0] ∧ RdX X w9 (numV (n % prodL R)) x := hd 4 (by kernel_rfl)
      clear hd
      simp only [overlay, List.setIfInBounds_toArray, List.set] at hK ⊢
      obtain ⟨x8, hv8, hx8⟩ := d4
      simp only [hv8] at hK ⊢
      go_wp2_with fail
      exact hK _ _ X (Ext.refl _) kept_m hX hx8
    · refine ⟨_, 116, rfl, by kernel_rfl, ?_⟩
      intro u w9 X hE hX hd K hK
      have d4 : ∃ x, u 110 = .tuple #[x, .int .i64 0] ∧ RdX X w9 (numV (n % prodL R)) x := hd 4 (by kernel_rfl)
      clear hd
      simp only [overlay, List.setIfInBounds_toArray, List.set] at hK ⊢
      obtain ⟨x8, hv8, hx8⟩ := d4
      simp only [hv8] at hK ⊢
      go_wp2_with fail
      exact hK _ _ X (Ext.refl _) kept_m hX rfl
    · refine ⟨_, 14, rfl, by kernel_rfl, ?_⟩
      intro u w9 X hE hX hd K hK
      clear hd
      simp only [overlay, List.setIfInBounds_toArray, List.set] at hK ⊢
      go_wp2_with fail
      exact hK _ _ (fun b => X b ∨ b = w9.heap.size) ((Ext.refl _).alloc _) added_m (hX.add hE _) ⟨_, rfl, box_new _ _ _ _ _, .inr rfl⟩
  · refine mem_cons_m ?_ (mem_nil_m)
    · refine ⟨_, rfl, ?_⟩
      intro u w9 X hd
      have d4 : ∃ x, u 110 = .tuple #[x, .int .i64 0] ∧ RdX X w9 (numV (n % prodL R)) x := hd 4 (by kernel_rfl)
      clear hd
      obtain ⟨x8, hv8, hx8⟩ := d4
      simp only [overlay, List.setIfInBounds_toArray, List.set, hv8]
      exact ⟨.int .i64 0, .inl ⟨by kernel_rfl, fun w8 => by go_simp⟩, rfl⟩
  intro u w9 X hE hX hd
  have d0 : RdIX X w9 (R) (u 111) := hd 0 (by decide)
  have d1 : RdX X w9 (vecV R) (u 112) := hd 1 (by decide)
  have d2 : u 113 = .agg #[(.int .i64 kx5), (.slice pax5 1 max5), (.slice pbx5 R.length mbx5), (.slice pcx5 lcx5 mcx5)] := hd 2 (by decide)
  have d3 : ∃ x, u 114 = .tuple #[x, .int .i64 0] ∧ RdX X w9 (numV (n % prodL R)) x := hd 3 (by decide)
  have d4 : ∃ x, u 110 = .tuple #[x, .int .i64 0] ∧ RdX X w9 (numV (n % prodL R)) x := hd 4 (by decide)
  have d5 : RdX X w9 (numV (n % prodL R)) (u 115) := hd 5 (by decide)
  have d6 : u 116 = .int .i64 0 := hd 6 (by decide)
  have d7 : ∃ b, u 14 = .pointer (some ⟨b, 0, none⟩) ∧ Box4 w9 b (.int .i64 0) (.slice none 0 0) (.slice none 0 0) (.slice none 0 0) ∧ X b := hd 7 (by decide)
  clear hd
  simp only [overlay, List.setIfInBounds_toArray, List.set, d2, d6]
  have e9 : Ext wo w9 := (Ext.refl wo).drew.trans hE
  obtain ⟨boz8, hvb, hbox, hxb⟩ := d7
  obtain ⟨c0, c1, c2, c3, hva, hA9⟩ := d5
  obtain ⟨kz8, paz8, laz8, maz8, pbz8, lbz8, mbz8, pcz8, lcz8, mcz8, rfl, rfl, rfl, rfl⟩ := hA9.form
  have hbo := hX boz8 hxb
  simp only [hvb, hva]
  obtain ⟨s0, s1, s2, s3⟩ := hbox.cell
  have f0 := hbox.free 0
  have f1 := hbox.free 1
  have f2 := hbox.free 2
  have f3 := hbox.free 3
  obtain ⟨gg1, gg2, gg3⟩ := hbox.put4 e9 hbo.1 (.int .i64 kz8) (.slice paz8 laz8 maz8) (.slice pbz8 lbz8 mbz8) (.slice pcz8 lcz8 mcz8)
  have hAn := ArrAt.mono (G := fun _ => True) (fun b hb _ => ⟨trivial, gg3 b (fun e => hb.2 (by rw [e]; exact hxb))⟩) _ _ _ _ _ hA9
  have HGG := Lib.hid (And.intro gg1 (And.intro gg2 hAn))
  clear gg1 gg2 gg3 hAn hA9 hbo hxb hbox
  clear d0 d1 d2 d3 d4 d6
  clear hX hE
  generalize u 111 = t111z8 at *
  generalize u 112 = t112z8 at *
  generalize u 114 = t114z8 at *
  generalize u 110 = t110z8 at *
  clear hvb hva
  clear u
  go_wp2_with fail
  refine OnlyN.mk ?_
  obtain ⟨gg1, gg2, hAn⟩ := HGG.out
  clear HGG s0 s1 s2 s3 f0 f1 f2 f3 e9
  generalize ((((w9.setCell ⟨boz8, 0, none⟩ (.int .i64 kz8)).setCell ⟨boz8, 1, none⟩ (.slice paz8 laz8 maz8)).setCell ⟨boz8, 2, none⟩ (.slice pbz8 lbz8 mbz8)).setCell ⟨boz8, 3, none⟩ (.slice pcz8 lcz8 mcz8)) = wk9 at *
  replace HBa := Lib.hid (HBa.out.ext gg1)
  replace HAa := Lib.hid (HAa.out.ext gg1)
  replace HI5 := Lib.hid (HI5.out.ext gg1)
  replace HE := Lib.hid (HE.out.trans (gg1))
  have HBb := Lib.hid gg2
  have HAb := Lib.hid hAn
  clear gg1 gg2 hAn
  go_wp2_with fail
  refine (rmod_any n P wk9 HN.out (by omega) hP2).mono ?_
  rintro e w' ⟨rfl, rfl⟩
  rw [HPP.out]
  have hmb : -9223372036854775808 ≤ n % prodL R ∧ n % prodL R ≤ 9223372036854775807 := by
    have h1 := Int.emod_nonneg n (show prodL R ≠ 0 by rw [← HPP.out]; omega)
    have h2 := Int.emod_lt_of_pos n (show 0 < prodL R by rw [← HPP.out]; omega)
    rw [← HPP.out] at h1 h2 ⊢
    omega
  generalize n % prodL R = mm at *
  go_wp2_with fail
  refine wp_region_x0 [MProp.is (.int .i64 0), MProp.is (.bool false), MProp.is (.bool false), MProp.is (.agg #[(.int .i64 kz8), (.slice paz8 laz8 maz8), (.slice pbz8 lbz8 mbz8), (.slice pcz8 lcz8 mcz8)]), MProp.is (.int .i64 mm), MProp.rd (numV mm), MProp.is (.bool true), MProp.is (.bool false), MProp.is (.bool false)] [0, 1, 2, 3, 4, 5, 6, 7, 8] [] [123, 124, 125, 126, 127, 128, 129, 130, 131] (by kernel_rfl) (by kernel_rfl) (by kernel_rfl) ?_ ?_ ?_
  · refine mem_cons_m ?_ (mem_cons_m ?_ (mem_cons_m ?_ (mem_cons_m ?_ (mem_cons_m ?_ (mem_cons_m ?_ (mem_cons_m ?_ (mem_cons_m ?_ (mem_cons_m ?_ (mem_nil_m)))))))))
    · refine ⟨_, 123, rfl, by kernel_rfl, ?_⟩
      intro u w9 X hE hX hd K hK
      clear hd
      simp only [overlay, List.setIfInBounds_toArray, List.set] at hK ⊢
      go_wp2_with fail
      exact hK _ _ X (Ext.refl _) kept_m hX rfl
    · refine ⟨_, 124, rfl, by kernel_rfl, ?_⟩
      intro u w9 X hE hX hd K hK
      have d0 : u 123 = .int .i64 0 := hd 0 (by kernel_rfl)
      clear hd
      simp only [overlay, List.setIfInBounds_toArray, List.set, d0] at hK ⊢
      go_wp2_with fail
      exact hK _ _ X (Ext.refl _) kept_m hX rfl
    · refine ⟨_, 125, rfl, by kernel_rfl, ?_⟩
      intro u w9 X hE hX hd K hK
      have d1 : u 124 = .bool false := hd 1 (by kernel_rfl)
      clear hd
      simp only [overlay, List.setIfInBounds_toArray, List.set, d1] at hK ⊢
      go_wp2_with fail
      exact hK _ _ X (Ext.refl _) kept_m hX rfl
    · refine ⟨_, 126, rfl, by kernel_rfl, ?_⟩
      intro u w9 X hE hX hd K hK
      have d2 : u 125 = .bool false := hd 2 (by kernel_rfl)
      clear hd
      simp only [overlay, List.setIfInBounds_toArray, List.set, d2] at hK ⊢
      have e9 : Ext wk9 w9 := (Ext.refl wk9).drew.trans hE
      obtain ⟨s0, s1, s2, s3⟩ := (HBb.out.ext e9).cell
      go_wp2_with fail
      exact hK _ _ X (Ext.refl _) kept_m hX rfl
    · refine ⟨_, 127, rfl, by kernel_rfl, ?_⟩
      intro u w9 X hE hX hd K hK
      have d2 : u 125 = .bool false := hd 2 (by kernel_rfl)
      clear hd
      simp only [overlay, List.setIfInBounds_toArray, List.set, d2] at hK ⊢
      go_wp2_with fail
      exact hK _ _ X (Ext.refl _) kept_m hX rfl
    · refine ⟨_, 128, rfl, by kernel_rfl, ?_⟩
      intro u w9 X hE hX hd K hK
      have d4 : u 127 = .int .i64 mm := hd 4 (by kernel_rfl)
      have d2 : u 125 = .bool false := hd 2 (by kernel_rfl)
      clear hd
      simp only [overlay, List.setIfInBounds_toArray, List.set, d4, d2] at hK ⊢
      have e9 : Ext wk9 w9 := (Ext.refl wk9).drew.trans hE
      go_wp2_with fail
      refine (num_rd hmb hX.hi).mono ?_
      rintro e w8 ⟨x8, rfl, hx8, hE8⟩
      go_wp2_with fail
      exact hK _ _ X hE8 kept_m (hX.ext hE8) hx8
    · refine ⟨_, 129, rfl, by kernel_rfl, ?_⟩
      intro u w9 X hE hX hd K hK
      have d3 : u 126 = .agg #[(.int .i64 kz8), (.slice paz8 laz8 maz8), (.slice pbz8 lbz8 mbz8), (.slice pcz8 lcz8 mcz8)] := hd 3 (by kernel_rfl)
      have d5 : RdX X w9 (numV mm) (u 128) := hd 5 (by kernel_rfl)
      have d2 : u 125 = .bool false := hd 2 (by kernel_rfl)
      clear hd
      simp only [overlay, List.setIfInBounds_toArray, List.set, d3, d2] at hK ⊢
      have e9 : Ext wk9 w9 := (Ext.refl wk9).drew.trans hE
      go_wp2_with fail
      refine (same_true ((RdX.old HAb.out e9 hX.lo)).rd (d5).rd rfl rfl).mono ?_
      rintro e w8 ⟨rfl, hE8⟩
      go_wp2_with fail
      exact hK _ _ X hE8 kept_m (hX.ext hE8) rfl
    · refine ⟨_, 130, rfl, by kernel_rfl, ?_⟩
      intro u w9 X hE hX hd K hK
      have d6 : u 129 = .bool true := hd 6 (by kernel_rfl)
      have d2 : u 125 = .bool false := hd 2 (by kernel_rfl)
      clear hd
      simp only [overlay, List.setIfInBounds_toArray, List.set, d6, d2] at hK ⊢
      go_wp2_with fail
      exact hK _ _ X (Ext.refl _) kept_m hX rfl
    · refine ⟨_, 131, rfl, by kernel_rfl, ?_⟩
      intro u w9 X hE hX hd K hK
      have d2 : u 125 = .bool false := hd 2 (by kernel_rfl)
      have d7 : u 130 = .bool false := hd 7 (by kernel_rfl)
      clear hd
      simp only [overlay, List.setIfInBounds_toArray, List.set, d2, d7] at hK ⊢
      go_wp2_with fail
      exact hK _ _ X (Ext.refl _) kept_m hX rfl
  · exact mem_nil_m
  intro u w9 X hE hX hd
  have d0 : u 123 = .int .i64 0 := hd 0 (by decide)
  have d1 : u 124 = .bool false := hd 1 (by decide)
  have d2 : u 125 = .bool false := hd 2 (by decide)
  have d3 : u 126 = .agg #[(.int .i64 kz8), (.slice paz8 laz8 maz8), (.slice pbz8 lbz8 mbz8), (.slice pcz8 lcz8 mcz8)] := hd 3 (by decide)
  have d4 : u 127 = .int .i64 mm := hd 4 (by decide)
  have d5 : RdX X w9 (numV mm) (u 128) := hd 5 (by decide)
  have d6 : u 129 = .bool true := hd 6 (by decide)
  have d7 : u 130 = .bool false := hd 7 (by decide)
  have d8 : u 131 = .bool false := hd 8 (by decide)
  clear hd
  simp only [overlay, List.setIfInBounds_toArray, List.set, d0, d1, d2, d3, d4, d6, d7, d8]
  have e9 : Ext wk9 w9 := (Ext.refl wk9).drew.trans hE
  clear d0 d1 d2 d3 d4 d5 d6 d7 d8
  clear hX hE
  generalize u 128 = t128z10
  clear u
  obtain ⟨wk11, rfl⟩ : ∃ wx : World, wx = w9 := ⟨_, rfl⟩
  replace HBa := Lib.hid (HBa.out.ext e9)
  replace HAa := Lib.hid (HAa.out.ext e9)
  replace HBb := Lib.hid (HBb.out.ext e9)
  replace HAb := Lib.hid (HAb.out.ext e9)
  replace HI5 := Lib.hid (HI5.out.ext e9)
  replace HE := Lib.hid (HE.out.trans (e9))
  clear e9
  by_cases hn0 : n < 0
  · go_wp2_with fail
    refine (radawake_any _).mono ?_
    rintro e wl ⟨rfl, hEl⟩
    go_wp2_with fail
    go_ret
    exact ⟨rfl, HE.out.trans hEl⟩
  have hrz : RowI (wk11.alloc (.cells #[.int .i64 0] 3)) wk11.heap.size [0] := rowI_new' wk11 [0]
  have hEz : Ext wk11 (wk11.alloc (.cells #[.int .i64 0] 3)) := (Ext.refl _).alloc _
  have HOz := Lib.hid (OwnI.of_row (B := wk11.heap.size) (X := fun _ => False) (n := 1) (xs := [0]) hrz rfl (by omega) (Nat.le_refl _) (fun h => h) (by simp))
  have HEz := Lib.hid hEz
  clear hrz hEz
  go_wp2_with (at_builtin; refine wpList_append_ints rfl _ _ rfl _ wk11.heap.size (fun _ => False) (.slice (some ⟨wk11.heap.size, 0, none⟩) 1 1) 1 [0] pv cv R rfl HOz.out rfl (HI5.out.ext HEz.out) (fun _ h => h.elim) (by omega) HEz.out.lt ?_)
  intro vz wz hOz hgz _
  have hEz2 : Ext wk11 wz := HEz.out.grown hgz HEz.out.lt (fun q e => (HOz.out.2.2.1.lt q e).1)
  replace hOz : OwnI _ _ wz vz (1 + R.length) (0 :: R) := hOz
  obtain ⟨pz, cz, rfl, hkz, hiz⟩ := hOz.ints
  clear HOz HEz hgz
  go_wp2_with fail
  have hzl : (0 :: R).length = R.length + 1 := by simp
  have hv := vec_rd (X := fun _ => False) (RdIX.old hiz hkz (Ext.refl _) (fun _ h => False.elim h)) (fun _ h => False.elim h)
  rw [hzl] at hv
  refine hv.mono ?_
  rintro e wy ⟨xz, rfl, hxz, hEy⟩
  clear hv hzl
  obtain ⟨c0, c1, c2, c3, rfl, hA9⟩ := hxz
  obtain ⟨kzz, pazz, lazz, mazz, pbzz, lbzz, mbzz, pczz, lczz, mczz, rfl, rfl, rfl, rfl⟩ := hA9.form
  have hEn := ((hEz2.trans hEy)).alloc (.cells #[(.int .i64 kzz), (.slice pazz lazz mazz), (.slice pbzz lbzz mbzz), (.slice pczz lczz mczz)] 26)
  have hBn := box_new wy (.int .i64 kzz) (.slice pazz lazz mazz) (.slice pbzz lbzz mbzz) (.slice pczz lczz mczz)
  have hAn := hA9.ext ((Ext.refl _).alloc (.cells #[(.int .i64 kzz), (.slice pazz lazz mazz), (.slice pbzz lbzz mbzz), (.slice pczz lczz mczz)] 26))
  clear hA9 hEz2 hEy hiz hkz hOz
  have HF := Lib.hid (And.intro hEn (And.intro hBn hAn))
  clear hEn hBn hAn
  go_upto_region 28 with (fail)
  obtain ⟨hEn, hBn, hAn⟩ := HF.out
  clear HF
  generalize hbz : wy.heap.size = bzz at *
  clear hbz
  generalize wy.alloc (.cells #[(.int .i64 kzz), (.slice pazz lazz mazz), (.slice pbzz lbzz mbzz), (.slice pczz lczz mczz)] 26) = wkz at *
  replace HBa := Lib.hid (HBa.out.ext hEn)
  replace HAa := Lib.hid (HAa.out.ext hEn)
  replace HBb := Lib.hid (HBb.out.ext hEn)
  replace HAb := Lib.hid (HAb.out.ext hEn)
  replace HI5 := Lib.hid (HI5.out.ext hEn)
  replace HE := Lib.hid (HE.out.trans (hEn))
  have HBz := Lib.hid hBn
  have HAz := Lib.hid hAn
  clear hEn hBn hAn
  have HENC0 := Lib.hid (enc_num (l := 0 :: R) (n := n) (by simp; omega) HR0.out HN.out)
  have HDEC0 := Lib.hid (dec_enc0 (l := R) (n := n) (by omega) HR1.out HRR.out HN.out (by omega))
  generalize (dig (0 :: R) n).1 = dz0 at *
  refine wp_region_y2 [MProp.is (.agg #[(.int .i64 kzz), (.slice pazz lazz mazz), (.slice pbzz lbzz mbzz), (.slice pczz lczz mczz)]), MProp.is (.int .i64 n), MProp.rd (numV n), MProp.rd2 (vecV dz0) 0, MProp.rd2 (vecV dz0) 0, MProp.rd (vecV dz0), MProp.is (.int .i64 0), MProp.box] [0, 1, 2, 3, 4, 5, 6, 7] [6] [140, 141, 142, 143, 139, 144, 145, 19] 8 9 (by kernel_rfl) (by kernel_rfl) (by kernel_rfl) rfl rfl ?_ ?_ ?_
  · refine mem_cons_m ?_ (mem_cons_m ?_ (mem_cons_m ?_ (mem_cons_m ?_ (mem_cons_m ?_ (mem_cons_m ?_ (mem_cons_m ?_ (mem_cons_m ?_ (mem_nil_m))))))))
    · refine ⟨_, 140, rfl, by kernel_rfl, ?_⟩
      intro u w9 X hE hX hd K hK
      clear hd
      simp only [overlay, List.setIfInBounds_toArray, List.set] at hK ⊢
      have e9 : Ext wkz w9 := (Ext.refl wkz).drew.trans hE
      obtain ⟨s0, s1, s2, s3⟩ := (HBz.out.ext e9).cell
      go_wp2_with fail
      exact hK _ _ X (Ext.refl _) kept_m hX rfl
    · refine ⟨_, 141, rfl, by kernel_rfl, ?_⟩
      intro u w9 X hE hX hd K hK
      clear hd
      simp only [overlay, List.setIfInBounds_toArray, List.set] at hK ⊢
      go_wp2_with fail
      exact hK _ _ X (Ext.refl _) kept_m hX rfl
    · refine ⟨_, 142, rfl, by kernel_rfl, ?_⟩
      intro u w9 X hE hX hd K hK
      have d1 : u 141 = .int .i64 n := hd 1 (by kernel_rfl)
      clear hd
      simp only [overlay, List.setIfInBounds_toArray, List.set, d1] at hK ⊢
      have e9 : Ext wkz w9 := (Ext.refl wkz).drew.trans hE
      go_wp2_with fail
      refine (num_rd hnb hX.hi).mono ?_
      rintro e w8 ⟨x8, rfl, hx8, hE8⟩
      go_wp2_with fail
      exact hK _ _ X hE8 kept_m (hX.ext hE8) hx8
    · refine ⟨_, 143, rfl, by kernel_rfl, ?_⟩
      intro u w9 X hE hX hd K hK
      have d0 : u 140 = .agg #[(.int .i64 kzz), (.slice pazz lazz mazz), (.slice pbzz lbzz mbzz), (.slice pczz lczz mczz)] := hd 0 (by kernel_rfl)
      have d2 : RdX X w9 (numV n) (u 142) := hd 2 (by kernel_rfl)
      clear hd
      simp only [overlay, List.setIfInBounds_toArray, List.set, d0] at hK ⊢
      have e9 : Ext wkz w9 := (Ext.refl wkz).drew.trans hE
      go_wp2_with fail
      refine (enc_at HENC0.out (RdX.old HAz.out e9 hX.lo) d2 hX.hi).mono ?_
      rintro e w8 ⟨x8, rfl, hx8, hE8⟩
      go_wp2_with fail
      exact hK _ _ X hE8 kept_m (hX.ext hE8) ⟨x8, rfl, hx8⟩
    · refine ⟨_, 139, rfl, by kernel_rfl, ?_⟩
      intro u w9 X hE hX hd K hK
      have d3 : ∃ x, u 143 = .tuple #[x, .int .i64 0] ∧ RdX X w9 (vecV dz0) x := hd 3 (by kernel_rfl)
      clear hd
      simp only [overlay, List.setIfInBounds_toArray, List.set] at hK ⊢
      obtain ⟨x8, hv8, hx8⟩ := d3
      simp only [hv8] at hK ⊢
      go_wp2_with fail
      exact hK _ _ X (Ext.refl _) kept_m hX ⟨x8, rfl, hx8⟩
    · refine ⟨_, 144, rfl, by kernel_rfl, ?_⟩
      intro u w9 X hE hX hd K hK
      have d4 : ∃ x, u 139 = .tuple #[x, .int .i64 0] ∧ RdX X w9 (vecV dz0) x := hd 4 (by kernel_rfl)
      clear hd
      simp only [overlay, List.setIfInBounds_toArray, List.set] at hK ⊢
      obtain ⟨x8, hv8, hx8⟩ := d4
      simp only [hv8] at hK ⊢
      go_wp2_with fail
      exact hK _ _ X (Ext.refl _) kept_m hX hx8
    · refine ⟨_, 145, rfl, by kernel_rfl, ?_⟩
      intro u w9 X hE hX hd K hK
      have d4 : ∃ x, u 139 = .tuple #[x, .int .i64 0] ∧ RdX X w9 (vecV dz0) x := hd 4 (by kernel_rfl)
      clear hd
      simp only [overlay, List.setIfInBounds_toArray, List.set] at hK ⊢
      obtain ⟨x8, hv8, hx8⟩ := d4
      simp only [hv8] at hK ⊢
      go_wp2_with fail
      exact hK _ _ X (Ext.refl _) kept_m hX rfl
    · refine ⟨_, 19, rfl, by kernel_rfl, ?_⟩
      intro u w9 X hE hX hd K hK
      clear hd
      simp only [overlay, List.setIfInBounds_toArray, List.set] at hK ⊢
      go_wp2_with fail
      exact hK _ _ (fun b => X b ∨ b = w9.heap.size) ((Ext.refl _).alloc _) added_m (hX.add hE _) ⟨_, rfl, box_new _ _ _ _ _, .inr rfl⟩
  · refine mem_cons_m ?_ (mem_nil_m)
    · refine ⟨_, rfl, ?_⟩
      intro u w9 X hd
      have d4 : ∃ x, u 139 = .tuple #[x, .int .i64 0] ∧ RdX X w9 (vecV dz0) x := hd 4 (by kernel_rfl)
      clear hd
      obtain ⟨x8, hv8, hx8⟩ := d4
      simp only [overlay, List.setIfInBounds_toArray, List.set, hv8]
      exact ⟨.int .i64 0, .inl ⟨by kernel_rfl, fun w8 => by go_simp⟩, rfl⟩
  intro u w9 X hE hX hd
  have d0 : u 140 = .agg #[(.int .i64 kzz), (.slice pazz lazz mazz), (.slice pbzz lbzz mbzz), (.slice pczz lczz mczz)] := hd 0 (by decide)
  have d1 : u 141 = .int .i64 n := hd 1 (by decide)
  have d2 : RdX X w9 (numV n) (u 142) := hd 2 (by decide)
  have d3 : ∃ x, u 143 = .tuple #[x, .int .i64 0] ∧ RdX X w9 (vecV dz0) x := hd 3 (by decide)
  have d4 : ∃ x, u 139 = .tuple #[x, .int .i64 0] ∧ RdX X w9 (vecV dz0) x := hd 4 (by decide)
  have d5 : RdX X w9 (vecV dz0) (u 144) := hd 5 (by decide)
  have d6 : u 145 = .int .i64 0 := hd 6 (by decide)
  have d7 : ∃ b, u 19 = .pointer (some ⟨b, 0, none⟩) ∧ Box4 w9 b (.int .i64 0) (.slice none 0 0) (.slice none 0 0) (.slice none 0 0) ∧ X b := hd 7 (by decide)
  clear hd
  simp only [overlay, List.setIfInBounds_toArray, List.set, d0, d1, d6]
  have e9 : Ext wkz w9 := (Ext.refl wkz).drew.trans hE
  obtain ⟨boz12, hvb, hbox, hxb⟩ := d7
  obtain ⟨c0, c1, c2, c3, hva, hA9⟩ := d5
  obtain ⟨kz12, paz12, laz12, maz12, pbz12, lbz12, mbz12, pcz12, lcz12, mcz12, rfl, rfl, rfl, rfl⟩ := hA9.form
  have hbo := hX boz12 hxb
  simp only [hvb, hva]
  obtain ⟨s0, s1, s2, s3⟩ := hbox.cell
  have f0 := hbox.free 0
  have f1 := hbox.free 1
  have f2 := hbox.free 2
  have f3 := hbox.free 3
  obtain ⟨gg1, gg2, gg3⟩ := hbox.put4 e9 hbo.1 (.int .i64 kz12) (.slice paz12 laz12 maz12) (.slice pbz12 lbz12 mbz12) (.slice pcz12 lcz12 mcz12)
  have hAn := ArrAt.mono (G := fun _ => True) (fun b hb _ => ⟨trivial, gg3 b (fun e => hb.2 (by rw [e]; exact hxb))⟩) _ _ _ _ _ hA9
  have HGG := Lib.hid (And.intro gg1 (And.intro gg2 hAn))
  clear gg1 gg2 gg3 hAn hA9 hbo hxb hbox
  clear d0 d1 d2 d3 d4 d6
  clear hX hE
  generalize u 142 = t142z12 at *
  generalize u 143 = t143z12 at *
  generalize u 139 = t139z12 at *
  clear hvb hva
  clear u
  go_wp2_with fail
  refine OnlyN.mk ?_
  obtain ⟨gg1, gg2, hAn⟩ := HGG.out
  clear HGG s0 s1 s2 s3 f0 f1 f2 f3 e9
  generalize ((((w9.setCell ⟨boz12, 0, none⟩ (.int .i64 kz12)).setCell ⟨boz12, 1, none⟩ (.slice paz12 laz12 maz12)).setCell ⟨boz12, 2, none⟩ (.slice pbz12 lbz12 mbz12)).setCell ⟨boz12, 3, none⟩ (.slice pcz12 lcz12 mcz12)) = wk13 at *
  replace HBa := Lib.hid (HBa.out.ext gg1)
  replace HAa := Lib.hid (HAa.out.ext gg1)
  replace HBb := Lib.hid (HBb.out.ext gg1)
  replace HAb := Lib.hid (HAb.out.ext gg1)
  replace HBz := Lib.hid (HBz.out.ext gg1)
  replace HAz := Lib.hid (HAz.out.ext gg1)
  replace HI5 := Lib.hid (HI5.out.ext gg1)
  replace HE := Lib.hid (HE.out.trans (gg1))
  have HBc := Lib.hid gg2
  have HAc := Lib.hid hAn
  clear gg1 gg2 hAn
  obtain ⟨sz0, sz1, sz2, sz3⟩ := HBz.out.cell
  obtain ⟨sc0, sc1, sc2, sc3⟩ := HBc.out.cell
  go_wp2_with fail
  refine (dec_at HDEC0.out (RdX.old (X := fun _ => False) HAz.out (Ext.refl _) (fun _ h => False.elim h)) (RdX.old (X := fun _ => False) HAc.out (Ext.refl _) (fun _ h => False.elim h)) (fun _ h => False.elim h)).mono ?_
  rintro e wf15 ⟨x14, rfl, hx14, hEx14⟩
  clear sz0 sz1 sz2 sz3 sc0 sc1 sc2 sc3
  obtain ⟨c0, c1, c2, c3, rfl, hA9⟩ := hx14
  obtain ⟨kx14, pax14, lax14, max14, pbx14, lbx14, mbx14, pcx14, lcx14, mcx14, rfl, rfl, rfl, rfl⟩ := hA9.form
  have hEn := ((Ext.refl wk13).trans hEx14).alloc (.cells #[(.int .i64 kx14), (.slice pax14 lax14 max14), (.slice pbx14 lbx14 mbx14), (.slice pcx14 lcx14 mcx14)] 26)
  have hBn := box_new wf15 (.int .i64 kx14) (.slice pax14 lax14 max14) (.slice pbx14 lbx14 mbx14) (.slice pcx14 lcx14 mcx14)
  have hAn := hA9.ext ((Ext.refl _).alloc (.cells #[(.int .i64 kx14), (.slice pax14 lax14 max14), (.slice pbx14 lbx14 mbx14), (.slice pcx14 lcx14 mcx14)] 26))
  clear hA9 hEx14
  have HF := Lib.hid (And.intro hEn (And.intro hBn hAn))
  clear hEn hBn hAn
  go_upto_region 30 with (fail)
  obtain ⟨hEn, hBn, hAn⟩ := HF.out
  clear HF
  generalize hbz : wf15.heap.size = bx14 at *
  clear hbz
  generalize wf15.alloc (.cells #[(.int .i64 kx14), (.slice pax14 lax14 max14), (.slice pbx14 lbx14 mbx14), (.slice pcx14 lcx14 mcx14)] 26) = wk16 at *
  replace HBa := Lib.hid (HBa.out.ext hEn)
  replace HAa := Lib.hid (HAa.out.ext hEn)
  replace HBb := Lib.hid (HBb.out.ext hEn)
  replace HAb := Lib.hid (HAb.out.ext hEn)
  replace HBz := Lib.hid (HBz.out.ext hEn)
  replace HAz := Lib.hid (HAz.out.ext hEn)
  replace HBc := Lib.hid (HBc.out.ext hEn)
  replace HAc := Lib.hid (HAc.out.ext hEn)
  replace HI5 := Lib.hid (HI5.out.ext hEn)
  replace HE := Lib.hid (HE.out.trans (hEn))
  have HBd := Lib.hid hBn
  have HAd := Lib.hid hAn
  clear hEn hBn hAn
  refine wp_region_x0 [MProp.is (.int .i64 0), MProp.is (.bool true), MProp.is (.bool true), MProp.is (.int .i64 0), MProp.is (.bool true), MProp.is (.bool true), MProp.is (.bool true), MProp.is (.agg #[(.int .i64 kx14), (.slice pax14 lax14 max14), (.slice pbx14 lbx14 mbx14), (.slice pcx14 lcx14 mcx14)]), MProp.is (.int .i64 n), MProp.rd (numV n), MProp.is (.bool true), MProp.is (.bool true), MProp.is (.bool true), MProp.is (.bool true), MProp.is (.bool true), MProp.is (.bool true)] [0, 1, 2, 3, 4, 5, 6, 7, 8, 9, 10, 11, 12, 13, 14, 15] [] [152, 153, 154, 155, 156, 157, 158, 159, 160, 161, 162, 163, 164, 165, 166, 4] (by kernel_rfl) (by kernel_rfl) (by kernel_rfl) ?_ ?_ ?_
  · refine mem_cons_m ?_ (mem_cons_m ?_ (mem_cons_m ?_ (mem_cons_m ?_ (mem_cons_m ?_ (mem_cons_m ?_ (mem_cons_m ?_ (mem_cons_m ?_ (mem_cons_m ?_ (mem_cons_m ?_ (mem_cons_m ?_ (mem_cons_m ?_ (mem_cons_m ?_ (mem_cons_m ?_ (mem_cons_m ?_ (mem_cons_m ?_ (mem_nil_m))))))))))))))))
    · refine ⟨_, 152, rfl, by kernel_rfl, ?_⟩
      intro u w9 X hE hX hd K hK
      clear hd
      simp only [overlay, List.setIfInBounds_toArray, List.set] at hK ⊢
      go_wp2_with fail
      exact hK _ _ X (Ext.refl _) kept_m hX rfl
    · refine ⟨_, 153, rfl, by kernel_rfl, ?_⟩
      intro u w9 X hE hX hd K hK
      have d0 : u 152 = .int .i64 0 := hd 0 (by kernel_rfl)
      clear hd
      simp only [overlay, List.setIfInBounds_toArray, List.set, d0] at hK ⊢
      go_wp2_with fail
      exact hK _ _ X (Ext.refl _) kept_m hX rfl
    · refine ⟨_, 154, rfl, by kernel_rfl, ?_⟩
      intro u w9 X hE hX hd K hK
      have d1 : u 153 = .bool true := hd 1 (by kernel_rfl)
      clear hd
      simp only [overlay, List.setIfInBounds_toArray, List.set, d1] at hK ⊢
      go_wp2_with fail
      exact hK _ _ X (Ext.refl _) kept_m hX rfl
    · refine ⟨_, 155, rfl, by kernel_rfl, ?_⟩
      intro u w9 X hE hX hd K hK
      have d2 : u 154 = .bool true := hd 2 (by kernel_rfl)
      clear hd
      simp only [overlay, List.setIfInBounds_toArray, List.set, d2] at hK ⊢
      go_wp2_with fail
      exact hK _ _ X (Ext.refl _) kept_m hX rfl
    · refine ⟨_, 156, rfl, by kernel_rfl, ?_⟩
      intro u w9 X hE hX hd K hK
      have d3 : u 155 = .int .i64 0 := hd 3 (by kernel_rfl)
      have d2 : u 154 = .bool true := hd 2 (by kernel_rfl)
      clear hd
      simp only [overlay, List.setIfInBounds_toArray, List.set, d3, d2] at hK ⊢
      go_wp2_with fail
      exact hK _ _ X (Ext.refl _) kept_m hX rfl
    · refine ⟨_, 157, rfl, by kernel_rfl, ?_⟩
      intro u w9 X hE hX hd K hK
      have d2 : u 154 = .bool true := hd 2 (by kernel_rfl)
      have d4 : u 156 = .bool true := hd 4 (by kernel_rfl)
      clear hd
      simp only [overlay, List.setIfInBounds_toArray, List.set, d2, d4] at hK ⊢
      go_wp2_with fail
      exact hK _ _ X (Ext.refl _) kept_m hX rfl
    · refine ⟨_, 158, rfl, by kernel_rfl, ?_⟩
      intro u w9 X hE hX hd K hK
      have d5 : u 157 = .bool true := hd 5 (by kernel_rfl)
      clear hd
      simp only [overlay, List.setIfInBounds_toArray, List.set, d5] at hK ⊢
      go_wp2_with fail
      exact hK _ _ X (Ext.refl _) kept_m hX rfl
    · refine ⟨_, 159, rfl, by kernel_rfl, ?_⟩
      intro u w9 X hE hX hd K hK
      have d6 : u 158 = .bool true := hd 6 (by kernel_rfl)
      clear hd
      simp only [overlay, List.setIfInBounds_toArray, List.set, d6] at hK ⊢
      have e9 : Ext wk16 w9 := (Ext.refl wk16).drew.trans hE
      obtain ⟨s0, s1, s2, s3⟩ := (HBd.out.ext e9).cell
      go_wp2_with fail
      exact hK _ _ X (Ext.refl _) kept_m hX rfl
    · refine ⟨_, 160, rfl, by kernel_rfl, ?_⟩
      intro u w9 X hE hX hd K hK
      have d6 : u 158 = .bool true := hd 6 (by kernel_rfl)
      clear hd
      simp only [overlay, List.setIfInBounds_toArray, List.set, d6] at hK ⊢
      go_wp2_with fail
      exact hK _ _ X (Ext.refl _) kept_m hX rfl
    · refine ⟨_, 161, rfl, by kernel_rfl, ?_⟩
      intro u w9 X hE hX hd K hK
      have d8 : u 160 = .int .i64 n := hd 8 (by kernel_rfl)
      have d6 : u 158 = .bool true := hd 6 (by kernel_rfl)
      clear hd
      simp only [overlay, List.setIfInBounds_toArray, List.set, d8, d6] at hK ⊢
      have e9 : Ext wk16 w9 := (Ext.refl wk16).drew.trans hE
      go_wp2_with fail
      refine (num_rd hnb hX.hi).mono ?_
      rintro e w8 ⟨x8, rfl, hx8, hE8⟩
      go_wp2_with fail
      exact hK _ _ X hE8 kept_m (hX.ext hE8) hx8
    · refine ⟨_, 162, rfl, by kernel_rfl, ?_⟩
      intro u w9 X hE hX hd K hK
      have d7 : u 159 = .agg #[(.int .i64 kx14), (.slice pax14 lax14 max14), (.slice pbx14 lbx14 mbx14), (.slice pcx14 lcx14 mcx14)] := hd 7 (by kernel_rfl)
      have d9 : RdX X w9 (numV n) (u 161) := hd 9 (by kernel_rfl)
      have d6 : u 158 = .bool true := hd 6 (by kernel_rfl)
      clear hd
      simp only [overlay, List.setIfInBounds_toArray, List.set, d7, d6] at hK ⊢
      have e9 : Ext wk16 w9 := (Ext.refl wk16).drew.trans hE
      go_wp2_with fail
      refine (same_true ((RdX.old HAd.out e9 hX.lo)).rd (d9).rd rfl rfl).mono ?_
      rintro e w8 ⟨rfl, hE8⟩
      go_wp2_with fail
      exact hK _ _ X hE8 kept_m (hX.ext hE8) rfl
    · refine ⟨_, 163, rfl, by kernel_rfl, ?_⟩
      intro u w9 X hE hX hd K hK
      have d6 : u 158 = .bool true := hd 6 (by kernel_rfl)
      have d10 : u 162 = .bool true := hd 10 (by kernel_rfl)
      clear hd
      simp only [overlay, List.setIfInBounds_toArray, List.set, d6, d10] at hK ⊢
      go_wp2_with fail
      exact hK _ _ X (Ext.refl _) kept_m hX rfl
    · refine ⟨_, 164, rfl, by kernel_rfl, ?_⟩
      intro u w9 X hE hX hd K hK
      have d11 : u 163 = .bool true := hd 11 (by kernel_rfl)
      clear hd
      simp only [overlay, List.setIfInBounds_toArray, List.set, d11] at hK ⊢
      go_wp2_with fail
      exact hK _ _ X (Ext.refl _) kept_m hX rfl
    · refine ⟨_, 165, rfl, by kernel_rfl, ?_⟩
      intro u w9 X hE hX hd K hK
      have d12 : u 164 = .bool true := hd 12 (by kernel_rfl)
      clear hd
      simp only [overlay, List.setIfInBounds_toArray, List.set, d12] at hK ⊢
      have e9 : Ext wk16 w9 := (Ext.refl wk16).drew.trans hE
      go_wp2_with fail
      refine (radawake_any w9).mono ?_
      rintro e w8 ⟨rfl, hE8⟩
      go_wp2_with fail
      exact hK _ _ X hE8 kept_m (hX.ext hE8) rfl
    · refine ⟨_, 166, rfl, by kernel_rfl, ?_⟩
      intro u w9 X hE hX hd K hK
      have d12 : u 164 = .bool true := hd 12 (by kernel_rfl)
      have d13 : u 165 = .bool true := hd 13 (by kernel_rfl)
      clear hd
      simp only [overlay, List.setIfInBounds_toArray, List.set, d12, d13] at hK ⊢
      go_wp2_with fail
      exact hK _ _ X (Ext.refl _) kept_m hX rfl
    · refine ⟨_, 4, rfl, by kernel_rfl, ?_⟩
      intro u w9 X hE hX hd K hK
      have d14 : u 166 = .bool true := hd 14 (by kernel_rfl)
      clear hd
      simp only [overlay, List.setIfInBounds_toArray, List.set, d14] at hK ⊢
      go_wp2_with fail
      exact hK _ _ X (Ext.refl _) kept_m hX rfl
  · exact mem_nil_m
  intro u w9 X hE hX hd
  have d0 : u 152 = .int .i64 0 := hd 0 (by decide)
  have d1 : u 153 = .bool true := hd 1 (by decide)
  have d2 : u 154 = .bool true := hd 2 (by decide)
  have d3 : u 155 = .int .i64 0 := hd 3 (by decide)
  have d4 : u 156 = .bool true := hd 4 (by decide)
  have d5 : u 157 = .bool true := hd 5 (by decide)
  have d6 : u 158 = .bool true := hd 6 (by decide)
  have d7 : u 159 = .agg #[(.int .i64 kx14), (.slice pax14 lax14 max14), (.slice pbx14 lbx14 mbx14), (.slice pcx14 lcx14 mcx14)] := hd 7 (by decide)
  have d8 : u 160 = .int .i64 n := hd 8 (by decide)
  have d9 : RdX X w9 (numV n) (u 161) := hd 9 (by decide)
  have d10 : u 162 = .bool true := hd 10 (by decide)
  have d11 : u 163 = .bool true := hd 11 (by decide)
  have d12 : u 164 = .bool true := hd 12 (by decide)
  have d13 : u 165 = .bool true := hd 13 (by decide)
  have d14 : u 166 = .bool true := hd 14 (by decide)
  have d15 : u 4 = .bool true := hd 15 (by decide)
  clear hd
  simp only [overlay, List.setIfInBounds_toArray, List.set, d0, d1, d2, d3, d4, d5, d6, d7, d8, d10, d11, d12, d13, d14, d15]
  have e9 : Ext wk16 w9 := (Ext.refl wk16).drew.trans hE
  clear d0 d1 d2 d3 d4 d5 d6 d7 d8 d9 d10 d11 d12 d13 d14 d15
  clear hX hE
  generalize u 161 = t161z17
  clear u
  obtain ⟨wk18, rfl⟩ : ∃ wx : World, wx = w9 := ⟨_, rfl⟩
  replace HBa := Lib.hid (HBa.out.ext e9)
  replace HAa := Lib.hid (HAa.out.ext e9)
  replace HBb := Lib.hid (HBb.out.ext e9)
  replace HAb := Lib.hid (HAb.out.ext e9)
  replace HBz := Lib.hid (HBz.out.ext e9)
  replace HAz := Lib.hid (HAz.out.ext e9)
  replace HBc := Lib.hid (HBc.out.ext e9)
  replace HAc := Lib.hid (HAc.out.ext e9)
  replace HBd := Lib.hid (HBd.out.ext e9)
  replace HAd := Lib.hid (HAd.out.ext e9)
  replace HI5 := Lib.hid (HI5.out.ext e9)
  replace HE := Lib.hid (HE.out.trans (e9))
  clear e9
  go_wp2_with fail
  go_ret
  exact ⟨rfl, HE.out⟩
end Go.Proofs.Ytmpjnjhiklaofaa
