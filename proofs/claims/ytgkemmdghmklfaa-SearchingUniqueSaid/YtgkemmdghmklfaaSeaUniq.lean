/-
  THE WALK of law25.SearchingUnique. (Printed by gen_slaws.py.)
-/
import Derived.Test.YtgkemmdghmklfaaSAwk
import Derived.Test.YtgkemmdghmklfaaRUniq
import Derived.Test.YtgkemmdghmklfaaUniqLaw
namespace Go.Proofs.Ytgkemmdghmklfaa
set_option linter.unusedSimpArgs false
set_option linter.unusedVariables false
open Go.RowKit

theorem runiq_at {X : Nat → Prop} {w : World} {a t : Arr} {n : Int} {v1 : Value} (ex : uniqV a = t) (en : uniqE a = n) (h1 : RdX X w a v1) (hX : ∀ b, X b → b < w.heap.size) : Calls Try.prog 65 #[v1] w fun e w' => ∃ x, e = .returned (.tuple #[x, .int .i64 n]) ∧ RdX X w' t x ∧ Ext w w' := by
  obtain ⟨c0, c1, c2, c3, rfl, hA⟩ := h1
  refine (runiq_any _ a _ _ _ _ w hA).mono ?_
  rintro e w' ⟨e0, e1, e2, e3, rfl, hC, hE⟩
  rw [ex] at hC
  rw [en]
  exact ⟨_, rfl, RdX.new hC (fun b hb _ => hb.imp id (fun h => h.2)) hX, hE⟩
theorem uniq_plan2 {y : Arr} (he : uniqE y = 0) : ∃ (k : Int) (cn : Nat) (tl n : List Int) (it : List Arr) (fsh nums : List Int), uniqV y = .mk k ((cn : Int) :: tl) n it ∧ uniqV (.mk k ((cn : Int) :: tl) n it) = .mk k ((cn : Int) :: tl) n it ∧ uniqE (.mk k ((cn : Int) :: tl) n it) = 0 ∧ searchE y y = 0 ∧ searchV y y = .mk 1 fsh nums [] ∧ nums.length ≤ 65536 ∧ eqs nums nums.length = cn := by
  obtain ⟨k, tl, n, it, fsh, nums, h1, h2, h3, h4, h5, h6⟩ := uniq_plan he
  rw [h1] at h2 h3
  exact ⟨k, _, tl, n, it, fsh, nums, h1, h2, h3, h4, h5, h6, rfl⟩
theorem uniqE_01 (y : Arr) : uniqE y = 0 ∨ uniqE y = 1 := by
  unfold uniqE
  split
  · exact .inr rfl
  · exact .inl rfl

set_option maxRecDepth 100000 in
set_option maxHeartbeats 8000000 in
theorem seauniq_any (F : Nat → Prop) (y : Arr) (c0 c1 c2 c3 : Value) (w : World) (hy : ArrAt F w y c0 c1 c2 c3) :
    Calls Try.prog 15 #[.agg #[c0, c1, c2, c3]] w fun e w' => e = .returned (.bool true) ∧ Ext w w' := by
  obtain ⟨yk, ys, yn, yi⟩ := y
  have hy' := hy
  unfold ArrAt at hy'
  obtain ⟨rfl, hky, ⟨r1, n1, rfl, ⟨o1, o1', o1''⟩, i1⟩, ⟨r2, n2, rfl, ⟨o2, o2', o2''⟩, i2⟩, ⟨r3, n3, rfl, ⟨o3, o3', o3''⟩, i3⟩⟩ := hy'
  have HY := Lib.hid hy
  have HS := Lib.hid i1
  have HN := Lib.hid i2
  clear hy i1 i2 i3
  go_enter Try.func15, Try.ntmps15
  go_upto_region 1 with (fail)
  have hE0 : Ext w (w.alloc (.cells #[.int .i64 yk, .slice r1 ys.length n1, .slice r2 yn.length n2, .slice r3 yi.length n3] 26)) := (Ext.refl _).alloc _
  have hBY := box_new w (.int .i64 yk) (.slice r1 ys.length n1) (.slice r2 yn.length n2) (.slice r3 yi.length n3)
  have HAy := Lib.hid (HY.out.ext hE0)
  generalize w.alloc (.cells #[.int .i64 yk, .slice r1 ys.length n1, .slice r2 yn.length n2, .slice r3 yi.length n3] 26) = w1 at hE0 hBY HAy ⊢
  have HBy := Lib.hid hBY
  have HE := Lib.hid hE0
  clear hBY hE0 HY
  obtain ⟨s0, s1, s2, s3⟩ := HBy.out.cell
  go_wp2_with fail
  refine (small25_any _ _ _ _ _ _ w1 HAy.out).mono ?_
  rintro e w2 ⟨b1, rfl, hE1⟩
  replace HE := Lib.hid (HE.out.trans hE1)
  replace HBy := Lib.hid (HBy.out.ext hE1)
  replace HAy := Lib.hid (HAy.out.ext hE1)
  clear s0 s1 s2 s3 hE1
  cases b1 with
  | false =>
    go_wp2_with fail
    refine (slives_any _).mono ?_
    rintro e wl ⟨rfl, hEl⟩
    have hEz := HE.out.trans hEl
    go_wp2_with fail
    go_ret
    exact ⟨rfl, hEz⟩
  | true =>
  have HPLAN := Lib.hid (@uniq_plan2 (.mk yk ys yn yi))
  have HE01 := Lib.hid (uniqE_01 (.mk yk ys yn yi))
  obtain ⟨uv, huv⟩ : ∃ uv, uniqV (.mk yk ys yn yi) = uv := ⟨_, rfl⟩
  obtain ⟨ue, hue⟩ : ∃ ue, uniqE (.mk yk ys yn yi) = ue := ⟨_, rfl⟩
  rw [hue] at HPLAN HE01
  rw [huv] at HPLAN
  have HUV := Lib.hid huv
  have HUE := Lib.hid hue
  clear huv hue
  go_upto_region 3 with (fail)
  obtain ⟨sy0, sy1, sy2, sy3⟩ := HBy.out.cell
  go_wp2_with fail
  refine (suniq_at HUV.out HUE.out (RdX.old (X := fun _ => False) HAy.out (Ext.refl _) (fun _ h => False.elim h)) (fun _ h => False.elim h)).mono ?_
  rintro e wf2 ⟨x1, rfl, hx1, hEx1⟩
  clear sy0 sy1 sy2 sy3
  obtain ⟨c0, c1, c2, c3, rfl, hA9⟩ := hx1
  obtain ⟨ky3, pay3, lay3, may3, pby3, lby3, mby3, pcy3, lcy3, mcy3, rfl, rfl, rfl, rfl⟩ := hA9.form
  have hEn := (((Ext.refl w2).trans hEx1)).alloc (.cells #[(.int .i64 ky3), (.slice pay3 lay3 may3), (.slice pby3 lby3 mby3), (.slice pcy3 lcy3 mcy3)] 26)
  have hBn := box_new wf2 (.int .i64 ky3) (.slice pay3 lay3 may3) (.slice pby3 lby3 mby3) (.slice pcy3 lcy3 mcy3)
  have hAn := hA9.ext ((Ext.refl _).alloc (.cells #[(.int .i64 ky3), (.slice pay3 lay3 may3), (.slice pby3 lby3 mby3), (.slice pcy3 lcy3 mcy3)] 26))
  clear hA9 hEx1
  have HF := Lib.hid (And.intro hEn (And.intro hBn hAn))
  clear hEn hBn hAn
  go_upto_region 4 with (fail)
  obtain ⟨hEn, hBn, hAn⟩ := HF.out
  clear HF
  generalize hbz : wf2.heap.size = by3 at *
  clear hbz
  generalize wf2.alloc (.cells #[(.int .i64 ky3), (.slice pay3 lay3 may3), (.slice pby3 lby3 mby3), (.slice pcy3 lcy3 mcy3)] 26) = wk4 at *
  replace HBy := Lib.hid (HBy.out.ext hEn)
  replace HAy := Lib.hid (HAy.out.ext hEn)
  replace HE := Lib.hid (HE.out.trans (hEn))
  have HBa := Lib.hid hBn
  have HAa := Lib.hid hAn
  clear hEn hBn hAn
  obtain ⟨sy0, sy1, sy2, sy3⟩ := HBy.out.cell
  go_wp2_with fail
  refine (runiq_at HUV.out HUE.out (RdX.old (X := fun _ => False) HAy.out (Ext.refl _) (fun _ h => False.elim h)) (fun _ h => False.elim h)).mono ?_
  rintro e wf6 ⟨x5, rfl, hx5, hEx5⟩
  clear sy0 sy1 sy2 sy3
  obtain ⟨c0, c1, c2, c3, rfl, hA9⟩ := hx5
  obtain ⟨ky7, pay7, lay7, may7, pby7, lby7, mby7, pcy7, lcy7, mcy7, rfl, rfl, rfl, rfl⟩ := hA9.form
  have hEn := (((Ext.refl wk4).trans hEx5)).alloc (.cells #[(.int .i64 ky7), (.slice pay7 lay7 may7), (.slice pby7 lby7 mby7), (.slice pcy7 lcy7 mcy7)] 26)
  have hBn := box_new wf6 (.int .i64 ky7) (.slice pay7 lay7 may7) (.slice pby7 lby7 mby7) (.slice pcy7 lcy7 mcy7)
  have hAn := hA9.ext ((Ext.refl _).alloc (.cells #[(.int .i64 ky7), (.slice pay7 lay7 may7), (.slice pby7 lby7 mby7), (.slice pcy7 lcy7 mcy7)] 26))
  clear hA9 hEx5
  have HF := Lib.hid (And.intro hEn (And.intro hBn hAn))
  clear hEn hBn hAn
  go_upto_region 5 with (fail)
  obtain ⟨hEn, hBn, hAn⟩ := HF.out
  clear HF
  generalize hbz : wf6.heap.size = by7 at *
  clear hbz
  generalize wf6.alloc (.cells #[(.int .i64 ky7), (.slice pay7 lay7 may7), (.slice pby7 lby7 mby7), (.slice pcy7 lcy7 mcy7)] 26) = wk8 at *
  replace HBy := Lib.hid (HBy.out.ext hEn)
  replace HAy := Lib.hid (HAy.out.ext hEn)
  replace HBa := Lib.hid (HBa.out.ext hEn)
  replace HAa := Lib.hid (HAa.out.ext hEn)
  replace HE := Lib.hid (HE.out.trans (hEn))
  have HBb := Lib.hid hBn
  have HAb := Lib.hid hAn
  clear hEn hBn hAn
  obtain ⟨sa0, sa1, sa2, sa3⟩ := HBa.out.cell
  obtain ⟨sb0, sb1, sb2, sb3⟩ := HBb.out.cell
  go_wp2_with fail
  refine (same_true (Rd.mk HAa.out) (Rd.mk HAb.out) rfl rfl).mono ?_
  rintro e ws ⟨rfl, hEs⟩
  clear sa0 sa1 sa2 sa3 sb0 sb1 sb2 sb3
  replace HBy := Lib.hid (HBy.out.ext hEs)
  replace HAy := Lib.hid (HAy.out.ext hEs)
  replace HBa := Lib.hid (HBa.out.ext hEs)
  replace HAa := Lib.hid (HAa.out.ext hEs)
  replace HBb := Lib.hid (HBb.out.ext hEs)
  replace HAb := Lib.hid (HAb.out.ext hEs)
  replace HE := Lib.hid (HE.out.trans (hEs))
  clear hEs
  rcases HE01.out with hue | hue
  rotate_left
  · subst hue
    go_wp2_with fail
    refine (slives_any _).mono ?_
    rintro e wl ⟨rfl, hEl⟩
    have hEz := HE.out.trans hEl
    go_wp2_with fail
    go_ret
    exact ⟨rfl, hEz⟩
  subst hue
  obtain ⟨k, cn, tl, n, it, fsh, nums, e1, e2, e3, e4, e5, e6, e7⟩ := HPLAN.out rfl
  subst e1
  have HSV := Lib.hid e5
  have HSE := Lib.hid e4
  have HC1 := Lib.hid e2
  have HC2 := Lib.hid e3
  have HCN := Lib.hid e7
  clear e5 e4 e2 e3 e7 HPLAN HE01 HUV HUE
  obtain ⟨sa0, sa1, sa2, sa3⟩ := HBa.out.cell
  go_wp2_with fail
  refine (suniq_at HC1.out HC2.out (RdX.old (X := fun _ => False) HAa.out (Ext.refl _) (fun _ h => False.elim h)) (fun _ h => False.elim h)).mono ?_
  rintro e wf10 ⟨x9, rfl, hx9, hEx9⟩
  clear sa0 sa1 sa2 sa3
  obtain ⟨c0, c1, c2, c3, rfl, hA9⟩ := hx9
  obtain ⟨ky11, pay11, lay11, may11, pby11, lby11, mby11, pcy11, lcy11, mcy11, rfl, rfl, rfl, rfl⟩ := hA9.form
  have hEn := (((Ext.refl ws).trans hEx9)).alloc (.cells #[(.int .i64 ky11), (.slice pay11 lay11 may11), (.slice pby11 lby11 mby11), (.slice pcy11 lcy11 mcy11)] 26)
  have hBn := box_new wf10 (.int .i64 ky11) (.slice pay11 lay11 may11) (.slice pby11 lby11 mby11) (.slice pcy11 lcy11 mcy11)
  have hAn := hA9.ext ((Ext.refl _).alloc (.cells #[(.int .i64 ky11), (.slice pay11 lay11 may11), (.slice pby11 lby11 mby11), (.slice pcy11 lcy11 mcy11)] 26))
  clear hA9 hEx9
  have HF := Lib.hid (And.intro hEn (And.intro hBn hAn))
  clear hEn hBn hAn
  go_upto_region 10 with (fail)
  obtain ⟨hEn, hBn, hAn⟩ := HF.out
  clear HF
  generalize hbz : wf10.heap.size = by11 at *
  clear hbz
  generalize wf10.alloc (.cells #[(.int .i64 ky11), (.slice pay11 lay11 may11), (.slice pby11 lby11 mby11), (.slice pcy11 lcy11 mcy11)] 26) = wk12 at *
  replace HBy := Lib.hid (HBy.out.ext hEn)
  replace HAy := Lib.hid (HAy.out.ext hEn)
  replace HBa := Lib.hid (HBa.out.ext hEn)
  replace HAa := Lib.hid (HAa.out.ext hEn)
  replace HBb := Lib.hid (HBb.out.ext hEn)
  replace HAb := Lib.hid (HAb.out.ext hEn)
  replace HE := Lib.hid (HE.out.trans (hEn))
  have HBc := Lib.hid hBn
  have HAc := Lib.hid hAn
  clear hEn hBn hAn
  obtain ⟨sy0, sy1, sy2, sy3⟩ := HBy.out.cell
  go_wp2_with fail
  refine (sfind_at HSV.out HSE.out (RdX.old (X := fun _ => False) HAy.out (Ext.refl _) (fun _ h => False.elim h)) (RdX.old (X := fun _ => False) HAy.out (Ext.refl _) (fun _ h => False.elim h)) (fun _ h => False.elim h)).mono ?_
  rintro e wf14 ⟨x13, rfl, hx13, hEx13⟩
  clear sy0 sy1 sy2 sy3
  obtain ⟨c0, c1, c2, c3, rfl, hA9⟩ := hx13
  obtain ⟨ky15, pay15, lay15, may15, pby15, lby15, mby15, pcy15, lcy15, mcy15, rfl, rfl, rfl, rfl⟩ := hA9.form
  have hEn := (((Ext.refl wk12).trans hEx13)).alloc (.cells #[(.int .i64 ky15), (.slice pay15 lay15 may15), (.slice pby15 lby15 mby15), (.slice pcy15 lcy15 mcy15)] 26)
  have hBn := box_new wf14 (.int .i64 ky15) (.slice pay15 lay15 may15) (.slice pby15 lby15 mby15) (.slice pcy15 lcy15 mcy15)
  have hAn := hA9.ext ((Ext.refl _).alloc (.cells #[(.int .i64 ky15), (.slice pay15 lay15 may15), (.slice pby15 lby15 mby15), (.slice pcy15 lcy15 mcy15)] 26))
  clear hA9 hEx13
  have HF := Lib.hid (And.intro hEn (And.intro hBn hAn))
  clear hEn hBn hAn
  go_upto_region 11 with (fail)
  obtain ⟨hEn, hBn, hAn⟩ := HF.out
  clear HF
  generalize hbz : wf14.heap.size = by15 at *
  clear hbz
  generalize wf14.alloc (.cells #[(.int .i64 ky15), (.slice pay15 lay15 may15), (.slice pby15 lby15 mby15), (.slice pcy15 lcy15 mcy15)] 26) = wk16 at *
  replace HBy := Lib.hid (HBy.out.ext hEn)
  replace HAy := Lib.hid (HAy.out.ext hEn)
  replace HBa := Lib.hid (HBa.out.ext hEn)
  replace HAa := Lib.hid (HAa.out.ext hEn)
  replace HBb := Lib.hid (HBb.out.ext hEn)
  replace HAb := Lib.hid (HAb.out.ext hEn)
  replace HBc := Lib.hid (HBc.out.ext hEn)
  replace HAc := Lib.hid (HAc.out.ext hEn)
  replace HE := Lib.hid (HE.out.trans (hEn))
  have HBd := Lib.hid hBn
  have HAd := Lib.hid hAn
  clear hEn hBn hAn
  have haa := HAa.out
  have hac := HAd.out
  unfold ArrAt at haa hac
  obtain ⟨_, _, ⟨pz1, cz1, ez1, ⟨u1, u1', u1''⟩, ia⟩, _, _⟩ := haa
  obtain ⟨_, _, _, ⟨pz2, cz2, ez2, ⟨v1, v1', v1''⟩, ic⟩, _⟩ := hac
  simp only [Value.slice.injEq] at ez1 ez2
  obtain ⟨rfl, hla, rfl⟩ := ez1
  obtain ⟨rfl, hlc, rfl⟩ := ez2
  have HIA := Lib.hid ia
  have HIC := Lib.hid ic
  clear ia ic
  obtain ⟨nn, hnn⟩ : ∃ nn, nums.length = nn := ⟨_, rfl⟩
  obtain ⟨la, hln⟩ : ∃ la, ((cn : Int) :: tl).length = la := ⟨_, rfl⟩
  have hla0 : 0 < la := by rw [← hln]; simp
  have hlaI : decide ((0 : Int) < (la : Int)) = true := by simp; omega
  rw [hnn] at hlc v1 v1'' e6
  rw [hln] at hla u1 u1''
  have HNN := Lib.hid hnn
  clear hnn hln
  have hla2 := hla.symm
  have hlc2 := hlc.symm
  clear hla hlc
  subst hla2
  subst hlc2
  obtain ⟨sd0, sd1, sd2, sd3⟩ := HBd.out.cell
  have hcn6 : cn ≤ 65536 := by rw [← HCN.out, HNN.out]; exact Nat.le_trans (eqs_le nums nn) e6
  go_wp2_with fail
  go_loopw [11, 12] (fun nv iv wr => ∃ (i : Nat), iv = .int .i64 (i : Int) ∧ nv = .int .i64 ((eqs nums i : Nat) : Int) ∧ i ≤ nn ∧ wr = wk16) (fun _ iv _ => nn - (intOf iv).toNat)
  case atStart => exact ⟨0, rfl, rfl, Nat.zero_le _, rfl⟩
  case round =>
  obtain ⟨i, rfl, rfl, hin, hwr⟩ := hrel
  obtain ⟨wq, rfl⟩ : ∃ wx : World, wx = wk16 := ⟨_, rfl⟩
  subst hwr
  obtain ⟨e0, he0⟩ : ∃ e0, eqs nums i = e0 := ⟨_, rfl⟩
  have he6 : e0 ≤ 65536 := by have := eqs_le nums i; omega
  by_cases hlt : i < nn
  · obtain ⟨b2, f2, rfl, g2, _, _⟩ := HIC.out.get (i := i) (by rw [HNN.out]; exact hlt)
    have hst := Lib.hid (show eqs nums (i + 1) = if nums.getD i 0 = (i : Int) then eqs nums i + 1 else eqs nums i from rfl)
    rw [he0] at hst ⊢
    clear he0
    generalize nums.getD i 0 = q at *
    by_cases hq : q = (i : Int)
    · subst hq
      go_wp2_with fail
      go_roundw
      case rel => exact ⟨i + 1, by go_num, by rw [hst.out, if_pos rfl]; go_num, by omega, by first | rfl | trivial⟩
      case measure => simp [intOf]; omega
    · have hqI : (q == (i : Int)) = false := by simpa using hq
      go_wp2_with fail
      go_roundw
      case rel => exact ⟨i + 1, by go_num, by rw [hst.out, if_neg hq], by omega, by first | rfl | trivial⟩
      case measure => simp [intOf]; omega
  have hi2 : nn = i := by omega
  subst hi2
  have hec : e0 = cn := by rw [← he0, ← HCN.out, HNN.out]
  rw [he0, hec]
  clear he0 hec he6 sd0 sd1 sd2 sd3 e0
  obtain ⟨sa0, sa1, sa2, sa3⟩ := HBa.out.cell
  obtain ⟨sc0, sc1, sc2, sc3⟩ := HBc.out.cell
  obtain ⟨sd0, sd1, sd2, sd3⟩ := HBd.out.cell
  go_wp2_with fail
  refine (same_true (Rd.mk HAc.out) (Rd.mk HAa.out) rfl rfl).mono ?_
  rintro e wt ⟨rfl, hEt⟩
  clear sa0 sa1 sa2 sa3 sc0 sc1 sc2 sc3 sd0 sd1 sd2 sd3
  obtain ⟨sa0, sa1, sa2, sa3⟩ := (HBa.out.ext hEt).cell
  obtain ⟨b9, f9, rfl, hc9, _, _⟩ := (HIA.out.ext hEt).get (i := 0) (by simp)
  have hc99 : wt.cell? ⟨b9, f9, none⟩ = some (.int .i64 (cn : Int)) := by simpa using hc9
  clear hc9
  go_wp2_with fail
  refine (slives_any _).mono ?_
  rintro e wl ⟨rfl, hEl⟩
  have hEz := HE.out.trans (hEt.trans hEl)
  go_wp2_with fail
  go_ret
  exact ⟨rfl, hEz⟩
end Go.Proofs.Ytgkemmdghmklfaa
