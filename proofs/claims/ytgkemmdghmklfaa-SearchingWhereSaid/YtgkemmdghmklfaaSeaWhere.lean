/-
  THE WALK of law25.SearchingWhere. (Printed by gen_slaws.py.)
-/
import Derived.Test.YtgkemmdghmklfaaSAwk
import Derived.Test.YtgkemmdghmklfaaRWhere
namespace Go.Proofs.Ytgkemmdghmklfaa
set_option linter.unusedSimpArgs false
set_option linter.unusedVariables false
open Go.RowKit

theorem rwhere_at {X : Nat → Prop} {w : World} {a t : Arr} {n : Int} {v1 : Value} (ex : whereV a = (t, n)) (h1 : RdX X w a v1) (hX : ∀ b, X b → b < w.heap.size) : Calls Try.prog 67 #[v1] w fun e w' => ∃ x, e = .returned (.tuple #[x, .int .i64 n]) ∧ RdX X w' t x ∧ Ext w w' := by
  obtain ⟨c0, c1, c2, c3, rfl, hA⟩ := h1
  refine (rwhere_any _ a _ _ _ _ w hA).mono ?_
  rintro e w' ⟨e0, e1, e2, e3, rfl, hC, hE⟩
  rw [ex] at hC ⊢
  exact ⟨_, rfl, RdX.new hC (fun b hb _ => .inl hb) hX, hE⟩
set_option maxRecDepth 100000 in
set_option maxHeartbeats 8000000 in
theorem seawhere_any (F : Nat → Prop) (y : Arr) (c0 c1 c2 c3 : Value) (w : World) (hy : ArrAt F w y c0 c1 c2 c3) :
    Calls Try.prog 16 #[.agg #[c0, c1, c2, c3]] w fun e w' => e = .returned (.bool true) ∧ Ext w w' := by
  obtain ⟨yk, ys, yn, yi⟩ := y
  have hy' := hy
  unfold ArrAt at hy'
  obtain ⟨rfl, hky, ⟨r1, n1, rfl, ⟨o1, o1', o1''⟩, i1⟩, ⟨r2, n2, rfl, ⟨o2, o2', o2''⟩, i2⟩, ⟨r3, n3, rfl, ⟨o3, o3', o3''⟩, i3⟩⟩ := hy'
  have HY := Lib.hid hy
  have HS := Lib.hid i1
  have HN := Lib.hid i2
  clear hy i1 i2 i3
  go_enter Try.func16, Try.ntmps16
  go_upto_region 1 with (fail)
  have hE0 : Ext w (w.alloc (.cells #[.int .i64 yk, .slice r1 ys.length n1, .slice r2 yn.length n2, .slice r3 yi.length n3] 26)) := (Ext.refl _).alloc _
  have hBY := box_new w (.int .i64 yk) (.slice r1 ys.length n1) (.slice r2 yn.length n2) (.slice r3 yi.length n3)
  have HAy := Lib.hid (HY.out.ext hE0)
  generalize w.alloc (.cells #[.int .i64 yk, .slice r1 ys.length n1, .slice r2 yn.length n2, .slice r3 yi.length n3] 26) = w1 at hE0 hBY HAy ⊢
  have HBy := Lib.hid hBY
  have HE := Lib.hid hE0
  clear hBY hE0 HY
  obtain ⟨s0, s1, s2, s3⟩ := HBy.out.cell
  go_wp2_with fail
  refine (small25_any _ _ _ _ _ _ w1 HAy.out).mono ?_
  rintro e w2 ⟨b1, rfl, hE1⟩
  replace HE := Lib.hid (HE.out.trans hE1)
  replace HBy := Lib.hid (HBy.out.ext hE1)
  replace HAy := Lib.hid (HAy.out.ext hE1)
  clear s0 s1 s2 s3 hE1
  cases b1 with
  | false =>
    go_wp2_with fail
    refine (slives_any _).mono ?_
    rintro e wl ⟨rfl, hEl⟩
    have hEz := HE.out.trans hEl
    go_wp2_with fail
    go_ret
    exact ⟨rfl, hEz⟩
  | true =>
  obtain ⟨nl, hnl⟩ : ∃ nl, yn.length = nl := ⟨_, rfl⟩
  have HNL := Lib.hid hnl
  rw [hnl] at o2 o2'' HBy HAy ⊢
  clear hnl
  obtain ⟨s0, s1, s2, s3⟩ := HBy.out.cell
  go_wp2_with fail
  go_loopw [3, 4] (fun sv iv wr => ∃ (i : Nat) (sm : Int), i ≤ nl ∧ sv = .int .i64 sm ∧ iv = .int .i64 (i : Int) ∧ 0 ≤ sm ∧ sm ≤ 70000 ∧ wr = w2) (fun _ iv _ => nl - (intOf iv).toNat)
  case atStart => exact ⟨0, 0, Nat.zero_le _, rfl, rfl, by omega, by omega, rfl⟩
  case round =>
  obtain ⟨i, sm, hin, rfl, rfl, hs0, hs1, hwr⟩ := hrel
  obtain ⟨w2', rfl⟩ : ∃ wx : World, wx = w2 := ⟨_, rfl⟩
  subst hwr
  by_cases hlt : i < nl
  · obtain ⟨b, off, rfl, hc, hx0, hx1⟩ := (HN.out.ext HE.out).get (i := i) (by rw [HNL.out]; exact hlt)
    generalize yn.getD i 0 = x at *
    obtain ⟨a, ha⟩ : ∃ a, (if 70000 < x then (70000 : Int) else x) = a := ⟨_, rfl⟩
    have hab : -9223372036854775808 ≤ a ∧ a ≤ 70000 := by rw [← ha]; split <;> omega
    obtain ⟨a2, ha2⟩ : ∃ a2, (if 0 < a then a else 0) = a2 := ⟨_, rfl⟩
    have ha2b : 0 ≤ a2 ∧ a2 ≤ 70000 := by rw [← ha2]; split <;> omega
    obtain ⟨z, hz⟩ : ∃ z, (if 70000 < sm + a2 then (70000 : Int) else sm + a2) = z := ⟨_, rfl⟩
    have hzb : 0 ≤ z ∧ z ≤ 70000 := by rw [← hz]; split <;> omega
    have H1 := Lib.hid ha
    have H2 := Lib.hid ha2
    have H3 := Lib.hid hz
    clear ha ha2 hz
    by_cases hm : 500 < x
    · by_cases hm2 : x < 64000
      · have hmI : decide (500 < x) = true := by simpa using hm
        have hm2I : decide (x < 64000) = true := by simpa using hm2
        go_wp2_with fail
        refine (slives_any _).mono ?_
        rintro e wl ⟨rfl, hEl⟩
        have hEz := HE.out.trans hEl
        go_wp2_with fail
        go_ret
        exact ⟨rfl, hEz⟩
      · have hmI : decide (500 < x) = true := by simpa using hm
        have hm2I : decide (x < 64000) = false := by simpa using hm2
        go_wp2_with fail
        (try rw [H1.out])
        (try rw [H2.out])
        (try rw [H3.out])
        go_roundw
        case rel => exact ⟨i + 1, z, by omega, by first | rfl | rw [H1.out, H2.out, H3.out] | exact congrArg (Value.int .i64) (by have h1 := H1.out; have h2 := H2.out; have h3 := H3.out; omega), by go_num, hzb.1, hzb.2, by first | rfl | trivial⟩
        case measure => simp [intOf]; omega
    · have hmI : decide (500 < x) = false := by simpa using hm
      go_wp2_with fail
      (try rw [H1.out])
      (try rw [H2.out])
      (try rw [H3.out])
      go_roundw
      case rel => exact ⟨i + 1, z, by omega, by first | rfl | rw [H1.out, H2.out, H3.out] | exact congrArg (Value.int .i64) (by have h1 := H1.out; have h2 := H2.out; have h3 := H3.out; omega), by go_num, hzb.1, hzb.2, by first | rfl | trivial⟩
      case measure => simp [intOf]; omega
  have hi2 : nl = i := by omega
  subst hi2
  by_cases hm : 3000 < sm
  · by_cases hm2 : sm < 65000
    · have hmI : decide (3000 < sm) = true := by simpa using hm
      have hm2I : decide (sm < 65000) = true := by simpa using hm2
      go_wp2_with fail
      refine (slives_any _).mono ?_
      rintro e wl ⟨rfl, hEl⟩
      have hEz := HE.out.trans hEl
      go_wp2_with fail
      go_ret
      exact ⟨rfl, hEz⟩
    · have hmI : decide (3000 < sm) = true := by simpa using hm
      have hm2I : decide (sm < 65000) = false := by simpa using hm2
      rcases hwv : whereV (.mk yk ys yn yi) with ⟨sv, se⟩
      have HSV := Lib.hid hwv
      clear hwv
      go_upto_region 12 with (fail)
      clear s0 s1 s2 s3
      obtain ⟨sy0, sy1, sy2, sy3⟩ := HBy.out.cell
      go_wp2_with fail
      refine (swhere_at HSV.out (RdX.old (X := fun _ => False) HAy.out (Ext.refl _) (fun _ h => False.elim h)) (fun _ h => False.elim h)).mono ?_
      rintro e wf2 ⟨x1, rfl, hx1, hEx1⟩
      clear sy0 sy1 sy2 sy3
      obtain ⟨c0, c1, c2, c3, rfl, hA9⟩ := hx1
      obtain ⟨ky3, pay3, lay3, may3, pby3, lby3, mby3, pcy3, lcy3, mcy3, rfl, rfl, rfl, rfl⟩ := hA9.form
      have hEn := (((Ext.refl wr).trans hEx1)).alloc (.cells #[(.int .i64 ky3), (.slice pay3 lay3 may3), (.slice pby3 lby3 mby3), (.slice pcy3 lcy3 mcy3)] 26)
      have hBn := box_new wf2 (.int .i64 ky3) (.slice pay3 lay3 may3) (.slice pby3 lby3 mby3) (.slice pcy3 lcy3 mcy3)
      have hAn := hA9.ext ((Ext.refl _).alloc (.cells #[(.int .i64 ky3), (.slice pay3 lay3 may3), (.slice pby3 lby3 mby3), (.slice pcy3 lcy3 mcy3)] 26))
      clear hA9 hEx1
      have HF := Lib.hid (And.intro hEn (And.intro hBn hAn))
      clear hEn hBn hAn
      go_upto_region 13 with (fail)
      obtain ⟨hEn, hBn, hAn⟩ := HF.out
      clear HF
      generalize hbz : wf2.heap.size = by3 at *
      clear hbz
      generalize wf2.alloc (.cells #[(.int .i64 ky3), (.slice pay3 lay3 may3), (.slice pby3 lby3 mby3), (.slice pcy3 lcy3 mcy3)] 26) = wk4 at *
      replace HBy := Lib.hid (HBy.out.ext hEn)
      replace HAy := Lib.hid (HAy.out.ext hEn)
      replace HE := Lib.hid (HE.out.trans (hEn))
      have HBa := Lib.hid hBn
      have HAa := Lib.hid hAn
      clear hEn hBn hAn
      obtain ⟨sy0, sy1, sy2, sy3⟩ := HBy.out.cell
      go_wp2_with fail
      refine (rwhere_at HSV.out (RdX.old (X := fun _ => False) HAy.out (Ext.refl _) (fun _ h => False.elim h)) (fun _ h => False.elim h)).mono ?_
      rintro e wf6 ⟨x5, rfl, hx5, hEx5⟩
      clear sy0 sy1 sy2 sy3
      obtain ⟨c0, c1, c2, c3, rfl, hA9⟩ := hx5
      obtain ⟨ky7, pay7, lay7, may7, pby7, lby7, mby7, pcy7, lcy7, mcy7, rfl, rfl, rfl, rfl⟩ := hA9.form
      have hEn := (((Ext.refl wk4).trans hEx5)).alloc (.cells #[(.int .i64 ky7), (.slice pay7 lay7 may7), (.slice pby7 lby7 mby7), (.slice pcy7 lcy7 mcy7)] 26)
      have hBn := box_new wf6 (.int .i64 ky7) (.slice pay7 lay7 may7) (.slice pby7 lby7 mby7) (.slice pcy7 lcy7 mcy7)
      have hAn := hA9.ext ((Ext.refl _).alloc (.cells #[(.int .i64 ky7), (.slice pay7 lay7 may7), (.slice pby7 lby7 mby7), (.slice pcy7 lcy7 mcy7)] 26))
      clear hA9 hEx5
      have HF := Lib.hid (And.intro hEn (And.intro hBn hAn))
      clear hEn hBn hAn
      go_upto_region 14 with (fail)
      obtain ⟨hEn, hBn, hAn⟩ := HF.out
      clear HF
      generalize hbz : wf6.heap.size = by7 at *
      clear hbz
      generalize wf6.alloc (.cells #[(.int .i64 ky7), (.slice pay7 lay7 may7), (.slice pby7 lby7 mby7), (.slice pcy7 lcy7 mcy7)] 26) = wk8 at *
      replace HBy := Lib.hid (HBy.out.ext hEn)
      replace HAy := Lib.hid (HAy.out.ext hEn)
      replace HBa := Lib.hid (HBa.out.ext hEn)
      replace HAa := Lib.hid (HAa.out.ext hEn)
      replace HE := Lib.hid (HE.out.trans (hEn))
      have HBb := Lib.hid hBn
      have HAb := Lib.hid hAn
      clear hEn hBn hAn
      obtain ⟨sa0, sa1, sa2, sa3⟩ := HBa.out.cell
      obtain ⟨sb0, sb1, sb2, sb3⟩ := HBb.out.cell
      go_wp2_with fail
      refine (same_true (Rd.mk HAa.out) (Rd.mk HAb.out) rfl rfl).mono ?_
      rintro e ws ⟨rfl, hEs⟩
      replace HE := Lib.hid (HE.out.trans hEs)
      clear hEs sa0 sa1 sa2 sa3 sb0 sb1 sb2 sb3
      go_wp2_with fail
      refine (slives_any _).mono ?_
      rintro e wl ⟨rfl, hEl⟩
      have hEz := HE.out.trans hEl
      go_wp2_with fail
      go_ret
      exact ⟨rfl, hEz⟩
  · have hmI : decide (3000 < sm) = false := by simpa using hm
    rcases hwv : whereV (.mk yk ys yn yi) with ⟨sv, se⟩
    have HSV := Lib.hid hwv
    clear hwv
    go_upto_region 12 with (fail)
    clear s0 s1 s2 s3
    obtain ⟨sy0, sy1, sy2, sy3⟩ := HBy.out.cell
    go_wp2_with fail
    refine (swhere_at HSV.out (RdX.old (X := fun _ => False) HAy.out (Ext.refl _) (fun _ h => False.elim h)) (fun _ h => False.elim h)).mono ?_
    rintro e wf2 ⟨x1, rfl, hx1, hEx1⟩
    clear sy0 sy1 sy2 sy3
    obtain ⟨c0, c1, c2, c3, rfl, hA9⟩ := hx1
    obtain ⟨ky3, pay3, lay3, may3, pby3, lby3, mby3, pcy3, lcy3, mcy3, rfl, rfl, rfl, rfl⟩ := hA9.form
    have hEn := (((Ext.refl wr).trans hEx1)).alloc (.cells #[(.int .i64 ky3), (.slice pay3 lay3 may3), (.slice pby3 lby3 mby3), (.slice pcy3 lcy3 mcy3)] 26)
    have hBn := box_new wf2 (.int .i64 ky3) (.slice pay3 lay3 may3) (.slice pby3 lby3 mby3) (.slice pcy3 lcy3 mcy3)
    have hAn := hA9.ext ((Ext.refl _).alloc (.cells #[(.int .i64 ky3), (.slice pay3 lay3 may3), (.slice pby3 lby3 mby3), (.slice pcy3 lcy3 mcy3)] 26))
    clear hA9 hEx1
    have HF := Lib.hid (And.intro hEn (And.intro hBn hAn))
    clear hEn hBn hAn
    go_upto_region 13 with (fail)
    obtain ⟨hEn, hBn, hAn⟩ := HF.out
    clear HF
    generalize hbz : wf2.heap.size = by3 at *
    clear hbz
    generalize wf2.alloc (.cells #[(.int .i64 ky3), (.slice pay3 lay3 may3), (.slice pby3 lby3 mby3), (.slice pcy3 lcy3 mcy3)] 26) = wk4 at *
    replace HBy := Lib.hid (HBy.out.ext hEn)
    replace HAy := Lib.hid (HAy.out.ext hEn)
    replace HE := Lib.hid (HE.out.trans (hEn))
    have HBa := Lib.hid hBn
    have HAa := Lib.hid hAn
    clear hEn hBn hAn
    obtain ⟨sy0, sy1, sy2, sy3⟩ := HBy.out.cell
    go_wp2_with fail
    refine (rwhere_at HSV.out (RdX.old (X := fun _ => False) HAy.out (Ext.refl _) (fun _ h => False.elim h)) (fun _ h => False.elim h)).mono ?_
    rintro e wf6 ⟨x5, rfl, hx5, hEx5⟩
    clear sy0 sy1 sy2 sy3
    obtain ⟨c0, c1, c2, c3, rfl, hA9⟩ := hx5
    obtain ⟨ky7, pay7, lay7, may7, pby7, lby7, mby7, pcy7, lcy7, mcy7, rfl, rfl, rfl, rfl⟩ := hA9.form
    have hEn := (((Ext.refl wk4).trans hEx5)).alloc (.cells #[(.int .i64 ky7), (.slice pay7 lay7 may7), (.slice pby7 lby7 mby7), (.slice pcy7 lcy7 mcy7)] 26)
    have hBn := box_new wf6 (.int .i64 ky7) (.slice pay7 lay7 may7) (.slice pby7 lby7 mby7) (.slice pcy7 lcy7 mcy7)
    have hAn := hA9.ext ((Ext.refl _).alloc (.cells #[(.int .i64 ky7), (.slice pay7 lay7 may7), (.slice pby7 lby7 mby7), (.slice pcy7 lcy7 mcy7)] 26))
    clear hA9 hEx5
    have HF := Lib.hid (And.intro hEn (And.intro hBn hAn))
    clear hEn hBn hAn
    go_upto_region 14 with (fail)
    obtain ⟨hEn, hBn, hAn⟩ := HF.out
    clear HF
    generalize hbz : wf6.heap.size = by7 at *
    clear hbz
    generalize wf6.alloc (.cells #[(.int .i64 ky7), (.slice pay7 lay7 may7), (.slice pby7 lby7 mby7), (.slice pcy7 lcy7 mcy7)] 26) = wk8 at *
    replace HBy := Lib.hid (HBy.out.ext hEn)
    replace HAy := Lib.hid (HAy.out.ext hEn)
    replace HBa := Lib.hid (HBa.out.ext hEn)
    replace HAa := Lib.hid (HAa.out.ext hEn)
    replace HE := Lib.hid (HE.out.trans (hEn))
    have HBb := Lib.hid hBn
    have HAb := Lib.hid hAn
    clear hEn hBn hAn
    obtain ⟨sa0, sa1, sa2, sa3⟩ := HBa.out.cell
    obtain ⟨sb0, sb1, sb2, sb3⟩ := HBb.out.cell
    go_wp2_with fail
    refine (same_true (Rd.mk HAa.out) (Rd.mk HAb.out) rfl rfl).mono ?_
    rintro e ws ⟨rfl, hEs⟩
    replace HE := Lib.hid (HE.out.trans hEs)
    clear hEs sa0 sa1 sa2 sa3 sb0 sb1 sb2 sb3
    go_wp2_with fail
    refine (slives_any _).mono ?_
    rintro e wl ⟨rfl, hEl⟩
    have hEz := HE.out.trans hEl
    go_wp2_with fail
    go_ret
    exact ⟨rfl, hEz⟩
end Go.Proofs.Ytgkemmdghmklfaa
