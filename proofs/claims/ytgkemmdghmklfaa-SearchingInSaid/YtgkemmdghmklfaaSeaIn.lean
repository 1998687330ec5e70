/-
  THE WALK of law25.SearchingIn. (Printed by gen_slaws.py.)
-/
import Derived.Test.YtgkemmdghmklfaaSAwk
import Derived.Test.YtgkemmdghmklfaaRIn
namespace Go.Proofs.Ytgkemmdghmklfaa
set_option linter.unusedSimpArgs false
set_option linter.unusedVariables false
open Go.RowKit

theorem rin_at {X : Nat → Prop} {w : World} {a b t : Arr} {n : Int} {v1 v2 : Value} (ex : inV a b = t) (en : searchE b a = n) (h1 : RdX X w a v1) (h2 : RdX X w b v2) (hX : ∀ b, X b → b < w.heap.size) : Calls Try.prog 63 #[v1, v2] w fun e w' => ∃ x, e = .returned (.tuple #[x, .int .i64 n]) ∧ RdX X w' t x ∧ Ext w w' := by
  obtain ⟨c0, c1, c2, c3, rfl, hA⟩ := h1
  obtain ⟨d0, d1, d2, d3, rfl, hB⟩ := h2
  refine (rin_any _ _ a b _ _ _ _ _ _ _ _ w hA hB).mono ?_
  rintro e w' ⟨e0, e1, e2, e3, rfl, hC, hE⟩
  rw [ex] at hC
  rw [en]
  exact ⟨_, rfl, RdX.new hC.arrB (fun b hb _ => .inl hb) hX, hE⟩
def nY : List Int → Int
  | [] => 1
  | d :: _ => d
theorem nY_eq {x y : Arr} (h : searchE y x = 0) : (searchN y x : Int) = nY y.sh := by
  have hr : rightV y = 0 := by
    unfold searchE at h
    by_cases hy : rightV y = 0
    · exact hy
    · rw [if_pos (.inl hy)] at h; cases h
  have hN : searchN y x = (cellsV y (-1)).length := by unfold searchN; rw [if_neg (by rw [h]; decide)]
  obtain ⟨f, c, z, ok⟩ := cells_ok hr (-1)
  rw [hN, ok.ce, List.length_map, List.length_range]
  have hrk := ok.rk
  have hsc := ok.sc
  have hf := ok.hf
  obtain ⟨k, s, n, it⟩ := y
  obtain ⟨hk, h8, hrr, _, _⟩ := right_parts hr
  simp only [Arr.sh] at *
  cases s with
  | nil =>
    have : f = 0 := by simpa using hf
    subst this
    rw [← hsc]
    decide
  | cons d r =>
    have hf1 : f = 1 := by
      unfold rankV at hrk
      have hl : (0 : Int) < ((d :: r).length : Int) := by simp only [List.length_cons]; omega
      rw [if_neg (by omega), if_pos (by omega), if_neg (by omega)] at hrk
      omega
    subst hf1
    rw [← hsc, size_prodA (rightGo_take (d :: r) 1 1 hrr) (by simp)]
    simp only [List.take_succ_cons, List.take_zero, prodA, nY]
    split <;> omega
theorem zero_nums {x y : Arr} {k : Int} {sh nums : List Int} {its : List Arr} (h : searchV y x = .mk k sh nums its) (hn : 0 < nums.length) : searchE y x = 0 := by
  by_cases he : searchE y x = 0
  · exact he
  · unfold searchV at h
    rw [if_pos he] at h
    unfold Arr.zero at h
    cases h
    simp at hn
theorem inV_at {x y : Arr} {k : Int} {sh nums : List Int} {its : List Arr} (h : searchV y x = .mk k sh nums its) : inV x y = .mk k sh (nums.map (inF (searchN y x))) its := by
  unfold inV; rw [h]

set_option maxRecDepth 100000 in
set_option maxHeartbeats 8000000 in
theorem seain_any (F G : Nat → Prop) (x y : Arr) (c0 c1 c2 c3 d0 d1 d2 d3 : Value) (w : World) (hx : ArrAt F w x c0 c1 c2 c3) (hy : ArrAt G w y d0 d1 d2 d3) :
    Calls Try.prog 14 #[.agg #[c0, c1, c2, c3], .agg #[d0, d1, d2, d3]] w fun e w' => e = .returned (.bool true) ∧ Ext w w' := by
  have hx' := hx
  have hy' := hy
  obtain ⟨kx, q1, sx, m1, q2, nx, m2, q3, ix, m3, rfl, rfl, rfl, rfl⟩ := hx'.form
  obtain ⟨ky, r1, sy, n1, r2, ny, n2, r3, iy, n3, rfl, rfl, rfl, rfl⟩ := hy'.form
  have HX := Lib.hid hx
  have HY := Lib.hid hy
  clear hx hy hx' hy'
  go_enter Try.func14, Try.ntmps14
  go_upto_region 1 with (fail)
  have hE0 : Ext w ((w.alloc (.cells #[.int .i64 kx, .slice q1 sx m1, .slice q2 nx m2, .slice q3 ix m3] 26)).alloc (.cells #[.int .i64 ky, .slice r1 sy n1, .slice r2 ny n2, .slice r3 iy n3] 26)) := ((Ext.refl _).alloc _).alloc _
  have hBX := (box_new w (.int .i64 kx) (.slice q1 sx m1) (.slice q2 nx m2) (.slice q3 ix m3)).ext ((Ext.refl _).alloc (.cells #[.int .i64 ky, .slice r1 sy n1, .slice r2 ny n2, .slice r3 iy n3] 26))
  have hBY := box_new (w.alloc (.cells #[.int .i64 kx, .slice q1 sx m1, .slice q2 nx m2, .slice q3 ix m3] 26)) (.int .i64 ky) (.slice r1 sy n1) (.slice r2 ny n2) (.slice r3 iy n3)
  rw [World.size_alloc] at hBY
  have HAx := Lib.hid (HX.out.ext hE0)
  have HAy := Lib.hid (HY.out.ext hE0)
  generalize ((w.alloc (.cells #[.int .i64 kx, .slice q1 sx m1, .slice q2 nx m2, .slice q3 ix m3] 26)).alloc (.cells #[.int .i64 ky, .slice r1 sy n1, .slice r2 ny n2, .slice r3 iy n3] 26)) = w1 at hE0 hBX hBY HAx HAy ⊢
  have HBx := Lib.hid hBX
  have HBy := Lib.hid hBY
  have HE := Lib.hid hE0
  clear hBX hBY hE0 HX HY
  obtain ⟨s0, s1, s2, s3⟩ := HBx.out.cell
  go_wp2_with fail
  refine (small25_any _ _ _ _ _ _ w1 HAx.out).mono ?_
  rintro e w2 ⟨b1, rfl, hE1⟩
  replace HE := Lib.hid (HE.out.trans hE1)
  replace HBx := Lib.hid (HBx.out.ext hE1)
  replace HBy := Lib.hid (HBy.out.ext hE1)
  replace HAx := Lib.hid (HAx.out.ext hE1)
  replace HAy := Lib.hid (HAy.out.ext hE1)
  clear s0 s1 s2 s3 hE1
  obtain ⟨t0, t1, t2, t3⟩ := HBy.out.cell
  cases b1 with
  | false =>
    go_wp2_with fail
    refine (slives_any _).mono ?_
    rintro e wl ⟨rfl, hEl⟩
    have hEz := HE.out.trans hEl
    go_wp2_with fail
    go_ret
    exact ⟨rfl, hEz⟩
  | true =>
  go_wp2_with fail
  refine (small25_any _ _ _ _ _ _ w2 HAy.out).mono ?_
  rintro e w3 ⟨b1, rfl, hE1⟩
  replace HE := Lib.hid (HE.out.trans hE1)
  replace HBx := Lib.hid (HBx.out.ext hE1)
  replace HBy := Lib.hid (HBy.out.ext hE1)
  replace HAx := Lib.hid (HAx.out.ext hE1)
  replace HAy := Lib.hid (HAy.out.ext hE1)
  clear t0 t1 t2 t3 hE1
  cases b1 with
  | false =>
    go_wp2_with fail
    refine (slives_any _).mono ?_
    rintro e wl ⟨rfl, hEl⟩
    have hEz := HE.out.trans hEl
    go_wp2_with fail
    go_ret
    exact ⟨rfl, hEz⟩
  | true =>
  rcases hsv : searchV y x with ⟨sk, ssh, nums, sit⟩
  obtain ⟨se, hse⟩ : ∃ se, searchE y x = se := ⟨_, rfl⟩
  have HIV := Lib.hid (inV_at hsv)
  have HZN : Hid (0 < nums.length → (searchN y x : Int) = nY y.sh) := fun h => nY_eq (zero_nums hsv h)
  have HSV := Lib.hid hsv
  have HSE := Lib.hid hse
  obtain ⟨sn, hsn⟩ : ∃ sn, searchN y x = sn := ⟨_, rfl⟩
  rw [hsn] at HIV HZN
  clear hsv hse hsn
  go_upto_region 3 with (fail)
  obtain ⟨sx0, sx1, sx2, sx3⟩ := HBx.out.cell
  obtain ⟨sy0, sy1, sy2, sy3⟩ := HBy.out.cell
  go_wp2_with fail
  refine (sin_at HIV.out HSE.out (RdX.old (X := fun _ => False) HAx.out (Ext.refl _) (fun _ h => False.elim h)) (RdX.old (X := fun _ => False) HAy.out (Ext.refl _) (fun _ h => False.elim h)) (fun _ h => False.elim h)).mono ?_
  rintro e wf2 ⟨x1, rfl, hx1, hEx1⟩
  clear sx0 sx1 sx2 sx3 sy0 sy1 sy2 sy3
  obtain ⟨c0, c1, c2, c3, rfl, hA9⟩ := hx1
  obtain ⟨ky3, pay3, lay3, may3, pby3, lby3, mby3, pcy3, lcy3, mcy3, rfl, rfl, rfl, rfl⟩ := hA9.form
  have hEn := (((Ext.refl w3).trans hEx1)).alloc (.cells #[(.int .i64 ky3), (.slice pay3 lay3 may3), (.slice pby3 lby3 mby3), (.slice pcy3 lcy3 mcy3)] 26)
  have hBn := box_new wf2 (.int .i64 ky3) (.slice pay3 lay3 may3) (.slice pby3 lby3 mby3) (.slice pcy3 lcy3 mcy3)
  have hAn := hA9.ext ((Ext.refl _).alloc (.cells #[(.int .i64 ky3), (.slice pay3 lay3 may3), (.slice pby3 lby3 mby3), (.slice pcy3 lcy3 mcy3)] 26))
  clear hA9 hEx1
  have HF := Lib.hid (And.intro hEn (And.intro hBn hAn))
  clear hEn hBn hAn
  go_upto_region 4 with (fail)
  obtain ⟨hEn, hBn, hAn⟩ := HF.out
  clear HF
  generalize hbz : wf2.heap.size = by3 at *
  clear hbz
  generalize wf2.alloc (.cells #[(.int .i64 ky3), (.slice pay3 lay3 may3), (.slice pby3 lby3 mby3), (.slice pcy3 lcy3 mcy3)] 26) = wk4 at *
  replace HBx := Lib.hid (HBx.out.ext hEn)
  replace HAx := Lib.hid (HAx.out.ext hEn)
  replace HBy := Lib.hid (HBy.out.ext hEn)
  replace HAy := Lib.hid (HAy.out.ext hEn)
  replace HE := Lib.hid (HE.out.trans (hEn))
  have HBa := Lib.hid hBn
  have HAa := Lib.hid hAn
  clear hEn hBn hAn
  obtain ⟨sx0, sx1, sx2, sx3⟩ := HBx.out.cell
  obtain ⟨sy0, sy1, sy2, sy3⟩ := HBy.out.cell
  go_wp2_with fail
  refine (rin_at HIV.out HSE.out (RdX.old (X := fun _ => False) HAx.out (Ext.refl _) (fun _ h => False.elim h)) (RdX.old (X := fun _ => False) HAy.out (Ext.refl _) (fun _ h => False.elim h)) (fun _ h => False.elim h)).mono ?_
  rintro e wf6 ⟨x5, rfl, hx5, hEx5⟩
  clear sx0 sx1 sx2 sx3 sy0 sy1 sy2 sy3
  obtain ⟨c0, c1, c2, c3, rfl, hA9⟩ := hx5
  obtain ⟨ky7, pay7, lay7, may7, pby7, lby7, mby7, pcy7, lcy7, mcy7, rfl, rfl, rfl, rfl⟩ := hA9.form
  have hEn := (((Ext.refl wk4).trans hEx5)).alloc (.cells #[(.int .i64 ky7), (.slice pay7 lay7 may7), (.slice pby7 lby7 mby7), (.slice pcy7 lcy7 mcy7)] 26)
  have hBn := box_new wf6 (.int .i64 ky7) (.slice pay7 lay7 may7) (.slice pby7 lby7 mby7) (.slice pcy7 lcy7 mcy7)
  have hAn := hA9.ext ((Ext.refl _).alloc (.cells #[(.int .i64 ky7), (.slice pay7 lay7 may7), (.slice pby7 lby7 mby7), (.slice pcy7 lcy7 mcy7)] 26))
  clear hA9 hEx5
  have HF := Lib.hid (And.intro hEn (And.intro hBn hAn))
  clear hEn hBn hAn
  go_upto_region 5 with (fail)
  obtain ⟨hEn, hBn, hAn⟩ := HF.out
  clear HF
  generalize hbz : wf6.heap.size = by7 at *
  clear hbz
  generalize wf6.alloc (.cells #[(.int .i64 ky7), (.slice pay7 lay7 may7), (.slice pby7 lby7 mby7), (.slice pcy7 lcy7 mcy7)] 26) = wk8 at *
  replace HBx := Lib.hid (HBx.out.ext hEn)
  replace HAx := Lib.hid (HAx.out.ext hEn)
  replace HBy := Lib.hid (HBy.out.ext hEn)
  replace HAy := Lib.hid (HAy.out.ext hEn)
  replace HBa := Lib.hid (HBa.out.ext hEn)
  replace HAa := Lib.hid (HAa.out.ext hEn)
  replace HE := Lib.hid (HE.out.trans (hEn))
  have HBb := Lib.hid hBn
  have HAb := Lib.hid hAn
  clear hEn hBn hAn
  obtain ⟨sy0, sy1, sy2, sy3⟩ := HBy.out.cell
  obtain ⟨sx0, sx1, sx2, sx3⟩ := HBx.out.cell
  go_wp2_with fail
  refine (sfind_at HSV.out HSE.out (RdX.old (X := fun _ => False) HAy.out (Ext.refl _) (fun _ h => False.elim h)) (RdX.old (X := fun _ => False) HAx.out (Ext.refl _) (fun _ h => False.elim h)) (fun _ h => False.elim h)).mono ?_
  rintro e wf10 ⟨x9, rfl, hx9, hEx9⟩
  clear sy0 sy1 sy2 sy3 sx0 sx1 sx2 sx3
  obtain ⟨c0, c1, c2, c3, rfl, hA9⟩ := hx9
  obtain ⟨ky11, pay11, lay11, may11, pby11, lby11, mby11, pcy11, lcy11, mcy11, rfl, rfl, rfl, rfl⟩ := hA9.form
  have hEn := (((Ext.refl wk8).trans hEx9)).alloc (.cells #[(.int .i64 ky11), (.slice pay11 lay11 may11), (.slice pby11 lby11 mby11), (.slice pcy11 lcy11 mcy11)] 26)
  have hBn := box_new wf10 (.int .i64 ky11) (.slice pay11 lay11 may11) (.slice pby11 lby11 mby11) (.slice pcy11 lcy11 mcy11)
  have hAn := hA9.ext ((Ext.refl _).alloc (.cells #[(.int .i64 ky11), (.slice pay11 lay11 may11), (.slice pby11 lby11 mby11), (.slice pcy11 lcy11 mcy11)] 26))
  clear hA9 hEx9
  have HF := Lib.hid (And.intro hEn (And.intro hBn hAn))
  clear hEn hBn hAn
  go_upto_region 6 with (fail)
  obtain ⟨hEn, hBn, hAn⟩ := HF.out
  clear HF
  generalize hbz : wf10.heap.size = by11 at *
  clear hbz
  generalize wf10.alloc (.cells #[(.int .i64 ky11), (.slice pay11 lay11 may11), (.slice pby11 lby11 mby11), (.slice pcy11 lcy11 mcy11)] 26) = wk12 at *
  replace HBx := Lib.hid (HBx.out.ext hEn)
  replace HAx := Lib.hid (HAx.out.ext hEn)
  replace HBy := Lib.hid (HBy.out.ext hEn)
  replace HAy := Lib.hid (HAy.out.ext hEn)
  replace HBa := Lib.hid (HBa.out.ext hEn)
  replace HAa := Lib.hid (HAa.out.ext hEn)
  replace HBb := Lib.hid (HBb.out.ext hEn)
  replace HAb := Lib.hid (HAb.out.ext hEn)
  replace HE := Lib.hid (HE.out.trans (hEn))
  have HBc := Lib.hid hBn
  have HAc := Lib.hid hAn
  clear hEn hBn hAn
  have haa := HAa.out
  have hac := HAc.out
  unfold ArrAt at haa hac
  obtain ⟨_, _, _, ⟨pz1, cz1, ez1, ⟨u1, u1', u1''⟩, ia⟩, _⟩ := haa
  obtain ⟨_, _, _, ⟨pz2, cz2, ez2, ⟨v1, v1', v1''⟩, ic⟩, _⟩ := hac
  rw [List.length_map] at ez1 u1 u1''
  simp only [Value.slice.injEq] at ez1 ez2
  obtain ⟨rfl, hla, rfl⟩ := ez1
  obtain ⟨rfl, hlc, rfl⟩ := ez2
  have HIA := Lib.hid ia
  have HIC := Lib.hid ic
  clear ia ic
  obtain ⟨nn, hnn⟩ : ∃ nn, nums.length = nn := ⟨_, rfl⟩
  rw [hnn] at hla hlc u1 u1'' v1 v1''
  have HNN := Lib.hid hnn
  clear hnn
  have hla2 := hla.symm
  have hlc2 := hlc.symm
  clear hla hlc
  subst hla2
  subst hlc2
  have hay := HAy.out
  obtain ⟨yk, ys, yn, yi⟩ := y
  unfold ArrAt at hay
  obtain ⟨_, _, ⟨p9, c9, e9, ⟨w1, w1', w1''⟩, i9⟩, _, _⟩ := hay
  simp only [Value.slice.injEq] at e9
  obtain ⟨rfl, h9, rfl⟩ := e9
  have HYS := Lib.hid i9
  clear i9
  obtain ⟨yl, hyl⟩ : ∃ yl, ys.length = yl := ⟨_, rfl⟩
  rw [hyl] at h9 w1 w1''
  have h92 := h9.symm
  clear h9
  subst h92
  have HYL := Lib.hid hyl
  clear hyl
  simp only [Arr.sh] at HZN
  obtain ⟨sa0, sa1, sa2, sa3⟩ := HBa.out.cell
  obtain ⟨sb0, sb1, sb2, sb3⟩ := HBb.out.cell
  obtain ⟨sc0, sc1, sc2, sc3⟩ := HBc.out.cell
  go_wp2_with fail
  refine (same_true (Rd.mk HAa.out) (Rd.mk HAb.out) rfl rfl).mono ?_
  rintro e ws ⟨rfl, hEs⟩
  clear sa0 sa1 sa2 sa3 sb0 sb1 sb2 sb3 sc0 sc1 sc2 sc3
  replace HIA := Lib.hid (HIA.out.ext hEs)
  replace HIC := Lib.hid (HIC.out.ext hEs)
  replace HYS := Lib.hid (HYS.out.ext hEs)
  replace HBx := Lib.hid (HBx.out.ext hEs)
  replace HAx := Lib.hid (HAx.out.ext hEs)
  replace HBy := Lib.hid (HBy.out.ext hEs)
  replace HAy := Lib.hid (HAy.out.ext hEs)
  replace HBa := Lib.hid (HBa.out.ext hEs)
  replace HAa := Lib.hid (HAa.out.ext hEs)
  replace HBb := Lib.hid (HBb.out.ext hEs)
  replace HAb := Lib.hid (HAb.out.ext hEs)
  replace HBc := Lib.hid (HBc.out.ext hEs)
  replace HAc := Lib.hid (HAc.out.ext hEs)
  replace HE := Lib.hid (HE.out.trans (hEs))
  clear hEs
  obtain ⟨sa0, sa1, sa2, sa3⟩ := HBa.out.cell
  obtain ⟨sc0, sc1, sc2, sc3⟩ := HBc.out.cell
  obtain ⟨sy0, sy1, sy2, sy3⟩ := HBy.out.cell
  obtain ⟨nv, hnv⟩ : ∃ nv, nY ys = nv := ⟨_, rfl⟩
  rw [hnv] at HZN
  have HNV := Lib.hid hnv
  clear hnv
  go_upto_if 66 with (fail)
  go_cut [11] (fun v wx => v = .int .i64 nv ∧ wx = ws)
  case first => as_aux_lemma =>
    cases ys with
    | nil =>
      have hyl0 : yl = 0 := by rw [← HYL.out]; rfl
      subst hyl0
      have hnv : nv = 1 := by rw [← HNV.out]; rfl
      subst hnv
      go_wp2_with fail
      go_meet
      case rel => exact ⟨rfl, rfl⟩
    | cons d r =>
      have hyl0 : 0 < yl := by rw [← HYL.out]; simp
      have hylI : decide ((0 : Int) < (yl : Int)) = true := by simp; omega
      have hnv : nv = d := by rw [← HNV.out]; rfl
      subst hnv
      obtain ⟨b9, f9, rfl, hc9, _, _⟩ := HYS.out.get (i := 0) (by simp)
      have hc99 : ws.cell? ⟨b9, f9, none⟩ = some (.int .i64 nv) := by simpa using hc9
      clear hc9
      go_wp2_with fail
      go_meet
      case rel => exact ⟨rfl, rfl⟩
  case rest =>
  obtain ⟨rfl, hwc⟩ := hcut
  subst hwc
  obtain ⟨ws, rfl⟩ : ∃ wx : World, wx = wc := ⟨_, rfl⟩
  clear sa0 sa1 sa2 sa3 sc0 sc1 sc2 sc3 sy0 sy1 sy2 sy3
  obtain ⟨sa0, sa1, sa2, sa3⟩ := HBa.out.cell
  go_wp2_with fail
  go_loopw [12] (fun iv wr => ∃ (i : Nat), iv = .int .i64 (i : Int) ∧ i ≤ nn ∧ Hid (Ext ws wr)) (fun iv _ => nn - (intOf iv).toNat)
  case atStart => exact ⟨0, rfl, Nat.zero_le _, Ext.refl _⟩
  case round =>
  obtain ⟨i, rfl, hin, HEr⟩ := hrel
  clear sa0 sa1 sa2 sa3
  obtain ⟨sa0, sa1, sa2, sa3⟩ := (HBa.out.ext HEr.out).cell
  by_cases hlt : i < nn
  rotate_left
  · have hi2 : nn = i := by omega
    subst hi2
    go_wp2_with fail
    refine (slives_any _).mono ?_
    rintro e wl ⟨rfl, hEl⟩
    have hEz := HE.out.trans (HEr.out.trans hEl)
    go_wp2_with fail
    go_ret
    exact ⟨rfl, hEz⟩
  have hil : i < nums.length := by rw [HNN.out]; exact hlt
  obtain ⟨b1, f1, rfl, g1, _, _⟩ := (HIA.out.ext HEr.out).get (i := i) (by rw [List.length_map]; exact hil)
  obtain ⟨b2, f2, rfl, g2, _, _⟩ := (HIC.out.ext HEr.out).get hil
  have hmap : (nums.map (inF sn)).getD i 0 = inF sn (nums.getD i 0) := by simp [List.getD, hil]
  rw [hmap] at g1
  have hzn := HZN.out (by rw [HNN.out]; omega)
  have hval : inF sn (nums.getD i 0) = if nums.getD i 0 < nv then 1 else 0 := by rw [← hzn]; rfl
  obtain ⟨bb, hbb⟩ : ∃ bb, decide (nums.getD i 0 < nv) = bb := ⟨_, rfl⟩
  have hbb2 : (inF sn (nums.getD i 0) == 1) = bb := by
    rw [hval, ← hbb]
    by_cases h : nums.getD i 0 < nv
    · rw [if_pos h, decide_eq_true h]; rfl
    · rw [if_neg h, decide_eq_false h]; rfl
  have hxor : (bb != bb) = false := by simp
  generalize nums.getD i 0 = q at *
  generalize inF sn q = a1 at *
  have HB1 := Lib.hid hbb
  have HB2 := Lib.hid hbb2
  have HZ1 := Lib.hid g1
  have HZ2 := Lib.hid g2
  clear hmap hzn hval hbb hbb2 hil g1 g2
  go_wp2_with fail
  clear sa0 sa1 sa2 sa3
  have hS0 : (wr.drew.cell? ⟨b1, f1 + i, none⟩ = some (.int .i64 a1) ∧ wr.drew.cell? ⟨b2, f2 + i, none⟩ = some (.int .i64 q)) ∧ Box4 wr.drew by3 (.int .i64 sk) (.slice pay3 lay3 may3) (.slice (some ⟨b1, f1, none⟩) nn mby3) (.slice pcy3 lcy3 mcy3) ∧ Box4 wr.drew by11 (.int .i64 sk) (.slice pay11 lay11 may11) (.slice (some ⟨b2, f2, none⟩) nn mby11) (.slice pcy11 lcy11 mcy11) := ⟨⟨HZ1.out, HZ2.out⟩, (HBa.out.ext HEr.out).ext (Ext.refl _).drew, (HBc.out.ext HEr.out).ext (Ext.refl _).drew⟩
  refine wp_region_g [0, 1, 2, 3, 4, 5, 6, 7, 8, 9, 10, 11, 12] [13] (fun w' => (w'.cell? ⟨b1, f1 + i, none⟩ = some (.int .i64 a1) ∧ w'.cell? ⟨b2, f2 + i, none⟩ = some (.int .i64 q)) ∧ Box4 w' by3 (.int .i64 sk) (.slice pay3 lay3 may3) (.slice (some ⟨b1, f1, none⟩) nn mby3) (.slice pcy3 lcy3 mcy3) ∧ Box4 w' by11 (.int .i64 sk) (.slice pay11 lay11 may11) (.slice (some ⟨b2, f2, none⟩) nn mby11) (.slice pcy11 lcy11 mcy11)) (by kernel_rfl) (by kernel_rfl) hS0 ?_
  iterate 13
    refine wpHead_cons (v := ?_) rfl (by rfl) (fun w' hS => ?_) ?_
    rotate_left
    · obtain ⟨⟨hS1, hS2⟩, hS3, hS4⟩ := hS
      obtain ⟨qa0, qa1, qa2, qa3⟩ := hS3.cell
      obtain ⟨qc0, qc1, qc2, qc3⟩ := hS4.cell
      go_simp
      (try rw [HB2.out])
      (try rw [HB1.out])
      try with_reducible rfl
    try simp only [Act.put, List.setIfInBounds_toArray, List.set]
  unfold wpHead
  refine wpTail_cons rfl (fun K hK => ?_)
  go_wp2_with fail
  refine hK _ _ hS0 ?_
  clear hK hS0
  try simp only [Act.put, List.setIfInBounds_toArray, List.set]
  unfold wpTail
  refine OnlyN.mk ?_
  have HEn := Lib.hid (HEr.out.trans (Ext.refl wr).drew)
  clear HEr
  (try simp only [Exit.inBlock, Exit.then])
  go_wp2_with fail
  go_roundw
  case rel => exact ⟨i + 1, by go_num, by omega, HEn⟩
  case measure => simp [intOf]; omega
end Go.Proofs.Ytgkemmdghmklfaa
