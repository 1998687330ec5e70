/-
  THE WALK of ref25.Unique; its law: what Gather makes is the program's. (Printed by gen_runiq.py.)
-/
import Derived.Test.YtgkemmdghmklfaaM25B
import Derived.Test.YtgkemmdghmklfaaM25P
import Derived.Test.YtgkemmdghmklfaaM25R
import Derived.Test.YtgkemmdghmklfaaRRight
import Derived.Test.YtgkemmdghmklfaaGathS
import Derived.Deep.CutBlock
namespace Go.Proofs.Ytgkemmdghmklfaa
set_option linter.unusedSimpArgs false
set_option linter.unusedVariables false
open Go.RowKit

/-- The indices of the elements of the cells that are kept. -/
def frL (L : List Arr) (z : Nat) : Nat → List Int
  | 0 => []
  | i + 1 => if placeV L (L.getD i default) < i then frL L z i else frL L z i ++ (List.range z).map (fun k => ((i * z + k : Nat) : Int))
def cntL (L : List Arr) : Nat → Nat
  | 0 => 0
  | i + 1 => if placeV L (L.getD i default) < i then cntL L i else cntL L i + 1
theorem cntL_eq (L : List Arr) : ∀ i, cntL L i = (uqL L i).length
  | 0 => rfl
  | i + 1 => by
    rw [cntL, uqL]
    split
    · exact cntL_eq L i
    · rw [List.length_append, cntL_eq L i]; rfl
theorem frL_len (L : List Arr) (z : Nat) : ∀ i, (frL L z i).length ≤ i * z
  | 0 => by simp [frL]
  | i + 1 => by
    have := frL_len L z i
    rw [frL, Nat.succ_mul]
    split
    · omega
    · rw [List.length_append]; simp; omega
theorem frL_mem (L : List Arr) (z : Nat) : ∀ i (x : Int), x ∈ frL L z i → 0 ≤ x ∧ x < ((i * z : Nat) : Int)
  | 0, x, h => by simp [frL] at h
  | i + 1, x, h => by
    rw [frL] at h
    have hs : (i + 1) * z = i * z + z := Nat.succ_mul i z
    split at h
    · have := frL_mem L z i x h
      omega
    · rcases List.mem_append.1 h with h | h
      · have := frL_mem L z i x h; omega
      · obtain ⟨k, hk, rfl⟩ := List.mem_map.1 h
        have := List.mem_range.1 hk
        omega
def sOr1 : List Int → List Int
  | [] => [1]
  | d :: r => d :: r
theorem take_drop_map {α : Type} [Inhabited α] (n : List α) (d : α) {a z : Nat} (h : a + z ≤ n.length) : (n.drop a).take z = (List.range z).map fun k => n.getD (a + k) d := by
  apply List.ext_getElem
  · simp; omega
  · intro i h1 h2
    simp only [List.length_map, List.length_range] at h2
    simp [List.getD, show a + i < n.length by omega]
theorem gN_nat {k : Int} {n : List Int} (a : Nat) : gN k n (a : Int) = n.getD a 0 := by unfold gN; rw [if_neg (by omega)]; simp
theorem gI_nat {it : List Arr} (a : Nat) : gI it (a : Int) = it.getD a default := by unfold gI; rw [if_neg (by omega)]; simp
theorem gather_uniq {y : Arr} {f c z : Nat} (hr : rightV y = 0) (ok : CellsOk y (-1) f c z) : ∀ i, i ≤ c →
    (y.k ≠ 3 → (frL (cellsV y (-1)) z i).map (gN y.k y.n) = (uqL (cellsV y (-1)) i).flatMap Arr.n ∧ (uqL (cellsV y (-1)) i).flatMap Arr.it = []) ∧
    (y.k = 3 → (frL (cellsV y (-1)) z i).map (gI y.it) = (uqL (cellsV y (-1)) i).flatMap Arr.it ∧ (uqL (cellsV y (-1)) i).flatMap Arr.n = [])
  | 0, _ => by simp [frL, uqL]
  | i + 1, hi => by
    obtain ⟨h1, h2⟩ := gather_uniq hr ok i (by omega)
    have hget : (cellsV y (-1)).getD i default = partV y (i * z) z (y.sh.drop f) := by rw [ok.ce]; simp [List.getD, show i < c by omega]
    have hle : i * z + z ≤ c * z := by
      have := Nat.mul_le_mul_right z (show i + 1 ≤ c from hi)
      rwa [Nat.succ_mul] at this
    rw [frL, uqL]
    split
    · exact ⟨h1, h2⟩
    · rw [hget]
      obtain ⟨k, s, n, it⟩ := y
      simp only [Arr.k, Arr.n, Arr.it] at *
      refine ⟨fun hk => ?_, fun hk => ?_⟩
      · have hn := (ok.nn hk).2
        simp only [Arr.n] at hn
        obtain ⟨e1, e2⟩ := h1 hk
        rw [List.map_append, e1, List.flatMap_append, List.flatMap_append, e2]
        simp only [List.flatMap_cons, List.flatMap_nil, List.append_nil, partV, Arr.n, Arr.it, if_neg hk, List.map_map, Function.comp_def, gN_nat]
        exact ⟨by rw [take_drop_map n 0 (by rw [hn]; exact hle)], by trivial⟩
      · have hn := (ok.ii hk).2
        simp only [Arr.it] at hn
        obtain ⟨e1, e2⟩ := h2 hk
        rw [List.map_append, e1, List.flatMap_append, List.flatMap_append, e2]
        simp only [List.flatMap_cons, List.flatMap_nil, List.append_nil, partV, Arr.n, Arr.it, if_pos hk, List.map_map, Function.comp_def, gI_nat]
        exact ⟨by rw [take_drop_map it default (by rw [hn]; exact hle)], by trivial⟩
theorem gather_is {y : Arr} {f c z : Nat} (hr : rightV y = 0) (ok : CellsOk y (-1) f c z) : gatherV ((cntL (cellsV y (-1)) c : Int) :: y.sh.drop 1) (frL (cellsV y (-1)) z c) y = uniqV y := by
  have hc : (cellsV y (-1)).length = c := by rw [ok.ce]; simp
  obtain ⟨h1, h2⟩ := gather_uniq hr ok c (Nat.le_refl _)
  unfold uniqV
  rw [if_neg (by rw [hr]; simp), hc, ← cntL_eq]
  obtain ⟨k, s, n, it⟩ := y
  simp only [Arr.k, Arr.n, Arr.it, Arr.sh] at *
  simp only [gatherV]
  by_cases hk : k = 3
  · obtain ⟨e1, e2⟩ := h2 hk
    rw [if_pos hk, if_pos hk, e1, e2]
  · obtain ⟨e1, e2⟩ := h1 hk
    rw [if_neg hk, if_neg hk, e1, e2]
theorem cell_z {y : Arr} {f c z : Nat} (hr : rightV y = 0) (ok : CellsOk y (-1) f c z) : prodA 1 ((sOr1 y.sh).drop 1) = (z : Int) ∧ c * z ≤ 65536 ∧ z ≤ 65536 := by
  have hrk := ok.rk
  have hsz := ok.sz
  have hf := ok.hf
  obtain ⟨k, s, n, it⟩ := y
  obtain ⟨hk, h8, hrr, hn3, hi3⟩ := right_parts hr
  have hnn := ok.nn
  have hii := ok.ii
  simp only [Arr.sh, Arr.k, Arr.n, Arr.it] at *
  have hf1 : s ≠ [] → f = 1 := fun h => by
    have : 0 < s.length := List.length_pos_iff.2 h
    unfold rankV at hrk
    rw [if_neg (by omega), if_pos (by omega), if_neg (by omega)] at hrk
    omega
  have h65 := shapeSize_hi s
  have hcz : c * z ≤ 65536 := by
    by_cases h3 : k = 3
    · have := (hii h3).2; have := (hi3 h3).2; omega
    · have := (hnn h3).2; have := (hn3 h3).2; omega
  have hz6 : z ≤ 65536 := by
    have := (size_split hrr h8 f).2.2.2.2
    omega
  refine ⟨?_, hcz, hz6⟩
  cases s with
  | nil =>
    have : f = 0 := by simpa using hf
    subst this
    have e : shapeSize ([] : List Int) = 1 := by decide
    simp only [List.drop_nil] at hsz
    rw [e] at hsz
    show prodA 1 [] = _
    rw [prodA]; exact hsz
  | cons d r =>
    have := hf1 (by simp)
    subst this
    rw [← hsz]
    exact (size_prodA (rightGo_drop (d :: r) 1 hrr) (by rw [List.length_drop]; omega)).symm

set_option maxRecDepth 1000000 in
set_option maxHeartbeats 16000000 in
theorem runiq_any (F : Nat → Prop) (y : Arr) (c0 c1 c2 c3 : Value) (w : World) (hy0 : ArrAt F w y c0 c1 c2 c3) :
    Calls Try.prog 65 #[.agg #[c0, c1, c2, c3]] w fun e w' => ∃ e0 e1 e2 e3, e = .returned (.tuple #[.agg #[e0, e1, e2, e3], .int .i64 (uniqE y)]) ∧ ArrAt (fun b => w.heap.size ≤ b ∨ F b) w' (uniqV y) e0 e1 e2 e3 ∧ Ext w w' := by
  have hy := ArrAt.mono (G := fun b => F b ∧ b < w.heap.size) (w' := w) (fun b hb hlt => ⟨⟨hb, hlt⟩, rfl⟩) _ _ _ _ _ hy0
  clear hy0
  have HEV : Hid (uniqE y = if rightV y ≠ 0 then 1 else 0) := rfl
  have HVV : Hid (rightV y ≠ 0 → uniqV y = Arr.zero) := fun h => by unfold uniqV; rw [if_pos h]
  have HRY := Lib.hid (fun (w1 : World) (e : Ext w w1) => rright6_any _ y c0 c1 c2 c3 w1 (hy.ext e))
  have HCY := Lib.hid (fun (w1 : World) (e : Ext w w1) => rcells_any _ y c0 c1 c2 c3 (-1) w1 (hy.ext e) (by decide))
  have HPLAN : Hid (rightV y = 0 → ∃ c z : Nat, (cellsV y (-1)).length = c ∧ (∀ t ∈ cellsV y (-1), rightV t = 0) ∧ c ≤ 65536 ∧ prodA 1 ((sOr1 y.sh).drop 1) = (z : Int) ∧ c * z ≤ 65536 ∧ z ≤ 65536 ∧ gatherV ((cntL (cellsV y (-1)) c : Int) :: y.sh.drop 1) (frL (cellsV y (-1)) z c) y = uniqV y ∧ (y.k = 1 ∨ y.k = 2 ∨ y.k = 3) ∧ (y.k ≠ 3 → y.n.length = c * z) ∧ (y.k = 3 → y.it.length = c * z) ∧ rightGo 1 (sOr1 y.sh) = true) := fun h => by
    obtain ⟨f, c, z, ok⟩ := cells_ok h (-1)
    obtain ⟨z1, z2, z3⟩ := cell_z h ok
    obtain ⟨l1, l2⟩ := cells_len h (-1)
    have hc : (cellsV y (-1)).length = c := by rw [ok.ce]; simp
    refine ⟨c, z, hc, l2, by omega, z1, z2, z3, gather_is h ok, ?_, fun hk => (ok.nn hk).2, fun hk => (ok.ii hk).2, ?_⟩
    · obtain ⟨k, s, n, it⟩ := y
      exact (right_parts h).1
    · obtain ⟨k, s, n, it⟩ := y
      have := (right_parts h).2.2.1
      cases s with
      | nil => exact (by decide : rightGo 1 [1] = true)
      | cons d r => exact this
  have HY := Lib.hid hy
  generalize uniqE y = ev at *
  generalize uniqV y = vv at *
  generalize cellsV y (-1) = L at *
  obtain ⟨ky, s, ns, it⟩ := y
  unfold ArrAt at hy
  obtain ⟨rfl, hky, ⟨p1, m1, rfl, ⟨o1, o1', o1''⟩, i1⟩, ⟨p2, m2, rfl, ⟨o2, o2', o2''⟩, i2⟩, ⟨p3, m3, rfl, ⟨o3, o3', o3''⟩, i3⟩⟩ := hy
  have HS := Lib.hid i1
  clear i1 i2 i3 hky
  generalize rightV (.mk ky s ns it) = ry at *
  simp only [Arr.sh, Arr.k, Arr.n, Arr.it] at HPLAN
  go_enter Try.func65, Try.ntmps65
  have hE0 : Ext w ((w.alloc (.cells #[.int .i64 ky, .slice p1 s.length m1, .slice p2 ns.length m2, .slice p3 it.length m3] 26)).alloc (.cells #[.int .i64 0, .slice none 0 0, .slice none 0 0, .slice none 0 0] 26)) := ((Ext.refl _).alloc _).alloc _
  have hBY := (box_new w (.int .i64 ky) (.slice p1 s.length m1) (.slice p2 ns.length m2) (.slice p3 it.length m3)).ext ((Ext.refl _).alloc (.cells #[.int .i64 0, .slice none 0 0, .slice none 0 0, .slice none 0 0] 26))
  have hBT := box_new (w.alloc (.cells #[.int .i64 ky, .slice p1 s.length m1, .slice p2 ns.length m2, .slice p3 it.length m3] 26)) (.int .i64 0) (.slice none 0 0) (.slice none 0 0) (.slice none 0 0)
  simp only [World.size_alloc] at hBT
  have HE := Lib.hid hE0
  have HBY := Lib.hid hBY
  have HBT := Lib.hid hBT
  clear hE0 hBY hBT
  go_upto_region 1 with (fail)
  generalize ((w.alloc (.cells #[.int .i64 ky, .slice p1 s.length m1, .slice p2 ns.length m2, .slice p3 it.length m3] 26)).alloc (.cells #[.int .i64 0, .slice none 0 0, .slice none 0 0, .slice none 0 0] 26)) = w1 at *
  obtain ⟨s0, s1, s2, s3⟩ := HBY.out.cell
  go_wp2_with fail
  refine (HRY.out w1 HE.out).mono ?_
  rintro e w2 ⟨rfl, hE1⟩
  replace HE := Lib.hid (HE.out.trans hE1)
  replace HBY := Lib.hid (HBY.out.ext hE1)
  replace HBT := Lib.hid (HBT.out.ext hE1)
  clear hE1 s0 s1 s2 s3 HRY
  by_cases h1 : ry = 0
  rotate_left
  · have h1' : (ry != 0) = true := by simpa using h1
    have hev : ev = 1 := by rw [HEV.out, if_pos h1]
    have HV2 : Hid (vv = Arr.zero) := HVV.out h1
    have HEV2 := Lib.hid hev
    clear h1 hev HEV HVV HCY HPLAN
    obtain ⟨t0, t1, t2, t3⟩ := HBT.out.cell
    have y0 := HBT.out.free 0
    have y1 := HBT.out.free 1
    have y2 := HBT.out.free 2
    have y3 := HBT.out.free 3
    go_wp2_with fail
    obtain ⟨g1, g2, g3⟩ := HBT.out.put4 HE.out (by omega) (.int .i64 0) (.slice none 0 0) (.slice none 0 0) (.slice none 0 0)
    revert g1 g2 g3
    generalize ((((w2.setCell ⟨w.heap.size + 1, 0, none⟩ (.int .i64 0)).setCell ⟨w.heap.size + 1, 1, none⟩ (.slice none 0 0)).setCell ⟨w.heap.size + 1, 2, none⟩ (.slice none 0 0)).setCell ⟨w.heap.size + 1, 3, none⟩ (.slice none 0 0)) = w9
    intro g1 g2 g3
    obtain ⟨z0, z1, z2, z3⟩ := g2.cell
    refine bodyPost_ret (v := .tuple #[.agg #[(.int .i64 0), (.slice none 0 0), (.slice none 0 0), (.slice none 0 0)], .int .i64 1]) ?_ rfl ⟨_, _, _, _, by rw [HEV2.out], by rw [HV2.out]; exact Arr.zero_at _ _, g1⟩
    simp [results, Try.results65, go_sem, z0, z1, z2, z3]
  have HEV2 : Hid (ev = 0) := by unfold Hid; rw [HEV.out, if_neg (by rw [h1]; simp)]
  obtain ⟨c, z, hLc, hLr, hc6, hpz, hcz, hz6, hgat, hk3, hnn, hii, hrg⟩ := HPLAN.out h1
  subst h1
  have HLC := Lib.hid hLc
  have HPZ := Lib.hid hpz
  have HGAT := Lib.hid hgat
  have HK3 := Lib.hid hk3
  have HNN := Lib.hid hnn
  have HII := Lib.hid hii
  have HRG := Lib.hid hrg
  clear hLc hpz hgat hk3 hnn hii hrg hLr HEV HVV HPLAN
  obtain ⟨s0, s1, s2, s3⟩ := HBY.out.cell
  obtain ⟨S, hS⟩ : ∃ S, S = sOr1 s := ⟨_, rfl⟩
  rw [← hS] at HPZ HRG
  have hSl : S.drop 1 = s.drop 1 := by rw [hS]; cases s <;> rfl
  have HSD := Lib.hid hSl
  have HSE := Lib.hid hS
  clear hS hSl
  go_upto_if 19 with (fail)
  go_cut [4] (fun sv wx => ∃ (p : Option Addr) (cc : Nat), sv = .slice p S.length cc ∧ SlOk S.length cc ∧ IntsAt (fun b => b < wx.heap.size) wx p S ∧ 1 ≤ S.length ∧ Ext w2 wx)
  case first => as_aux_lemma =>
    cases s with
    | nil =>
      have hSe : S = [1] := by rw [HSE.out]; rfl
      subst hSe
      have hrow := RowI.ints (rowI_new w2 [(1 : Int)]) (by simp)
      have HR := Lib.hid (hrow.mono (G := fun b => b < (w2.alloc (.cells #[.int .i64 1] 3)).heap.size) (w' := w2.alloc (.cells #[.int .i64 1] 3)) (fun b hb hlt => ⟨hlt, rfl⟩))
      have HX := Lib.hid ((Ext.refl w2).alloc (.cells #[.int .i64 1] 3))
      clear hrow
      go_wp2_with fail
      go_meet
      case rel => exact ⟨_, _, rfl, ⟨Nat.le_refl _, by simp, by simp⟩, HR.out, by simp, HX.out⟩
    | cons d r =>
      have hSe : S = d :: r := by rw [HSE.out]; rfl
      subst hSe
      have HR := Lib.hid ((HS.out.ext HE.out).mono (G := fun b => b < w2.heap.size) (w' := w2) (fun b _ hlt => ⟨hlt, rfl⟩))
      have hne : ¬ ((d :: r).length = 0) := by simp
      have hneI : (((d :: r).length : Int) == 0) = false := by simp; omega
      go_wp2_with fail
      go_meet
      case rel => exact ⟨p1, m1, rfl, ⟨o1, o1', o1''⟩, HR.out, by simp, Ext.refl _⟩
  case rest =>
  obtain ⟨pS, cS, rfl, ⟨k1, k1', k1''⟩, hIS, hS1, hE2⟩ := hcut
  obtain ⟨w3, rfl⟩ : ∃ wx : World, wx = wc := ⟨_, rfl⟩
  have HISS := Lib.hid hIS
  replace HE := Lib.hid (HE.out.trans hE2)
  replace HBY := Lib.hid (HBY.out.ext hE2)
  replace HBT := Lib.hid (HBT.out.ext hE2)
  clear hIS hE2 s0 s1 s2 s3 HSE HS
  obtain ⟨s0, s1, s2, s3⟩ := HBY.out.cell
  go_wp2_with fail
  refine (HCY.out w3 HE.out).mono ?_
  rintro e w4 ⟨v, rfl, ⟨pL, cL, rfl, ⟨kl1, kl2, kl3⟩, hiL⟩, hE1⟩
  rw [HLC.out] at kl1 kl3 ⊢
  replace HE := Lib.hid (HE.out.trans hE1)
  replace HBY := Lib.hid (HBY.out.ext hE1)
  replace HBT := Lib.hid (HBT.out.ext hE1)
  replace HISS := Lib.hid ((HISS.out.ext hE1).mono (G := fun b => b < w4.heap.size) (w' := w4) (fun b _ hlt => ⟨hlt, rfl⟩))
  have HIL := Lib.hid (ItemsAt.mono (G := fun b => b < w4.heap.size) (w' := w4) (fun b _ hlt => ⟨hlt, rfl⟩) _ _ _ hiL)
  clear hE1 hiL HCY s0 s1 s2 s3
  obtain ⟨sl, hsl⟩ : ∃ sl, S.length = sl := ⟨_, rfl⟩
  have HSLN := Lib.hid hsl
  have HPR : Hid (Calls Try.prog 113 #[.slice pS sl cS, .int .i64 1, .int .i64 (sl : Int)] w4 fun e w' => e = .returned (.int .i64 (z : Int)) ∧ w4 = w') := by
    have h := r2product_any _ pS cS 1 S w4 HISS.out (by unfold lenMax; omega) hS1 (rightGo_drop S 1 HRG.out)
    rw [HPZ.out, hsl] at h
    exact h
  rw [hsl] at k1 k1'' hS1 ⊢
  clear hsl
  go_wp2_with fail
  refine HPR.out.mono ?_
  rintro e w4' ⟨rfl, rfl⟩
  clear HPR
  go_wp2_with fail
  go_loopw [7, 8, 9] (fun fv nv iv wr => ∃ (i : Nat) (v : Value), i ≤ c ∧ v = fv ∧ nv = .int .i64 (cntL L i : Int) ∧ iv = .int .i64 (i : Int) ∧ Hid (OwnI w4.heap.size (fun _ => False) wr v (frL L z i).length (frL L z i)) ∧ Hid (Ext w4 wr)) (fun _ _ iv _ => c - (intOf iv).toNat)
  case atStart => exact ⟨0, _, Nat.zero_le _, rfl, rfl, rfl, OwnI.nil _ _ _, Ext.refl _⟩
  case round =>
  obtain ⟨i, v, hic, rfl, rfl, rfl, HO, HEr⟩ := hrel
  obtain ⟨pv, cv, rfl, _⟩ := HO.out.form
  by_cases hlt : i < c
  · have hiL : i < L.length := by rw [HLC.out]; exact hlt
    obtain ⟨bi, oi, x0, x1, x2, x3, rfl, q0, q1, q2, q3, hA⟩ := (HIL.out.ext HEr.out).getD hiL
    obtain ⟨kc, z1, r1, u1, z2, r2, u2, z3, r3, u3, rfl, rfl, rfl, rfl⟩ := hA.form
    have HPC := Lib.hid (place_any _ _ L (L.getD i default) _ cL c _ _ _ _ wr (HIL.out.ext HEr.out) hA HLC.out hc6)
    have hpl := placeV_le L (L.getD i default)
    rw [HLC.out] at hpl
    have HF1 : Hid (frL L z (i + 1) = if placeV L (L.getD i default) < i then frL L z i else frL L z i ++ (List.range z).map (fun k => ((i * z + k : Nat) : Int))) := rfl
    have HC1 : Hid (cntL L (i + 1) = if placeV L (L.getD i default) < i then cntL L i else cntL L i + 1) := rfl
    have hcl := cntL_eq L i
    have hcl2 := uqL_len L i
    rw [← hcl] at hcl2
    generalize placeV L (L.getD i default) = pl at *
    have hfl := frL_len L z i
    have hmz := Nat.mul_le_mul_right z (show i + 1 ≤ c from hlt)
    rw [Nat.succ_mul] at hmz
    obtain ⟨iz, hiz⟩ : ∃ iz, iz = i * z := ⟨_, rfl⟩
    rw [← hiz] at HF1 hmz hfl
    have m1 : (i : Int) * (z : Int) = (iz : Int) := by rw [hiz, Int.natCast_mul]
    obtain ⟨cn, hcn⟩ : ∃ cn, cntL L i = cn := ⟨_, rfl⟩
    rw [hcn] at HC1 hcl2 ⊢
    clear hA hiL hcl hcn
    go_wp2_with fail
    refine HPC.out.mono ?_
    rintro e w6 ⟨rfl, hE6⟩
    have HE6 := Lib.hid (HEr.out.trans hE6)
    have HO6 := Lib.hid (HO.out.ext hE6)
    clear hE6 HPC q0 q1 q2 q3 HEr HO hiz
    by_cases hlp : pl < i
    · have hu := HF1.out
      rw [if_pos hlp] at hu
      rw [← hu] at HO6
      have hu2 := HC1.out
      rw [if_pos hlp] at hu2
      have HU2 := Lib.hid hu2
      have hlpI : decide ((pl : Int) < (i : Int)) = true := by simp; omega
      have HFE : Hid ((frL L z i).length = (frL L z (i + 1)).length) := by unfold Hid; rw [hu]
      clear hu hu2 HF1 HC1 hfl m1
      go_wp2_with fail
      go_roundw
      case rel => exact ⟨i + 1, _, by omega, by rw [HFE.out], by rw [HU2.out], by go_num, HO6, HE6⟩
      case measure => simp [intOf]; omega
    have hu := HF1.out
    rw [if_neg hlp] at hu
    have HU := Lib.hid hu
    have hu2 := HC1.out
    rw [if_neg hlp] at hu2
    have HU2 := Lib.hid hu2
    have hlpI : decide ((pl : Int) < (i : Int)) = false := by simp; omega
    obtain ⟨fr0, hfr0⟩ : ∃ fr0, frL L z i = fr0 := ⟨_, rfl⟩
    rw [hfr0] at HO6 HU hfl ⊢
    obtain ⟨fn0, hfn0⟩ : ∃ fn0, fr0.length = fn0 := ⟨_, rfl⟩
    have HFN := Lib.hid hfn0
    rw [hfn0] at HO6 hfl ⊢
    clear hu hu2 HF1 HC1 hfr0 hfn0
    obtain ⟨wo, rfl⟩ : ∃ wx : World, wx = w6 := ⟨_, rfl⟩
    go_wp2_with fail
    go_loopw [7, 10] (fun fv kv wq => ∃ (k : Nat) (v : Value), k ≤ z ∧ v = fv ∧ kv = .int .i64 (k : Int) ∧ Hid (OwnI w4.heap.size (fun _ => False) wq v (fn0 + k) (fr0 ++ (List.range k).map (fun k => ((iz + k : Nat) : Int)))) ∧ Hid (Ext w4 wq)) (fun _ kv _ => z - (intOf kv).toNat)
    case atStart => exact ⟨0, _, Nat.zero_le _, rfl, rfl, by simpa using HO6, HE6⟩
    case round =>
    obtain ⟨k, v, hkz, rfl, rfl, HO7, HE7⟩ := hrel
    obtain ⟨pv7, cv7, rfl, _⟩ := HO7.out.form
    clear HO6 HE6
    by_cases hk : k < z
    · have HRS : Hid (fr0 ++ (List.range (k + 1)).map (fun k => ((iz + k : Nat) : Int)) = (fr0 ++ (List.range k).map (fun k => ((iz + k : Nat) : Int))) ++ [((iz + k : Nat) : Int)]) := by
        unfold Hid
        rw [List.range_succ, List.map_append, List.append_assoc]; rfl
      generalize fr0 ++ (List.range k).map (fun k => ((iz + k : Nat) : Int)) = cur at *
      obtain ⟨ik, hik⟩ : ∃ ik, iz + k = ik := ⟨_, rfl⟩
      rw [hik] at HRS
      have m2 : (iz : Int) + (k : Int) = (ik : Int) := by omega
      have m3 : IntKind.i64.wrap (iz : Int) = (iz : Int) := IntWalk.i64_in _ (by omega)
      have m4 : IntKind.i64.wrap (ik : Int) = (ik : Int) := IntWalk.i64_in _ (by omega)
      have hEn : Ext wr (wr.alloc (.cells #[.int .i64 (ik : Int)] 3)) := (Ext.refl _).alloc _
      have hnc : (wr.alloc (.cells #[.int .i64 (ik : Int)] 3)).cell? ⟨wr.heap.size, 0, none⟩ = some (.int .i64 (ik : Int)) := by simp
      have HOn := Lib.hid (HO7.out.ext hEn)
      have HEn := Lib.hid (HE7.out.trans hEn)
      have HNC := Lib.hid hnc
      clear hEn hnc HO7 HE7 hik
      go_wp2_with (at_builtin; go_loud (refine wpList_append_int rfl _ _ rfl w4.heap.size (fun _ => False) (.slice pv7 (fn0 + k) cv7) (fn0 + k) cur (ik : Int) rfl HOn.out ⟨wr.heap.size, 0, none⟩ 1 rfl HNC.out (fun _ h => h.elim) (by omega) (by omega) HEn.out.lt ?_))
      intro g cap w8 hon8 hgrow _ _ _
      have hE8 : Ext w4 w8 := HEn.out.grown hgrow HEn.out.lt (fun q e => (HOn.out.2.2.1.lt q e).1)
      rw [← HRS.out] at hon8
      have HO8 := Lib.hid hon8
      have HE8 := Lib.hid hE8
      clear HOn HEn HNC hgrow hon8 hE8
      go_wp2_with fail
      go_roundw
      case rel => exact ⟨k + 1, _, by omega, rfl, by go_num, HO8, HE8⟩
      case measure => simp [intOf]; omega
    have hkz2 : z = k := by omega
    subst hkz2
    have HO9 : Hid (OwnI w4.heap.size (fun _ => False) wr (.slice pv7 (fn0 + z) cv7) (frL L z (i + 1)).length (frL L z (i + 1))) := by
      unfold Hid
      have hl9 : (frL L z (i + 1)).length = fn0 + z := by rw [HU.out, List.length_append, HFN.out]; simp
      rw [hl9, HU.out]; exact HO7.out
    have HL9 : Hid (fn0 + z = (frL L z (i + 1)).length) := by unfold Hid; rw [HU.out, List.length_append, HFN.out]; simp
    clear HO7 HU
    go_wp2_with fail
    go_roundw
    case rel => exact ⟨i + 1, _, by omega, by first | rfl | rw [HL9.out], by first | (rw [HU2.out]; go_num) | rw [HU2.out], by go_num, HO9, HE7⟩
    case measure => simp [intOf]; omega
  have hi2 : c = i := by omega
  subst hi2
  have hO := HO.out
  obtain ⟨p9, c9, e9, q9, i9⟩ := hO.ints
  simp only [Value.slice.injEq] at e9
  obtain ⟨rfl, h9, rfl⟩ := e9
  clear h9
  obtain ⟨tl, htl⟩ : ∃ tl, tl = S.drop 1 := ⟨_, rfl⟩
  have htll : tl.length = sl - 1 := by rw [htl, List.length_drop, HSLN.out]
  have hcut := (HISS.out.ext HEr.out).cut (n := S.length) 1 cS (by rw [HSLN.out]; exact k1)
  rw [List.take_of_length_le (by rw [List.length_drop]; omega), ← htl] at hcut
  have HGAT2 : Hid (gatherV ((cntL L c : Int) :: tl) (frL L z c) (.mk ky s ns it) = vv) := by
    unfold Hid
    rw [htl, HSD.out]; exact HGAT.out
  have hfl := frL_len L z c
  have hcl : cntL L c ≤ 65536 := by rw [cntL_eq]; exact Nat.le_trans (uqL_len L c) hc6
  have HGA := Lib.hid (fun (W : World) (e : Ext w W) (pa : Option Addr) (ca : Nat) (sz : Nat) (hsz : ((cntL L c : Int) :: tl).length = sz) (ha : IntsAt (fun _ => True) W pa ((cntL L c : Int) :: tl)) (hb : IntsAt (fun _ => True) W pv (frL L z c)) => by
    have h := gather_any _ _ _ pa pv ca cv ((cntL L c : Int) :: tl) (frL L z c) s ky ns it _ _ _ _ W ha hb (HY.out.ext e) (by rw [List.length_cons]; omega) (by omega) HK3.out (fun hk f hf => by have := frL_mem L z c f hf; rw [HNN.out hk]; omega) (fun hk f hf => by have := frL_mem L z c f hf; rw [HII.out hk]; omega)
    rw [HGAT2.out, hsz] at h
    exact h)
  have hsl9 : ∀ w, (Instr.sliceAt 23 (.slice pS sl cS) (some (.int .i64 1)) none none).run Try.prog w = .ok (.slice (cutAt pS 1 cS 1) (sl - 1) (cS - 1)) w := fun w => slice_l pS sl cS w 1 hS1
  have HSL9 := Lib.hid hsl9
  have HCUT := Lib.hid hcut
  have HTL := Lib.hid htll
  have HFI := Lib.hid i9
  have HBYr := Lib.hid (HBY.out.ext HEr.out)
  have HBTr := Lib.hid (HBT.out.ext HEr.out)
  have HEw := Lib.hid (HE.out.trans HEr.out)
  have HWB := Lib.hid (show w.heap.size + 1 < wr.heap.size from HBTr.out.lt)
  generalize hfq : frL L z c = fq at *
  obtain ⟨fqn, hfqn⟩ : ∃ fqn, fq.length = fqn := ⟨_, rfl⟩
  rw [hfqn] at HGA ⊢
  generalize cntL L c = cnt at *
  clear hO q9 i9 htl htll hcut hfl HO HBY HBT HE HISS HGAT HGAT2 HSD hsl9 hfq hfqn HEr HLC HIL
  go_wp2_with fail
  have hS0 : Box4 wr.drew w.heap.size (.int .i64 ky) (.slice p1 s.length m1) (.slice p2 ns.length m2) (.slice p3 it.length m3) := HBYr.out.ext (Ext.refl _).drew
  refine wp_region_g [0, 1, 3, 4, 6] [2, 5, 7, 8, 9] (fun w' => Box4 w' w.heap.size (.int .i64 ky) (.slice p1 s.length m1) (.slice p2 ns.length m2) (.slice p3 it.length m3)) (by kernel_rfl) (by kernel_rfl) hS0 ?_
  iterate 5
    refine wpHead_cons (v := ?_) rfl (by rfl) (fun w' hS => ?_) ?_
    rotate_left
    · obtain ⟨sq0, sq1, sq2, sq3⟩ := hS.cell
      have hsl9 := HSL9.out w'
      go_simp
      try with_reducible rfl
    try simp only [Act.put, List.setIfInBounds_toArray, List.set]
  unfold wpHead
  refine wpTail_cons rfl (fun K hK => ?_)
  go_wp2_with fail
  have hEn : Ext wr (wr.alloc (.cells #[.int .i64 (cnt : Int)] 3)).drew := ((Ext.refl _).alloc _).drew
  have hrw : RowI (wr.alloc (.cells #[.int .i64 (cnt : Int)] 3)).drew wr.heap.size [(cnt : Int)] := RowI.ext (rowI_new wr [(cnt : Int)]) (Ext.refl _).drew
  generalize (wr.alloc (.cells #[.int .i64 (cnt : Int)] 3)).drew = w7 at hEn hrw ⊢
  refine hK _ _ (HBYr.out.ext hEn) ?_
  try simp only [Act.put, List.setIfInBounds_toArray, List.set]
  refine wpTail_cons rfl (fun K hK => ?_)
  have hOr := OwnI.of_row (B := wr.heap.size) (X := fun _ => False) (n := 1) (xs := [(cnt : Int)]) hrw rfl (by omega) (Nat.le_refl _) (fun h => h) (by simp; omega)
  refine wpList_append_ints rfl _ _ rfl _ wr.heap.size (fun _ => False) (.slice (some ⟨wr.heap.size, 0, none⟩) 1 1) 1 [(cnt : Int)] (cutAt pS 1 cS 1) (cS - 1) tl rfl hOr (by rw [HTL.out]; rfl) (HCUT.out.ext hEn) (fun _ h => h.elim) (by rw [HTL.out]; omega) hEn.lt ?_
  intro v9 w8 ho9 hgr9 _
  have hE8 : Ext wr w8 := hEn.grown hgr9 hEn.lt (fun q e => by cases e; exact Nat.le_refl _)
  obtain ⟨p9, c9, rfl, _⟩ := ho9.form
  obtain ⟨p9', c9', e9, q9, i9⟩ := ho9.ints
  simp only [Value.slice.injEq] at e9
  obtain ⟨rfl, h9, rfl⟩ := e9
  clear h9
  refine hK _ _ (HBYr.out.ext hE8) ?_
  try simp only [Act.put, List.setIfInBounds_toArray, List.set]
  refine wpTail_cons rfl (fun K hK => ?_)
  have HG := Lib.hid (HGA.out w8 (HEw.out.trans hE8) p9 c9 (1 + tl.length) (by rw [List.length_cons]; omega) (i9.mono fun _ _ _ => ⟨trivial, rfl⟩) ((HFI.out.ext hE8).mono fun _ _ _ => ⟨trivial, rfl⟩))
  have HE8 := Lib.hid hE8
  clear hE8 q9 i9 ho9 hgr9 hEn hrw hOr HGA
  go_wp2_with fail
  refine HG.out.mono ?_
  rintro e w10 ⟨e0, e1, e2, e3, rfl, hA, hE10⟩
  obtain ⟨ka, u1, v1, z1, u2, v2, z2, u3, v3, z3, rfl, rfl, rfl, rfl⟩ := hA.form
  have hE11 := HE8.out.trans hE10
  have HBT9 := Lib.hid (HBTr.out.ext hE11)
  have HE11 := Lib.hid (HEw.out.trans hE11)
  have HA := Lib.hid hA
  have HL8 := Lib.hid (show w.heap.size + 1 < w8.heap.size from Nat.lt_of_lt_of_le HWB.out HE8.out.lt)
  go_wp2_with fail
  refine hK _ _ (HBYr.out.ext hE11) ?_
  clear hK hA hE10 hE11 HG
  try simp only [Act.put, List.setIfInBounds_toArray, List.set]
  refine wpTail_free2 rfl rfl (by kernel_rfl) ?_
  obtain ⟨t0, t1, t2, t3⟩ := HBT9.out.cell
  have y0 := HBT9.out.free 0
  have y1 := HBT9.out.free 1
  have y2 := HBT9.out.free 2
  have y3 := HBT9.out.free 3
  go_wp2_with fail
  refine OnlyN.mk ?_
  (try simp only [Exit.inBlock, Exit.then])
  go_wp2_with fail
  obtain ⟨g1, g2, g3⟩ := HBT9.out.put4 HE11.out (by omega) (.int .i64 ka) (.slice u1 v1 z1) (.slice u2 v2 z2) (.slice u3 v3 z3)
  have hA9 := ArrAt.mono (G := fun b => w.heap.size ≤ b ∨ F b) (w' := ((((w10.setCell ⟨w.heap.size + 1, 0, none⟩ (.int .i64 ka)).setCell ⟨w.heap.size + 1, 1, none⟩ (.slice u1 v1 z1)).setCell ⟨w.heap.size + 1, 2, none⟩ (.slice u2 v2 z2)).setCell ⟨w.heap.size + 1, 3, none⟩ (.slice u3 v3 z3))) (fun b hb _ => ⟨by
    have h1 := HL8.out
    rcases hb with hb | hb
    · exact .inl (by omega)
    · exact .inr hb.1.1, g3 b (by
    have h1 := HL8.out
    rcases hb with hb | hb
    · omega
    · have := hb.1.2; omega)⟩) _ _ _ _ _ HA.out
  revert g1 g2 g3 hA9
  generalize ((((w10.setCell ⟨w.heap.size + 1, 0, none⟩ (.int .i64 ka)).setCell ⟨w.heap.size + 1, 1, none⟩ (.slice u1 v1 z1)).setCell ⟨w.heap.size + 1, 2, none⟩ (.slice u2 v2 z2)).setCell ⟨w.heap.size + 1, 3, none⟩ (.slice u3 v3 z3)) = w9
  intro g1 g2 g3 hA9
  obtain ⟨x0, x1, x2, x3⟩ := g2.cell
  refine bodyPost_ret (v := .tuple #[.agg #[.int .i64 ka, .slice u1 v1 z1, .slice u2 v2 z2, .slice u3 v3 z3], .int .i64 0]) ?_ rfl ⟨_, _, _, _, by rw [HEV2.out], hA9, g1⟩
  simp [results, Try.results65, go_sem, x0, x1, x2, x3]
end Go.Proofs.Ytgkemmdghmklfaa
