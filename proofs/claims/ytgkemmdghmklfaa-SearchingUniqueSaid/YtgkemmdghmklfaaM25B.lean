/-
  THE WALKS of law25's weigh, small, ints: weigh and small give some value, ints an array over its list. (Merged: SFind, SWhere, SUniq, Help25.)
-/
import Derived.Test.YtgkemmdghmklfaaM25A
import Derived.Test.YtgkemmdghmklfaaOrdLaw
import Derived.Test.YtgkemmdghmklfaaApp
import Derived.Scope
import Derived.Test.YtgkemmdghmklfaaM25R
import Derived.Test.YtgkemmdghmklfaaApp2
import Derived.Deep.CutBlock
import Derived.Test.YtgkemmdghmklfaaCommon
namespace Go.Proofs.Ytgkemmdghmklfaa
set_option linter.unusedSimpArgs false
set_option linter.unusedVariables false
open Go.RowKit

theorem FreshN.own {B : Nat} {w : World} {t : Arr} {c0 c1 c2 c3 : Value} (h : FreshN B w t c0 c1 c2 c3) : ∀ g, c2.ownBlock = some g → B ≤ g ∧ g < w.heap.size := by
  obtain ⟨k, s, n, it⟩ := t
  obtain ⟨h0, h1, h3, k1, k2, ho, _⟩ := h
  exact ho.2.2.1.lt
theorem map_upto {f : Int → Int} {l L : List Int} {j : Nat} (hj : j < l.length) (hL : L.length = l.length) (h : ∀ i, i < l.length → L.getD i 0 = if i < j then f (l.getD i 0) else l.getD i 0) {x : Int} (hx : x = f (l.getD j 0)) : ∀ i, i < l.length → (L.set j x).getD i 0 = if i < j + 1 then f (l.getD i 0) else l.getD i 0 := by
  intro i hi
  by_cases e : i = j
  · subst e
    rw [if_pos (by omega), ← hx]
    simp [List.getD, hL, hj]
  · have h1 : (L.set j x).getD i 0 = L.getD i 0 := by simp [List.getD, List.getElem?_set, Ne.symm e]
    rw [h1, h i hi]
    by_cases h2 : i < j
    · rw [if_pos h2, if_pos (by omega)]
    · rw [if_neg h2, if_neg (by omega)]
theorem map_done {f : Int → Int} {l L : List Int} (hL : L.length = l.length) (h : ∀ i, i < l.length → L.getD i 0 = if i < l.length then f (l.getD i 0) else l.getD i 0) : L = l.map f := by
  refine list_eq_getD (by simp [hL]) fun r hr => ?_
  have h2 := h r (by omega)
  rw [if_pos (by omega)] at h2
  rw [h2]
  simp [List.getD, show r < l.length by omega]
def inF (n : Nat) (k : Int) : Int := if k < n then 1 else 0
def inV (x y : Arr) : Arr := match searchV y x with
  | .mk k s n it => .mk k s (n.map (inF (searchN y x))) it

set_option maxRecDepth 1000000 in
set_option maxHeartbeats 16000000 in
theorem sfind_any (F G : Nat → Prop) (x y : Arr) (c0 c1 c2 c3 d0 d1 d2 d3 : Value) (w : World) (hx : ArrAt F w x c0 c1 c2 c3) (hy : ArrAt G w y d0 d1 d2 d3) :
    Calls Try.prog 60 #[.agg #[c0, c1, c2, c3], .agg #[d0, d1, d2, d3]] w fun e w' => ∃ x0 x1 x2 x3, e = .returned (.tuple #[.agg #[x0, x1, x2, x3], .int .i64 (searchE x y)]) ∧ FreshN w.heap.size w' (searchV x y) x0 x1 x2 x3 ∧ Ext w w' := by
  obtain ⟨kx, p1, l1, m1, p2, l2, m2, p3, l3, m3, rfl, rfl, rfl, rfl⟩ := hx.form
  obtain ⟨ky, q1, n1, r1, q2, n2, r2, q3, n3, r3, rfl, rfl, rfl, rfl⟩ := hy.form
  have HS := Lib.hid (fun (w1 : World) (e : Ext w w1) => search_any F G x y _ _ _ _ _ _ _ _ w1 (hx.ext e) (hy.ext e))
  clear hx hy
  go_enter Try.func60, Try.ntmps60
  have hE0 : Ext w (((w.alloc (.cells #[.int .i64 kx, .slice p1 l1 m1, .slice p2 l2 m2, .slice p3 l3 m3] 26)).alloc (.cells #[.int .i64 ky, .slice q1 n1 r1, .slice q2 n2 r2, .slice q3 n3 r3] 26)).alloc (.cells #[.int .i64 0, .slice none 0 0, .slice none 0 0, .slice none 0 0] 26)) := (((Ext.refl _).alloc _).alloc _).alloc _
  have hBX := (box_new w (.int .i64 kx) (.slice p1 l1 m1) (.slice p2 l2 m2) (.slice p3 l3 m3)).ext (((Ext.refl _).alloc (.cells #[.int .i64 ky, .slice q1 n1 r1, .slice q2 n2 r2, .slice q3 n3 r3] 26)).alloc (.cells #[.int .i64 0, .slice none 0 0, .slice none 0 0, .slice none 0 0] 26))
  have hBY := (box_new (w.alloc (.cells #[.int .i64 kx, .slice p1 l1 m1, .slice p2 l2 m2, .slice p3 l3 m3] 26)) (.int .i64 ky) (.slice q1 n1 r1) (.slice q2 n2 r2) (.slice q3 n3 r3)).ext ((Ext.refl _).alloc (.cells #[.int .i64 0, .slice none 0 0, .slice none 0 0, .slice none 0 0] 26))
  have hBT := box_new ((w.alloc (.cells #[.int .i64 kx, .slice p1 l1 m1, .slice p2 l2 m2, .slice p3 l3 m3] 26)).alloc (.cells #[.int .i64 ky, .slice q1 n1 r1, .slice q2 n2 r2, .slice q3 n3 r3] 26)) (.int .i64 0) (.slice none 0 0) (.slice none 0 0) (.slice none 0 0)
  have hsz : (((w.alloc (.cells #[.int .i64 kx, .slice p1 l1 m1, .slice p2 l2 m2, .slice p3 l3 m3] 26)).alloc (.cells #[.int .i64 ky, .slice q1 n1 r1, .slice q2 n2 r2, .slice q3 n3 r3] 26)).alloc (.cells #[.int .i64 0, .slice none 0 0, .slice none 0 0, .slice none 0 0] 26)).heap.size = w.heap.size + 1 + 1 + 1 := by simp
  simp only [World.size_alloc] at hBY hBT
  have HE := Lib.hid hE0
  have HSZ := Lib.hid hsz
  have HBX := Lib.hid hBX
  have HBY := Lib.hid hBY
  have HBT := Lib.hid hBT
  clear hE0 hBX hBY hBT hsz
  go_upto_region 1 with (fail)
  generalize (((w.alloc (.cells #[.int .i64 kx, .slice p1 l1 m1, .slice p2 l2 m2, .slice p3 l3 m3] 26)).alloc (.cells #[.int .i64 ky, .slice q1 n1 r1, .slice q2 n2 r2, .slice q3 n3 r3] 26)).alloc (.cells #[.int .i64 0, .slice none 0 0, .slice none 0 0, .slice none 0 0] 26)) = w1 at *
  have HS2 := Lib.hid (HS.out w1 HE.out)
  obtain ⟨s0, s1, s2, s3⟩ := HBX.out.cell
  obtain ⟨t0, t1, t2, t3⟩ := HBY.out.cell
  clear HS
  go_wp2_with fail
  refine HS2.out.mono ?_
  rintro e w2 ⟨x0, x1, x2, x3, rfl, hF, hE1⟩
  obtain ⟨ko, o1, a1, e1, o2, a2, e2, o3, a3, e3, rfl, rfl, rfl, rfl⟩ := hF.arr.form
  have g1 := (Ext.refl w2).alloc (.cells #[.int .i64 ko, .slice o1 a1 e1, .slice o2 a2 e2, .slice o3 a3 e3] 26)
  have g2 := box_new w2 (.int .i64 ko) (.slice o1 a1 e1) (.slice o2 a2 e2) (.slice o3 a3 e3)
  have HF := Lib.hid (hF.ext g1)
  have HOB := Lib.hid hF.own
  have HB6 := Lib.hid g2
  have HLT := Lib.hid (show w1.heap.size ≤ w2.heap.size from hE1.lt)
  have HLT3 := Lib.hid (show (w2.alloc (.cells #[.int .i64 ko, .slice o1 a1 e1, .slice o2 a2 e2, .slice o3 a3 e3] 26)).heap.size = w2.heap.size + 1 by simp)
  replace HE := Lib.hid (HE.out.trans (hE1.trans g1))
  replace HBT := Lib.hid (HBT.out.ext (hE1.trans g1))
  clear g1 g2 hE1 hF s0 s1 s2 s3 t0 t1 t2 t3 HS2 HBX HBY
  go_upto_region 2 with (fail)
  generalize w2.alloc (.cells #[.int .i64 ko, .slice o1 a1 e1, .slice o2 a2 e2, .slice o3 a3 e3] 26) = w3 at *
  generalize hb6 : w2.heap.size = b6 at *
  clear hb6
  obtain ⟨x0, x1, x2, x3⟩ := HBT.out.cell
  have y0 := HBT.out.free 0
  have y1 := HBT.out.free 1
  have y2 := HBT.out.free 2
  have y3 := HBT.out.free 3
  obtain ⟨z0, z1, z2, z3⟩ := HB6.out.cell
  go_wp2_with fail
  obtain ⟨g1, g2, g3⟩ := HBT.out.put4 HE.out (by omega) (.int .i64 ko) (.slice o1 a1 e1) (.slice o2 a2 e2) (.slice o3 a3 e3)
  have hF9 := (HF.out.far (w' := (((w3.setCell ⟨w.heap.size + 1 + 1, 0, none⟩ (.int .i64 ko)).setCell ⟨w.heap.size + 1 + 1, 1, none⟩ (.slice o1 a1 e1)).setCell ⟨w.heap.size + 1 + 1, 2, none⟩ (.slice o2 a2 e2)).setCell ⟨w.heap.size + 1 + 1, 3, none⟩ (.slice o3 a3 e3)) fun b hb => g3 b (by have := HSZ.out; omega)).base (B' := w.heap.size) (by have := HSZ.out; omega)
  revert g1 g2 g3 hF9
  generalize (((w3.setCell ⟨w.heap.size + 1 + 1, 0, none⟩ (.int .i64 ko)).setCell ⟨w.heap.size + 1 + 1, 1, none⟩ (.slice o1 a1 e1)).setCell ⟨w.heap.size + 1 + 1, 2, none⟩ (.slice o2 a2 e2)).setCell ⟨w.heap.size + 1 + 1, 3, none⟩ (.slice o3 a3 e3) = w9
  intro g1 g2 g3 hF9
  clear z0 z1 z2 z3
  obtain ⟨z0, z1, z2, z3⟩ := g2.cell
  refine bodyPost_ret (v := .tuple #[.agg #[.int .i64 ko, .slice o1 a1 e1, .slice o2 a2 e2, .slice o3 a3 e3], .int .i64 (searchE x y)]) ?_ rfl ⟨_, _, _, _, rfl, hF9, g1⟩
  simp [results, Try.results60, go_sem, z0, z1, z2, z3]

set_option maxRecDepth 1000000 in
set_option maxHeartbeats 16000000 in
theorem sin_any (F G : Nat → Prop) (x y : Arr) (c0 c1 c2 c3 d0 d1 d2 d3 : Value) (w : World) (hx : ArrAt F w x c0 c1 c2 c3) (hy : ArrAt G w y d0 d1 d2 d3) :
    Calls Try.prog 62 #[.agg #[c0, c1, c2, c3], .agg #[d0, d1, d2, d3]] w fun e w' => ∃ x0 x1 x2 x3, e = .returned (.tuple #[.agg #[x0, x1, x2, x3], .int .i64 (searchE y x)]) ∧ FreshN w.heap.size w' (inV x y) x0 x1 x2 x3 ∧ Ext w w' := by
  obtain ⟨kx, p1, l1, m1, p2, l2, m2, p3, l3, m3, rfl, rfl, rfl, rfl⟩ := hx.form
  obtain ⟨ky, q1, n1, r1, q2, n2, r2, q3, n3, r3, rfl, rfl, rfl, rfl⟩ := hy.form
  have HS := Lib.hid (fun (w1 : World) (e : Ext w w1) => search_any G F y x _ _ _ _ _ _ _ _ w1 (hy.ext e) (hx.ext e))
  clear hx hy
  have HIV : Hid (inV x y = match searchV y x with | .mk k s n it => .mk k s (n.map (inF (searchN y x))) it) := rfl
  generalize inV x y = iv at *
  generalize hsv : searchV y x = sv at *
  clear hsv
  obtain ⟨kk, sh, nums, its⟩ := sv
  generalize searchN y x = sn at *
  go_enter Try.func62, Try.ntmps62
  have hE0 : Ext w (((w.alloc (.cells #[.int .i64 kx, .slice p1 l1 m1, .slice p2 l2 m2, .slice p3 l3 m3] 26)).alloc (.cells #[.int .i64 ky, .slice q1 n1 r1, .slice q2 n2 r2, .slice q3 n3 r3] 26)).alloc (.cells #[.int .i64 0, .slice none 0 0, .slice none 0 0, .slice none 0 0] 26)) := (((Ext.refl _).alloc _).alloc _).alloc _
  have hBX := (box_new w (.int .i64 kx) (.slice p1 l1 m1) (.slice p2 l2 m2) (.slice p3 l3 m3)).ext (((Ext.refl _).alloc (.cells #[.int .i64 ky, .slice q1 n1 r1, .slice q2 n2 r2, .slice q3 n3 r3] 26)).alloc (.cells #[.int .i64 0, .slice none 0 0, .slice none 0 0, .slice none 0 0] 26))
  have hBY := (box_new (w.alloc (.cells #[.int .i64 kx, .slice p1 l1 m1, .slice p2 l2 m2, .slice p3 l3 m3] 26)) (.int .i64 ky) (.slice q1 n1 r1) (.slice q2 n2 r2) (.slice q3 n3 r3)).ext ((Ext.refl _).alloc (.cells #[.int .i64 0, .slice none 0 0, .slice none 0 0, .slice none 0 0] 26))
  have hBT := box_new ((w.alloc (.cells #[.int .i64 kx, .slice p1 l1 m1, .slice p2 l2 m2, .slice p3 l3 m3] 26)).alloc (.cells #[.int .i64 ky, .slice q1 n1 r1, .slice q2 n2 r2, .slice q3 n3 r3] 26)) (.int .i64 0) (.slice none 0 0) (.slice none 0 0) (.slice none 0 0)
  have hsz : (((w.alloc (.cells #[.int .i64 kx, .slice p1 l1 m1, .slice p2 l2 m2, .slice p3 l3 m3] 26)).alloc (.cells #[.int .i64 ky, .slice q1 n1 r1, .slice q2 n2 r2, .slice q3 n3 r3] 26)).alloc (.cells #[.int .i64 0, .slice none 0 0, .slice none 0 0, .slice none 0 0] 26)).heap.size = w.heap.size + 1 + 1 + 1 := by simp
  simp only [World.size_alloc] at hBY hBT
  have HE := Lib.hid hE0
  have HSZ := Lib.hid hsz
  have HBX := Lib.hid hBX
  have HBY := Lib.hid hBY
  have HBT := Lib.hid hBT
  clear hE0 hBX hBY hBT hsz
  go_upto_region 1 with (fail)
  generalize (((w.alloc (.cells #[.int .i64 kx, .slice p1 l1 m1, .slice p2 l2 m2, .slice p3 l3 m3] 26)).alloc (.cells #[.int .i64 ky, .slice q1 n1 r1, .slice q2 n2 r2, .slice q3 n3 r3] 26)).alloc (.cells #[.int .i64 0, .slice none 0 0, .slice none 0 0, .slice none 0 0] 26)) = w1 at *
  have HS2 := Lib.hid (HS.out w1 HE.out)
  obtain ⟨s0, s1, s2, s3⟩ := HBX.out.cell
  obtain ⟨t0, t1, t2, t3⟩ := HBY.out.cell
  clear HS
  go_wp2_with fail
  refine HS2.out.mono ?_
  rintro e w2 ⟨x0, x1, x2, x3, rfl, hF, hE1⟩
  obtain ⟨ko, o1, a1, e1, o2, a2, e2, o3, a3, e3, rfl, rfl, rfl, rfl⟩ := hF.arr.form
  have g1 := (Ext.refl w2).alloc (.cells #[.int .i64 ko, .slice o1 a1 e1, .slice o2 a2 e2, .slice o3 a3 e3] 26)
  have g2 := box_new w2 (.int .i64 ko) (.slice o1 a1 e1) (.slice o2 a2 e2) (.slice o3 a3 e3)
  have HF := Lib.hid (hF.ext g1)
  have HOB := Lib.hid hF.own
  have HB6 := Lib.hid g2
  have HLT := Lib.hid (show w1.heap.size ≤ w2.heap.size from hE1.lt)
  have HLT3 := Lib.hid (show (w2.alloc (.cells #[.int .i64 ko, .slice o1 a1 e1, .slice o2 a2 e2, .slice o3 a3 e3] 26)).heap.size = w2.heap.size + 1 by simp)
  replace HE := Lib.hid (HE.out.trans (hE1.trans g1))
  replace HBT := Lib.hid (HBT.out.ext (hE1.trans g1))
  clear g1 g2 hE1 hF s0 s1 s2 s3 t0 t1 t2 t3 HS2 HBX HBY
  go_upto_region 2 with (fail)
  generalize w2.alloc (.cells #[.int .i64 ko, .slice o1 a1 e1, .slice o2 a2 e2, .slice o3 a3 e3] 26) = w3 at *
  generalize hb6 : w2.heap.size = b6 at *
  clear hb6
  obtain ⟨h0, hit, h3, hk1, hk2, hO, pS, cS, e1S, hkS, hiS⟩ := HF.out
  have hnl := hO.1
  obtain ⟨pf, cf, ef, _⟩ := hO.form
  simp only [Value.slice.injEq] at ef
  obtain ⟨rfl, rfl, rfl⟩ := ef
  obtain ⟨n, hn⟩ : ∃ n, nums.length = n := ⟨_, rfl⟩
  have hbd := hO.2.2.2.2
  have HO := Lib.hid hO
  have HIS := Lib.hid hiS
  have HKS := Lib.hid hkS
  have HE1S := Lib.hid e1S
  have HBD := Lib.hid hbd
  have HN := Lib.hid hn
  have HH := Lib.hid (And.intro h0 (And.intro hit (And.intro h3 (And.intro hk1 hk2))))
  rw [hn] at HO HB6 ⊢
  have hlen0 := hO.2.1
  rw [hn] at hlen0
  rw [hn] at HOB
  clear hiS hkS e1S hbd hn h0 hit h3 hk1 hk2 HF
  obtain ⟨z0, z1, z2, z3⟩ := HB6.out.cell
  have hsn : (sn : Int) ≤ 9223372036854775807 ∨ True := .inr trivial
  go_wp2_with fail
  go_loopw [21] (fun iv wr => ∃ (j : Nat) (M : List Int), iv = .int .i64 (j : Int) ∧ j ≤ n ∧ Hid (M.length = nums.length ∧ ∀ i, i < nums.length → M.getD i 0 = if i < j then inF sn (nums.getD i 0) else nums.getD i 0) ∧ Hid (OwnI w1.heap.size (fun _ => False) wr (.slice o2 n e2) n M) ∧ Hid (∀ b, (Value.slice o2 n e2).ownBlock ≠ some b → wr.heap[b]? = w3.heap[b]?) ∧ Hid (Ext w wr) ∧ Hid (w3.heap.size ≤ wr.heap.size)) (fun iv _ => n - (intOf iv).toNat)
  case atStart => exact ⟨0, nums, rfl, Nat.zero_le _, ⟨rfl, fun i _ => by rw [if_neg (by omega)]⟩, HO, fun _ _ => rfl, HE, Nat.le_refl _⟩
  case round =>
  obtain ⟨j, M, rfl, hjn, HM, HOr, HFr, HEr, HSr⟩ := hrel
  clear z0 z1 z2 z3
  have hb6 : (Value.slice o2 n e2).ownBlock ≠ some b6 := fun e => by have := (HOB.out b6 e).2; omega
  have HB6r := Lib.hid (HB6.out.kept (HFr.out b6 hb6))
  by_cases hlt : j < n
  · obtain ⟨g, rfl, hBg, hgl, cx, fx, sx⟩ := HOr.out.at' hlt
    have hge : g < b6 := (HOB.out g rfl).2
    have hg1 : g ≠ b6 := by omega
    have hg2 : b6 ≠ g := by omega
    have hjl : j < nums.length := by rw [HN.out]; exact hlt
    have hmj : M.getD j 0 = nums.getD j 0 := by rw [HM.out.2 j hjl, if_neg (by omega)]
    rw [hmj] at cx
    have HUP := Lib.hid (fun (x : Int) (hx : x = inF sn (nums.getD j 0)) => map_upto hjl HM.out.1 HM.out.2 hx)
    have hIF : inF sn (nums.getD j 0) = if nums.getD j 0 < sn then 1 else 0 := rfl
    obtain ⟨xv, hxv⟩ : ∃ xv, nums.getD j 0 = xv := ⟨_, rfl⟩
    rw [hxv] at cx hIF
    have HXV := Lib.hid hxv
    have o0 := sx 0 (by decide)
    obtain ⟨g', eg', _, _, cx1, fx1, sx1⟩ := o0.at' hlt
    cases eg'
    have o1' := sx1 1 (by decide)
    have e0 : Ext w (wr.setCell ⟨g, j, none⟩ (.int .i64 0)) := HEr.out.setCell (p := ⟨g, j, none⟩) (by show w.heap.size ≤ g; have := HSZ.out; omega) _
    have e1' : Ext w ((wr.setCell ⟨g, j, none⟩ (.int .i64 0)).setCell ⟨g, j, none⟩ (.int .i64 1)) := e0.setCell (p := ⟨g, j, none⟩) (by show w.heap.size ≤ g; have := HSZ.out; omega) _
    have HO0 := Lib.hid o0
    have HO1 := Lib.hid o1'
    have HE0 := Lib.hid e0
    have HE1 := Lib.hid e1'
    obtain ⟨z0, z1, z2, z3⟩ := HB6r.out.cell
    clear o0 o1' e0 e1' sx sx1 hxv hmj hjl cx1
    by_cases hk : xv < (sn : Int)
    · rw [if_pos hk] at hIF
      have HIF := Lib.hid hIF
      clear hIF
      go_wp2_with fail
      go_roundw
      case rel => exact ⟨j + 1, (M.set j 0).set j 1, by go_num, by omega, ⟨by simpa using HM.out.1, by rw [List.set_set]; exact HUP.out 1 (by rw [HXV.out]; exact HIF.out.symm)⟩, HO1, fun b hb => by
        have hb2 : b ≠ g := fun e => hb (by rw [e]; rfl)
        rw [Below.heap_setCell _ _ _ _ hb2, Below.heap_setCell _ _ _ _ hb2]; exact HFr.out b hb, HE1, Lib.hid (by simpa using HSr.out)⟩
      case measure => simp [intOf]; omega
    · rw [if_neg hk] at hIF
      have HIF := Lib.hid hIF
      clear hIF
      go_wp2_with fail
      go_roundw
      case rel => exact ⟨j + 1, M.set j 0, by go_num, by omega, ⟨by simpa using HM.out.1, HUP.out 0 (by rw [HXV.out]; exact HIF.out.symm)⟩, HO0, fun b hb => by
        have hb2 : b ≠ g := fun e => hb (by rw [e]; rfl)
        rw [Below.heap_setCell _ _ _ _ hb2]; exact HFr.out b hb, HE0, Lib.hid (by simpa using HSr.out)⟩
      case measure => simp [intOf]; omega
  have hjn2 : j = n := by omega
  subst hjn2
  have hMe : M = nums.map (inF sn) := map_done HM.out.1 (fun i hi => by have h := HM.out.2 i hi; rw [HN.out] at hi ⊢; exact h)
  have hML : M.length = j := HOr.out.1
  have hF2 : FreshN w1.heap.size wr (.mk kk sh M its) (.int .i64 ko) (.slice o1 a1 e1) (.slice o2 j e2) (.slice o3 a3 e3) :=
    ⟨HH.out.1, HH.out.2.1, HH.out.2.2.1, HH.out.2.2.2.1, HH.out.2.2.2.2, by rw [hML]; exact HOr.out, pS, cS, HE1S.out, HKS.out, by
      have h9 := HIS.out
      rw [HN.out] at h9
      exact h9.mono fun b hb _ => ⟨hb, HFr.out b hb.2⟩⟩
  rw [hMe] at hF2
  rw [← show iv = .mk kk sh (nums.map (inF sn)) its from HIV.out] at hF2
  have HF := Lib.hid hF2
  have htb : (Value.slice o2 j e2).ownBlock ≠ some (w.heap.size + 1 + 1) := fun e => by have := (HOB.out _ e).1; have := HSZ.out; omega
  replace HBT := Lib.hid (HBT.out.kept (HFr.out _ htb))
  have HE := HEr
  have HB6 := HB6r
  have HLT := Lib.hid (show w1.heap.size ≤ w1.heap.size from Nat.le_refl _)
  clear hF2 hMe hML htb hlt hb6 HM HOr HFr HSr HO HH HIS HKS HE1S HBD HOB
  obtain ⟨x0, x1, x2, x3⟩ := HBT.out.cell
  have y0 := HBT.out.free 0
  have y1 := HBT.out.free 1
  have y2 := HBT.out.free 2
  have y3 := HBT.out.free 3
  obtain ⟨z0, z1, z2, z3⟩ := HB6.out.cell
  go_wp2_with fail
  obtain ⟨g1, g2, g3⟩ := HBT.out.put4 HE.out (by omega) (.int .i64 ko) (.slice o1 a1 e1) (.slice o2 j e2) (.slice o3 a3 e3)
  have hF9 := (HF.out.far (w' := (((wr.setCell ⟨w.heap.size + 1 + 1, 0, none⟩ (.int .i64 ko)).setCell ⟨w.heap.size + 1 + 1, 1, none⟩ (.slice o1 a1 e1)).setCell ⟨w.heap.size + 1 + 1, 2, none⟩ (.slice o2 j e2)).setCell ⟨w.heap.size + 1 + 1, 3, none⟩ (.slice o3 a3 e3)) fun b hb => g3 b (by have := HSZ.out; omega)).base (B' := w.heap.size) (by have := HSZ.out; omega)
  revert g1 g2 g3 hF9
  generalize (((wr.setCell ⟨w.heap.size + 1 + 1, 0, none⟩ (.int .i64 ko)).setCell ⟨w.heap.size + 1 + 1, 1, none⟩ (.slice o1 a1 e1)).setCell ⟨w.heap.size + 1 + 1, 2, none⟩ (.slice o2 j e2)).setCell ⟨w.heap.size + 1 + 1, 3, none⟩ (.slice o3 a3 e3) = w9
  intro g1 g2 g3 hF9
  clear z0 z1 z2 z3
  obtain ⟨z0, z1, z2, z3⟩ := g2.cell
  refine bodyPost_ret (v := .tuple #[.agg #[.int .i64 ko, .slice o1 a1 e1, .slice o2 j e2, .slice o3 a3 e3], .int .i64 (searchE y x)]) ?_ rfl ⟨_, _, _, _, rfl, hF9, g1⟩
  simp [results, Try.results62, go_sem, z0, z1, z2, z3]
end Go.Proofs.Ytgkemmdghmklfaa

namespace Go.Proofs.Ytgkemmdghmklfaa
set_option linter.unusedSimpArgs false
set_option linter.unusedVariables false
open Go.RowKit

def whGo : Nat → List Int → List Int → Option (List Int)
  | _, [], acc => some acc
  | i, n :: r, acc => if 65536 - (acc.length : Int) < n then none else whGo (i + 1) r (acc ++ List.replicate n.toNat (i : Int))
/-- What Where returns. -/
def whereV : Arr → Arr × Int
  | .mk k s n it => if rightV (.mk k s n it) ≠ 0 then (Arr.zero, 1) else if k ≠ 1 then (Arr.zero, 14) else if 1 < s.length then (Arr.zero, 15) else if n.any isNeg = true then (Arr.zero, 17) else
    match whGo 0 n [] with
    | none => (Arr.zero, 21)
    | some l => (vecV l, 0)

theorem whNeg_any (n : Int) (w : World) : Calls Try.prog 115 #[.int .i64 n] w fun e w' => e = .returned (.bool (isNeg n)) ∧ w = w' := by
  go_enter Try.func115, Try.ntmps115
  go_wp2
  go_ret
  exact ⟨rfl, rfl⟩

set_option maxHeartbeats 400000 in
theorem indexFunc_whNeg (F : Nat → Prop) (p : Option Addr) (c : Nat) (s : List Int)  (w : World) (h : IntsAt F w p s) (hn : s.length ≤ lenMax)  :
    Calls Try.prog 131 #[.slice p s.length c, .func (.func 115) #[] #[]] w fun e w' => e = .returned (.int .i64 (idxGo isNeg 0 s)) ∧ w = w' := by
  unfold lenMax at hn
  generalize hans : idxGo isNeg 0 s = ans
  have HANS := Lib.hid hans
  clear hans
  go_enter Try.func131, Try.ntmps131
  go_wp2
  go_loop [8] (fun i => ∃ (k : Nat), k ≤ s.length ∧ i = .int .i64 k ∧ Hid (idxGo isNeg k (s.drop k) = ans)) (fun i => s.length - (intOf i).toNat)
  case atStart => exact ⟨0, Nat.zero_le _, rfl, HANS.out⟩
  case round =>
    obtain ⟨k, hk, rfl, HR⟩ := hrel
    clear HANS
    by_cases hlt : k < s.length
    · obtain ⟨b, off, rfl, hc, _, _⟩ := h.get hlt
      have HD := hid_intro (drop_getD hlt)
      clear h
      generalize s.getD k 0 = d at *
      by_cases h3 : isNeg d = true
      · have HF : Hid ((k : Int) = ans) := by
          have := HR.out
          rw [HD.out, idxGo, if_pos h3] at this
          exact this
        have H3 := Lib.hid h3
        clear HR HD h3
        go_wp2_with (go_at_call 115; refine (whNeg_any d _).mono ?_; rintro e w' ⟨rfl, rfl⟩; rw [H3.out])
        go_ret
        exact ⟨ret_int HF.out, rfl⟩
      · have HF : Hid (idxGo isNeg ((k + 1 : Nat) : Int) (s.drop (k + 1)) = ans) := by
          have := HR.out
          rw [HD.out, idxGo, if_neg h3] at this
          rw [← this]; congr 1
        have H3 : Hid (isNeg d = false) := by
          show isNeg d = false
          exact Bool.eq_false_iff.2 h3
        clear HR HD h3
        go_wp2_with (go_at_call 115; refine (whNeg_any d _).mono ?_; rintro e w' ⟨rfl, rfl⟩; rw [H3.out])
        go_round
        case rel => exact ⟨k + 1, by omega, by go_num, HF⟩
        case measure => simp [intOf]; omega
    · have HF : Hid ((-1 : Int) = ans) := by
        have := HR.out
        rw [List.drop_of_length_le (by omega), idxGo] at this
        exact this
      clear HR
      go_wp2
      go_ret
      exact ⟨ret_int HF.out, rfl⟩

theorem containsFunc_whNeg (F : Nat → Prop) (p : Option Addr) (c : Nat) (s : List Int)  (w : World) (h : IntsAt F w p s) (hn : s.length ≤ lenMax)  :
    Calls Try.prog 80 #[.slice p s.length c, .func (.func 115) #[] #[]] w fun e w' => e = .returned (.bool (s.any isNeg)) ∧ w = w' := by
  have HB := Lib.hid (idxGo_neg isNeg s 0 (by omega))
  go_enter Try.func80, Try.ntmps80
  go_wp2_with (go_at_call 131; refine (indexFunc_whNeg F p c s  _ h hn ).mono ?_; rintro e w' ⟨rfl, rfl⟩)
  go_ret
  exact ⟨ret_bool HB.out, rfl⟩

set_option maxRecDepth 1000000 in
set_option maxHeartbeats 8000000 in
theorem vector_any (F : Nat → Prop) (p : Option Addr) (c n : Nat) (l : List Int) (w : World) (h : IntsAt F w p l) (hn : l.length = n) (h6 : n ≤ 65536) :
    Calls Try.prog 117 #[.slice p n c] w fun e w' => ∃ e0 e1 e2 e3, e = .returned (.agg #[e0, e1, e2, e3]) ∧ ArrAt (fun b => w.heap.size ≤ b) w' (vecV l) e0 e1 e2 e3 ∧ Ext w w' := by
  have HC := Lib.hid (fun (w1 : World) (e : Ext w w1) => clone_ints F p c l w1 (h.ext e) (by unfold lenMax; omega))
  rw [hn] at HC
  have HN := Lib.hid hn
  have hB := box_new w (.int .i64 0) (.slice none 0 0) (.slice none 0 0) (.slice none 0 0)
  have hE0 : Ext w ((w.alloc (.cells #[.int .i64 0, .slice none 0 0, .slice none 0 0, .slice none 0 0] 26)).alloc (.cells #[.int .i64 (n : Int)] 3)) := ((Ext.refl _).alloc _).alloc _
  have hR := (rowI_new (w.alloc (.cells #[.int .i64 0, .slice none 0 0, .slice none 0 0, .slice none 0 0] 26)) [(n : Int)])
  rw [World.size_alloc] at hR
  have HE := Lib.hid hE0
  have HB := Lib.hid (hB.ext ((Ext.refl (w.alloc (.cells #[.int .i64 0, .slice none 0 0, .slice none 0 0, .slice none 0 0] 26))).alloc (.cells #[.int .i64 (n : Int)] 3)))
  have HR := Lib.hid hR
  clear h hn hB hE0 hR
  go_enter Try.func117, Try.ntmps117
  go_wp2_with fail
  refine (HC.out _ HE.out).mono ?_
  rintro e w2 ⟨v, rfl, hO, hE1⟩
  obtain ⟨pv, cv, rfl, _⟩ := hO.form
  have HO := Lib.hid hO
  have hlt : w.heap.size + 1 + 1 ≤ w2.heap.size := by have := hE1.lt; simpa using this
  have HLT := Lib.hid (show w.heap.size + 1 + 1 ≤ ((w.alloc (.cells #[.int .i64 0, .slice none 0 0, .slice none 0 0, .slice none 0 0] 26)).alloc (.cells #[.int .i64 (n : Int)] 3)).heap.size by simp)
  replace HB := Lib.hid (HB.out.ext hE1)
  have HR2 := Lib.hid ((show RowI ((w.alloc (.cells #[.int .i64 0, .slice none 0 0, .slice none 0 0, .slice none 0 0] 26)).alloc (.cells #[.int .i64 (n : Int)] 3)) (w.heap.size + 1) [(n : Int)] from HR.out).ext hE1)
  replace HE := Lib.hid (HE.out.trans hE1)
  generalize (w.alloc (.cells #[.int .i64 0, .slice none 0 0, .slice none 0 0, .slice none 0 0] 26)).alloc (.cells #[.int .i64 (n : Int)] 3) = w1 at *
  clear hE1 hO HC HR
  obtain ⟨x0, x1, x2, x3⟩ := HB.out.cell
  have y0 := HB.out.free 0
  have y1 := HB.out.free 1
  have y2 := HB.out.free 2
  have y3 := HB.out.free 3
  go_wp2_with fail
  obtain ⟨g1, g2, g3⟩ := HB.out.put4 HE.out (Nat.le_refl _) (.int .i64 1) (.slice (some ⟨w.heap.size + 1, 0, none⟩) 1 1) (.slice pv n cv) (.slice none 0 0)
  have hA : ArrAt (fun b => w.heap.size ≤ b) (((((w2.setCell ⟨w.heap.size, 0, none⟩ (.int .i64 1)).setCell ⟨w.heap.size, 1, none⟩ (.slice (some ⟨w.heap.size + 1, 0, none⟩) 1 1)).setCell ⟨w.heap.size, 2, none⟩ (.slice pv n cv)).setCell ⟨w.heap.size, 3, none⟩ (.slice none 0 0))) (vecV l) (.int .i64 1) (.slice (some ⟨w.heap.size + 1, 0, none⟩) 1 1) (.slice pv n cv) (.slice none 0 0) := by
    unfold vecV ArrAt
    obtain ⟨p9, c9, e9, q9, i9⟩ := HO.out.ints
    have hn9 := HN.out
    refine ⟨rfl, by decide, ⟨_, _, rfl, ⟨Nat.le_refl _, by simp, by simp⟩, ?_⟩, ⟨p9, c9, by rw [← e9], q9, i9.mono fun b hb _ => ⟨?_, g3 b ?_⟩⟩, nilA _ _⟩
    · have h1 := HR2.out.ints (by simp; omega)
      rw [HN.out]
      exact h1.mono fun b hb _ => ⟨by have : b = w.heap.size + 1 := hb; omega, g3 b (by have : b = w.heap.size + 1 := hb; omega)⟩
    · have := hb.1; have := HLT.out; omega
    · have := hb.1; have := HLT.out; omega
  revert g1 g2 g3 hA
  generalize ((((w2.setCell ⟨w.heap.size, 0, none⟩ (.int .i64 1)).setCell ⟨w.heap.size, 1, none⟩ (.slice (some ⟨w.heap.size + 1, 0, none⟩) 1 1)).setCell ⟨w.heap.size, 2, none⟩ (.slice pv n cv)).setCell ⟨w.heap.size, 3, none⟩ (.slice none 0 0)) = w9
  intro g1 g2 g3 hA
  obtain ⟨z0, z1, z2, z3⟩ := g2.cell
  refine bodyPost_ret (v := .agg #[.int .i64 1, .slice (some ⟨w.heap.size + 1, 0, none⟩) 1 1, .slice pv n cv, .slice none 0 0]) ?_ rfl ⟨_, _, _, _, rfl, hA, g1⟩
  simp [results, Try.results117, go_sem, z0, z1, z2, z3]

set_option maxRecDepth 1000000 in
set_option maxHeartbeats 16000000 in
theorem swhere_any (F : Nat → Prop) (y : Arr) (c0 c1 c2 c3 : Value) (w : World) (hy : ArrAt F w y c0 c1 c2 c3) :
    Calls Try.prog 66 #[.agg #[c0, c1, c2, c3]] w fun e w' => ∃ e0 e1 e2 e3, e = .returned (.tuple #[.agg #[e0, e1, e2, e3], .int .i64 (whereV y).2]) ∧ ArrAt (fun b => w.heap.size ≤ b) w' (whereV y).1 e0 e1 e2 e3 ∧ Ext w w' := by
  obtain ⟨ky, s, ns, it⟩ := y
  have hy' := hy
  unfold ArrAt at hy'
  obtain ⟨rfl, hky, ⟨p1, m1, rfl, ⟨r1, r1', r1''⟩, j1⟩, ⟨p2, m2, rfl, ⟨r2, r2', r2''⟩, j2⟩, ⟨p3, m3, rfl, ⟨r3, r3', r3''⟩, j3⟩⟩ := hy'
  have HV : Hid (whereV (.mk ky s ns it) = if rightV (.mk ky s ns it) ≠ 0 then ((Arr.zero, 1) : Arr × Int) else if ky ≠ 1 then (Arr.zero, 14) else if 1 < s.length then (Arr.zero, 15) else if ns.any isNeg = true then (Arr.zero, 17) else match whGo 0 ns [] with
    | none => (Arr.zero, 21)
    | some l => (vecV l, 0)) := rfl
  generalize whereV (.mk ky s ns it) = vv at *
  have HY := Lib.hid hy
  have HJ := Lib.hid j2
  clear hy j1 j2 j3
  go_enter Try.func66, Try.ntmps66
  have hE0 : Ext w ((w.alloc (.cells #[.int .i64 ky, .slice p1 s.length m1, .slice p2 ns.length m2, .slice p3 it.length m3] 26)).alloc (.cells #[.int .i64 0, .slice none 0 0, .slice none 0 0, .slice none 0 0] 26)) := ((Ext.refl _).alloc _).alloc _
  have hBY := (box_new w (.int .i64 ky) (.slice p1 s.length m1) (.slice p2 ns.length m2) (.slice p3 it.length m3)).ext ((Ext.refl _).alloc (.cells #[.int .i64 0, .slice none 0 0, .slice none 0 0, .slice none 0 0] 26))
  have hBT := box_new (w.alloc (.cells #[.int .i64 ky, .slice p1 s.length m1, .slice p2 ns.length m2, .slice p3 it.length m3] 26)) (.int .i64 0) (.slice none 0 0) (.slice none 0 0) (.slice none 0 0)
  simp only [World.size_alloc] at hBT
  have HE := Lib.hid hE0
  have HBY := Lib.hid hBY
  have HBT := Lib.hid hBT
  clear hE0 hBY hBT
  go_upto_region 1 with (fail)
  refine wp_scope_straight ?_
  generalize ((w.alloc (.cells #[.int .i64 ky, .slice p1 s.length m1, .slice p2 ns.length m2, .slice p3 it.length m3] 26)).alloc (.cells #[.int .i64 0, .slice none 0 0, .slice none 0 0, .slice none 0 0] 26)) = w1 at *
  obtain ⟨s0, s1, s2, s3⟩ := HBY.out.cell
  have HRY := Lib.hid (right_any F _ _ _ _ _ w1 (HY.out.ext HE.out))
  go_wp2_with fail
  refine HRY.out.mono ?_
  rintro e w2 ⟨rfl, hE1⟩
  replace HE := Lib.hid (HE.out.trans hE1)
  replace HBY := Lib.hid (HBY.out.ext hE1)
  replace HBT := Lib.hid (HBT.out.ext hE1)
  clear hE1 s0 s1 s2 s3 HRY
  generalize hr : rightV (.mk ky s ns it) = ry at *
  by_cases h1 : ry = 0
  rotate_left
  · have h1' : (ry != 0) = true := by simpa using h1
    have hv := HV.out
    rw [if_pos h1] at hv
    have HV2 := Lib.hid hv
    clear h1 HV hv hr
    obtain ⟨t0, t1, t2, t3⟩ := HBT.out.cell
    have y0 := HBT.out.free 0
    have y1 := HBT.out.free 1
    have y2 := HBT.out.free 2
    have y3 := HBT.out.free 3
    go_wp2_with fail
    obtain ⟨g1, g2, g3⟩ := HBT.out.put4 HE.out (by omega) (.int .i64 0) (.slice none 0 0) (.slice none 0 0) (.slice none 0 0)
    revert g1 g2 g3
    generalize ((((w2.setCell ⟨w.heap.size + 1, 0, none⟩ (.int .i64 0)).setCell ⟨w.heap.size + 1, 1, none⟩ (.slice none 0 0)).setCell ⟨w.heap.size + 1, 2, none⟩ (.slice none 0 0)).setCell ⟨w.heap.size + 1, 3, none⟩ (.slice none 0 0)) = w9
    intro g1 g2 g3
    obtain ⟨z0, z1, z2, z3⟩ := g2.cell
    (try simp only [Exit.noGoto])
    refine bodyPost_ret (v := .tuple #[.agg #[(.int .i64 0), (.slice none 0 0), (.slice none 0 0), (.slice none 0 0)], .int .i64 1]) ?_ rfl ⟨_, _, _, _, by rw [HV2.out], by rw [HV2.out]; exact Arr.zero_at _ _, g1⟩
    simp [results, Try.results66, go_sem, z0, z1, z2, z3]
  have hv := HV.out
  rw [if_neg (by rw [h1]; simp)] at hv
  replace HV := Lib.hid hv
  have hN6 : ns.length ≤ 65536 := by
    rw [h1] at hr
    obtain ⟨_, _, _, hq, hq2⟩ := right_parts hr
    have := shapeSize_hi s
    by_cases hk : ky = 3
    · have := hq2 hk; rw [this.1]; simp
    · have := hq hk; omega
  subst h1
  clear hv hr
  obtain ⟨s0, s1, s2, s3⟩ := HBY.out.cell
  by_cases h1 : ky = 1
  rotate_left
  · have h1' : (ky != 1) = true := by simpa using h1
    have hv := HV.out
    rw [if_pos h1] at hv
    have HV2 := Lib.hid hv
    clear h1 HV hv
    obtain ⟨t0, t1, t2, t3⟩ := HBT.out.cell
    have y0 := HBT.out.free 0
    have y1 := HBT.out.free 1
    have y2 := HBT.out.free 2
    have y3 := HBT.out.free 3
    go_wp2_with fail
    obtain ⟨g1, g2, g3⟩ := HBT.out.put4 HE.out (by omega) (.int .i64 0) (.slice none 0 0) (.slice none 0 0) (.slice none 0 0)
    revert g1 g2 g3
    generalize ((((w2.setCell ⟨w.heap.size + 1, 0, none⟩ (.int .i64 0)).setCell ⟨w.heap.size + 1, 1, none⟩ (.slice none 0 0)).setCell ⟨w.heap.size + 1, 2, none⟩ (.slice none 0 0)).setCell ⟨w.heap.size + 1, 3, none⟩ (.slice none 0 0)) = w9
    intro g1 g2 g3
    obtain ⟨z0, z1, z2, z3⟩ := g2.cell
    (try simp only [Exit.noGoto])
    refine bodyPost_ret (v := .tuple #[.agg #[(.int .i64 0), (.slice none 0 0), (.slice none 0 0), (.slice none 0 0)], .int .i64 14]) ?_ rfl ⟨_, _, _, _, by rw [HV2.out], by rw [HV2.out]; exact Arr.zero_at _ _, g1⟩
    simp [results, Try.results66, go_sem, z0, z1, z2, z3]
  have hv := HV.out
  rw [if_neg (by rw [h1]; simp)] at hv
  replace HV := Lib.hid hv
  subst h1
  clear hv
  by_cases h1 : 1 < s.length
  · have hv := HV.out
    rw [if_pos h1] at hv
    have HV2 := Lib.hid hv
    clear HV hv
    obtain ⟨t0, t1, t2, t3⟩ := HBT.out.cell
    have y0 := HBT.out.free 0
    have y1 := HBT.out.free 1
    have y2 := HBT.out.free 2
    have y3 := HBT.out.free 3
    go_wp2_with fail
    obtain ⟨g1, g2, g3⟩ := HBT.out.put4 HE.out (by omega) (.int .i64 0) (.slice none 0 0) (.slice none 0 0) (.slice none 0 0)
    revert g1 g2 g3
    generalize ((((w2.setCell ⟨w.heap.size + 1, 0, none⟩ (.int .i64 0)).setCell ⟨w.heap.size + 1, 1, none⟩ (.slice none 0 0)).setCell ⟨w.heap.size + 1, 2, none⟩ (.slice none 0 0)).setCell ⟨w.heap.size + 1, 3, none⟩ (.slice none 0 0)) = w9
    intro g1 g2 g3
    obtain ⟨z0, z1, z2, z3⟩ := g2.cell
    (try simp only [Exit.noGoto])
    refine bodyPost_ret (v := .tuple #[.agg #[(.int .i64 0), (.slice none 0 0), (.slice none 0 0), (.slice none 0 0)], .int .i64 15]) ?_ rfl ⟨_, _, _, _, by rw [HV2.out], by rw [HV2.out]; exact Arr.zero_at _ _, g1⟩
    simp [results, Try.results66, go_sem, z0, z1, z2, z3]
  have hv := HV.out
  rw [if_neg h1] at hv
  replace HV := Lib.hid hv
  have HNG := Lib.hid (fun (w' : World) (e : Ext w w') => containsFunc_whNeg F p2 m2 ns w' (HJ.out.ext e) (by unfold lenMax; omega))
  clear hv
  go_wp2_with fail
  refine (HNG.out w2 HE.out).mono ?_
  rintro e w2' ⟨rfl, rfl⟩
  generalize hng : ns.any isNeg = ng at *
  cases ng with
  | true =>
    have hv := HV.out
    rw [if_pos rfl] at hv
    have HV2 := Lib.hid hv
    clear HV hv hng
    obtain ⟨t0, t1, t2, t3⟩ := HBT.out.cell
    have y0 := HBT.out.free 0
    have y1 := HBT.out.free 1
    have y2 := HBT.out.free 2
    have y3 := HBT.out.free 3
    go_wp2_with fail
    obtain ⟨g1, g2, g3⟩ := HBT.out.put4 HE.out (by omega) (.int .i64 0) (.slice none 0 0) (.slice none 0 0) (.slice none 0 0)
    revert g1 g2 g3
    generalize ((((w2.setCell ⟨w.heap.size + 1, 0, none⟩ (.int .i64 0)).setCell ⟨w.heap.size + 1, 1, none⟩ (.slice none 0 0)).setCell ⟨w.heap.size + 1, 2, none⟩ (.slice none 0 0)).setCell ⟨w.heap.size + 1, 3, none⟩ (.slice none 0 0)) = w9
    intro g1 g2 g3
    obtain ⟨z0, z1, z2, z3⟩ := g2.cell
    (try simp only [Exit.noGoto])
    refine bodyPost_ret (v := .tuple #[.agg #[(.int .i64 0), (.slice none 0 0), (.slice none 0 0), (.slice none 0 0)], .int .i64 17]) ?_ rfl ⟨_, _, _, _, by rw [HV2.out], by rw [HV2.out]; exact Arr.zero_at _ _, g1⟩
    simp [results, Try.results66, go_sem, z0, z1, z2, z3]
  | false =>
  have hv := HV.out
  rw [if_neg (by simp)] at hv
  replace HV := Lib.hid hv
  have HNN : Hid (∀ i, i < ns.length → 0 ≤ ns.getD i 0) := fun i hi => by
    have h2 := List.any_eq_false.1 hng (ns.getD i 0) (by simp [List.getD, hi])
    simpa [isNeg] using h2
  clear hv hng HNG
  obtain ⟨n, hn⟩ : ∃ n, ns.length = n := ⟨_, rfl⟩
  have HN := Lib.hid hn
  rw [hn] at HNN hN6 HBY ⊢
  clear hn s0 s1 s2 s3
  obtain ⟨s0, s1, s2, s3⟩ := HBY.out.cell
  go_wp2_with fail
  refine wp_label ?_
  (try simp only [Exit.then])
  go_wp2_with fail
  go_loopw [4, 31] (fun lv iv wr => ∃ (i : Nat) (v : Value) (acc : List Int), i ≤ n ∧ v = lv ∧ iv = .int .i64 (i : Int) ∧ Hid (whGo i (ns.drop i) acc = whGo 0 ns []) ∧ acc.length ≤ 65536 ∧ Hid (OwnI w2.heap.size (fun _ => False) wr v acc.length acc) ∧ Hid (Ext w2 wr)) (fun _ iv _ => n - (intOf iv).toNat)
  case atStart => exact ⟨0, _, [], Nat.zero_le _, rfl, rfl, by rw [List.drop_zero]; rfl, by simp, OwnI.nil _ _ _, Ext.refl _⟩
  case round =>
  obtain ⟨i, v, acc, hin, rfl, rfl, HG, hal, HO, HEr⟩ := hrel
  obtain ⟨pv, cv, rfl, hcv⟩ := HO.out.form
  obtain ⟨al, hacl⟩ : ∃ al, acc.length = al := ⟨_, rfl⟩
  have HAL := Lib.hid hacl
  rw [hacl] at hal HO ⊢
  clear s0 s1 s2 s3 hacl hcv
  by_cases hlt : i < n
  · have hil : i < ns.length := by rw [HN.out]; exact hlt
    obtain ⟨bx, ox, rfl, cx, wx0, wx1⟩ := (HJ.out.ext (HE.out.trans HEr.out)).get hil
    have hx0 := HNN.out i hlt
    have HST : Hid (whGo i (ns.drop i) acc = if 65536 - (acc.length : Int) < ns.getD i 0 then none else whGo (i + 1) (ns.drop (i + 1)) (acc ++ List.replicate (ns.getD i 0).toNat (i : Int))) := by
      unfold Hid
      have e : ns.drop i = ns.getD i 0 :: ns.drop (i + 1) := by
        rw [List.drop_eq_getElem_cons hil]; simp [List.getD, hil]
      rw [e, whGo]
    rw [HAL.out] at HST
    generalize ns.getD i 0 = x at *
    obtain ⟨s0, s1, s2, s3⟩ := (HBY.out.ext HEr.out).cell
    clear hil
    by_cases hz : x = 0
    · subst hz
      have HG2 : Hid (whGo (i + 1) (ns.drop (i + 1)) acc = whGo 0 ns []) := by
        unfold Hid
        rw [← HG.out, HST.out, if_neg (by omega)]; simp
      clear HG HST
      go_wp2_with fail
      go_roundw
      case rel => exact ⟨i + 1, _, acc, by omega, rfl, by go_num, HG2, by rw [HAL.out]; exact hal, by rw [HAL.out]; exact HO, HEr⟩
      case measure => simp [intOf]; omega
    have hzb : (x == 0) = false := by simpa using hz
    by_cases hbig : 65536 - (al : Int) < x
    · have hv := HV.out
      rw [← HG.out, HST.out, if_pos hbig] at hv
      have HV2 : Hid (vv = (Arr.zero, 21)) := hv
      have HB2 := Lib.hid (HBT.out.ext HEr.out)
      have HE2 := Lib.hid (HE.out.trans HEr.out)
      clear HV hv HG HST HBT HE hz
      have HBT := HB2
      have HE := HE2
      clear HB2 HE2
      obtain ⟨t0, t1, t2, t3⟩ := HBT.out.cell
      have y0 := HBT.out.free 0
      have y1 := HBT.out.free 1
      have y2 := HBT.out.free 2
      have y3 := HBT.out.free 3
      go_wp2_with fail
      obtain ⟨g1, g2, g3⟩ := HBT.out.put4 HE.out (by omega) (.int .i64 0) (.slice none 0 0) (.slice none 0 0) (.slice none 0 0)
      revert g1 g2 g3
      generalize ((((wr.setCell ⟨w.heap.size + 1, 0, none⟩ (.int .i64 0)).setCell ⟨w.heap.size + 1, 1, none⟩ (.slice none 0 0)).setCell ⟨w.heap.size + 1, 2, none⟩ (.slice none 0 0)).setCell ⟨w.heap.size + 1, 3, none⟩ (.slice none 0 0)) = w9
      intro g1 g2 g3
      obtain ⟨z0, z1, z2, z3⟩ := g2.cell
      (try simp only [Exit.noGoto])
      refine bodyPost_ret (v := .tuple #[.agg #[(.int .i64 0), (.slice none 0 0), (.slice none 0 0), (.slice none 0 0)], .int .i64 21]) ?_ rfl ⟨_, _, _, _, by rw [HV2.out], by rw [HV2.out]; exact Arr.zero_at _ _, g1⟩
      simp [results, Try.results66, go_sem, z0, z1, z2, z3]
    obtain ⟨xn, rfl⟩ : ∃ xn : Nat, x = xn := ⟨x.toNat, by omega⟩
    have hx6 : xn ≤ 65536 := by omega
    have HG2 : Hid (whGo (i + 1) (ns.drop (i + 1)) (acc ++ List.replicate xn (i : Int)) = whGo 0 ns []) := by
      unfold Hid
      rw [← HG.out, HST.out, if_neg hbig]; simp
    have hEn : Ext wr (wr.alloc (.cells #[.int .i64 (i : Int)] 3)) := (Ext.refl _).alloc _
    have hrow := (rowI_new wr [(i : Int)])
    have HREP := Lib.hid (repeat_one _ (some ⟨wr.heap.size, 0, none⟩) 1 (i : Int) xn (wr.alloc (.cells #[.int .i64 (i : Int)] 3)) (RowI.ints hrow (by simp; omega)) hx6)
    have HEn := Lib.hid (HEr.out.trans hEn)
    have HOn := Lib.hid (HO.out.ext hEn)
    clear hEn hrow HG HST hz HO
    go_wp2_with fail
    refine HREP.out.mono ?_
    rintro e w4 ⟨g, rfl, hg, hrg, hE4⟩
    have HO4 := Lib.hid (HOn.out.ext hE4)
    have HE4 : Hid (Ext w2 w4) := HEn.out.trans hE4
    have hri := RowI.ints hrg (fun z hz => by have := List.eq_of_mem_replicate hz; omega)
    have HRI := Lib.hid hri
    have HRL : Hid ((List.replicate xn (i : Int)).length = xn) := by unfold Hid; simp
    generalize List.replicate xn (i : Int) = rl at *
    clear hrg hE4 HREP HOn HEn hri
    go_wp2_with (at_builtin; refine wpList_append_ints rfl _ _ rfl _ w2.heap.size (fun _ => False) (.slice pv al cv) al acc (some ⟨g, 0, none⟩) xn rl rfl HO4.out (by rw [HRL.out]; rfl) HRI.out (fun _ h => h.elim) (by rw [HRL.out]; omega) HE4.out.lt ?_)
    intro v9 w9 ho9 hgr9 _
    have hE9 : Ext w2 w9 := HE4.out.grown hgr9 HE4.out.lt (fun q e => (HO4.out.2.2.1.lt q e).1)
    rw [HRL.out] at ho9
    have HO9 := Lib.hid ho9
    have HE9 := Lib.hid hE9
    obtain ⟨p9, c9, rfl, _⟩ := ho9.form
    clear ho9 hgr9 hE9 HO4 HE4 HRI
    go_wp2_with fail
    go_roundw
    case rel => exact ⟨i + 1, _, acc ++ rl, by omega, rfl, by go_num, HG2, by rw [List.length_append, HAL.out, HRL.out]; omega, by rw [List.length_append, HAL.out, HRL.out]; exact HO9, HE9⟩
    case measure => simp [intOf]; omega
  have hin2 : i = n := by omega
  subst hin2
  have hG := HG.out
  rw [List.drop_of_length_le (by rw [HN.out]; exact Nat.le_refl _), whGo] at hG
  have hv := HV.out
  rw [← hG] at hv
  have HV2 : Hid (vv = (vecV acc, 0)) := hv
  obtain ⟨p9, c9, e9, q9, i9⟩ := HO.out.ints
  simp only [Value.slice.injEq] at e9
  obtain ⟨rfl, h9, rfl⟩ := e9
  clear h9
  have HVC := Lib.hid (vector_any _ pv cv al acc wr i9 HAL.out hal)
  have HBT2 := Lib.hid (HBT.out.ext HEr.out)
  have HE2 := Lib.hid (HE.out.trans HEr.out)
  clear hG hv HV HG q9 i9 HO HBT HE
  go_wp2_with fail
  refine HVC.out.mono ?_
  rintro e w4 ⟨e0, e1, e2, e3, rfl, hA, hE4⟩
  obtain ⟨ka, u1, v1, z1, u2, v2, z2, u3, v3, z3, rfl, rfl, rfl, rfl⟩ := hA.form
  have HBT := Lib.hid (HBT2.out.ext hE4)
  have HE := Lib.hid (HE2.out.trans hE4)
  have HA := Lib.hid hA
  have HLT := Lib.hid (show w.heap.size + 1 < wr.heap.size from HBT2.out.lt)
  clear hE4 hA HBT2 HE2
  obtain ⟨t0, t1, t2, t3⟩ := HBT.out.cell
  have y0 := HBT.out.free 0
  have y1 := HBT.out.free 1
  have y2 := HBT.out.free 2
  have y3 := HBT.out.free 3
  go_wp2_with fail
  obtain ⟨g1, g2, g3⟩ := HBT.out.put4 HE.out (by omega) (.int .i64 ka) (.slice u1 v1 z1) (.slice u2 v2 z2) (.slice u3 v3 z3)
  have hA9 := ArrAt.mono (G := fun b => w.heap.size ≤ b) (w' := ((((w4.setCell ⟨w.heap.size + 1, 0, none⟩ (.int .i64 ka)).setCell ⟨w.heap.size + 1, 1, none⟩ (.slice u1 v1 z1)).setCell ⟨w.heap.size + 1, 2, none⟩ (.slice u2 v2 z2)).setCell ⟨w.heap.size + 1, 3, none⟩ (.slice u3 v3 z3))) (fun b hb _ => ⟨by have := HLT.out; omega, g3 b (by have := HLT.out; omega)⟩) _ _ _ _ _ HA.out
  revert g1 g2 g3 hA9
  generalize ((((w4.setCell ⟨w.heap.size + 1, 0, none⟩ (.int .i64 ka)).setCell ⟨w.heap.size + 1, 1, none⟩ (.slice u1 v1 z1)).setCell ⟨w.heap.size + 1, 2, none⟩ (.slice u2 v2 z2)).setCell ⟨w.heap.size + 1, 3, none⟩ (.slice u3 v3 z3)) = w9
  intro g1 g2 g3 hA9
  obtain ⟨x0, x1, x2, x3⟩ := g2.cell
  (try simp only [Exit.noGoto])
  refine bodyPost_ret (v := .tuple #[.agg #[.int .i64 ka, .slice u1 v1 z1, .slice u2 v2 z2, .slice u3 v3 z3], .int .i64 0]) ?_ rfl ⟨_, _, _, _, by rw [HV2.out], by rw [HV2.out]; exact hA9, g1⟩
  simp [results, Try.results66, go_sem, x0, x1, x2, x3]
end Go.Proofs.Ytgkemmdghmklfaa

namespace Go.Proofs.Ytgkemmdghmklfaa
set_option linter.unusedSimpArgs false
set_option linter.unusedVariables false
open Go.RowKit

/-- The first i arrays of L without those that are there already. -/
def uqL (L : List Arr) : Nat → List Arr
  | 0 => []
  | i + 1 => if placeV L (L.getD i default) < i then uqL L i else uqL L i ++ [L.getD i default]
theorem uqL_len (L : List Arr) : ∀ i, (uqL L i).length ≤ i
  | 0 => Nat.le_refl _
  | i + 1 => by
    have := uqL_len L i
    rw [uqL]
    split
    · omega
    · rw [List.length_append]; simp; omega
/-- What Unique returns. -/
def uniqV (y : Arr) : Arr := if rightV y ≠ 0 then Arr.zero else .mk y.k (((uqL (cellsV y (-1)) (cellsV y (-1)).length).length : Int) :: y.sh.drop 1) ((uqL (cellsV y (-1)) (cellsV y (-1)).length).flatMap Arr.n) ((uqL (cellsV y (-1)) (cellsV y (-1)).length).flatMap Arr.it)
def uniqE (y : Arr) : Int := if rightV y ≠ 0 then 1 else 0
theorem right_lensU {t : Arr} (h : rightV t = 0) : t.n.length ≤ 65536 ∧ t.it.length ≤ 65536 := by
  obtain ⟨k, s, n, it⟩ := t
  obtain ⟨h1, h2, h3, h4, h5⟩ := right_parts h
  have h6 := shapeSize_hi s
  simp only [Arr.n, Arr.it]
  by_cases hk : k = 3
  · have := h5 hk
    exact ⟨by rw [this.1]; simp, by omega⟩
  · have := h4 hk
    exact ⟨by omega, by rw [this.1]; simp⟩
theorem heap_setCell_eq {w w' : World} {p : Addr} {v : Value} {q : Nat} (h : w'.heap[q]? = w.heap[q]?) : (w'.setCell p v).heap[q]? = (w.setCell p v).heap[q]? := by
  simp only [World.setCell, Array.getElem?_modify]
  rw [h]
/-- A store into a block that X keeps apart. -/
theorem MkR.poke {w0 wB w : World} {R X : Nat → Prop} {b g o : Nat} {k : Int} {v1 v2 v3 : Value} {n : List Int} {l : List Arr} (h : MkR w0 wB w R X b k v1 v2 v3 n l) (hg : X g) (hgb : g ≠ b) (h0 : w0.heap.size ≤ g) (v : Value) :
    MkR w0 (wB.setCell ⟨g, o, none⟩ v) (w.setCell ⟨g, o, none⟩ v) R X b k v1 v2 v3 n l := by
  have hf : ∀ q, q ≠ g → (w.setCell ⟨g, o, none⟩ v).heap[q]? = w.heap[q]? := fun q hq => Below.heap_setCell _ _ _ _ hq
  have hs : (wB.setCell ⟨g, o, none⟩ v).heap.size = wB.heap.size := by simp [World.setCell]
  have hs2 : (w.setCell ⟨g, o, none⟩ v).heap.size = w.heap.size := by simp [World.setCell]
  refine ⟨h.ext.setCell (p := ⟨g, o, none⟩) h0 _, h.le, h.box.kept (hf b (fun e => hgb e.symm)), h.xb, fun x hx => by rw [hs2]; exact h.xl x hx, ?_, by rw [hs]; exact h.hB, by rw [hs, hs2]; exact h.wl, fun q hq hqb => ?_, fun b hb => h.rr b (by rw [hs] at hb; exact hb), ?_⟩
  · rw [hs]
    exact h.on.same fun q hq _ hne => ⟨hf q (fun e => hne (.inl (by rw [e]; exact hg))), hne⟩
  · rw [hs] at hq
    exact heap_setCell_eq (h.keep q hq hqb)
  · rw [hs]
    exact h.oi.same h.rr fun q _ _ hne => ⟨hf q (fun e => hne (.inl (by rw [e]; exact hg))), hne⟩

set_option maxRecDepth 1000000 in
set_option maxHeartbeats 16000000 in
theorem suniq_any (F : Nat → Prop) (y : Arr) (c0 c1 c2 c3 : Value) (w : World) (hy : ArrAt F w y c0 c1 c2 c3) :
    Calls Try.prog 64 #[.agg #[c0, c1, c2, c3]] w fun e w' => ∃ e0 e1 e2 e3, e = .returned (.tuple #[.agg #[e0, e1, e2, e3], .int .i64 (uniqE y)]) ∧ ArrAt (fun b => w.heap.size ≤ b) w' (uniqV y) e0 e1 e2 e3 ∧ Ext w w' := by
  have HEV : Hid (uniqE y = if rightV y ≠ 0 then 1 else 0) := rfl
  have HVV : Hid (uniqV y = if rightV y ≠ 0 then Arr.zero else .mk y.k (((uqL (cellsV y (-1)) (cellsV y (-1)).length).length : Int) :: y.sh.drop 1) ((uqL (cellsV y (-1)) (cellsV y (-1)).length).flatMap Arr.n) ((uqL (cellsV y (-1)) (cellsV y (-1)).length).flatMap Arr.it)) := rfl
  have HRY := Lib.hid (fun (w1 : World) (e : Ext w w1) => right_any F y c0 c1 c2 c3 w1 (hy.ext e))
  have HIX := Lib.hid (fun (w1 : World) (e : Ext w w1) (h : rightV y = 0) => indexed_any F y c0 c1 c2 c3 w1 (hy.ext e) h)
  have HZL := Lib.hid (fun (h : rightV y = 0) => cells_len h (-1))
  generalize uniqE y = ev at *
  generalize uniqV y = vv at *
  generalize cellsV y (-1) = L at *
  obtain ⟨ky, s, ns, it⟩ := y
  unfold ArrAt at hy
  obtain ⟨rfl, hky, ⟨p1, m1, rfl, ⟨o1, o1', o1''⟩, i1⟩, ⟨p2, m2, rfl, ⟨o2, o2', o2''⟩, i2⟩, ⟨p3, m3, rfl, ⟨o3, o3', o3''⟩, i3⟩⟩ := hy
  have HS := Lib.hid i1
  have HKY := Lib.hid hky
  clear i1 i2 i3 o2 o2' o2'' o3 o3' o3'' hky
  generalize rightV (.mk ky s ns it) = ry at *
  simp only [Arr.sh, Arr.k] at HVV
  go_enter Try.func64, Try.ntmps64
  have hE0 : Ext w ((w.alloc (.cells #[.int .i64 ky, .slice p1 s.length m1, .slice p2 ns.length m2, .slice p3 it.length m3] 26)).alloc (.cells #[.int .i64 0, .slice none 0 0, .slice none 0 0, .slice none 0 0] 26)) := ((Ext.refl _).alloc _).alloc _
  have hBY := (box_new w (.int .i64 ky) (.slice p1 s.length m1) (.slice p2 ns.length m2) (.slice p3 it.length m3)).ext ((Ext.refl _).alloc (.cells #[.int .i64 0, .slice none 0 0, .slice none 0 0, .slice none 0 0] 26))
  have hBT := box_new (w.alloc (.cells #[.int .i64 ky, .slice p1 s.length m1, .slice p2 ns.length m2, .slice p3 it.length m3] 26)) (.int .i64 0) (.slice none 0 0) (.slice none 0 0) (.slice none 0 0)
  simp only [World.size_alloc] at hBT
  have HE := Lib.hid hE0
  have HBY := Lib.hid hBY
  have HBT := Lib.hid hBT
  clear hE0 hBY hBT
  go_upto_region 1 with (fail)
  generalize ((w.alloc (.cells #[.int .i64 ky, .slice p1 s.length m1, .slice p2 ns.length m2, .slice p3 it.length m3] 26)).alloc (.cells #[.int .i64 0, .slice none 0 0, .slice none 0 0, .slice none 0 0] 26)) = w1 at *
  obtain ⟨s0, s1, s2, s3⟩ := HBY.out.cell
  go_wp2_with fail
  refine (HRY.out w1 HE.out).mono ?_
  rintro e w2 ⟨rfl, hE1⟩
  replace HE := Lib.hid (HE.out.trans hE1)
  replace HBY := Lib.hid (HBY.out.ext hE1)
  replace HBT := Lib.hid (HBT.out.ext hE1)
  clear hE1 s0 s1 s2 s3 HRY
  by_cases h1 : ry = 0
  rotate_left
  · have h1' : (ry != 0) = true := by simpa using h1
    have hev : ev = 1 := by rw [HEV.out, if_pos h1]
    have HV2 : Hid (vv = Arr.zero) := by unfold Hid; rw [HVV.out, if_pos h1]
    have HEV2 := Lib.hid hev
    clear h1 hev HEV HVV HIX HZL
    obtain ⟨t0, t1, t2, t3⟩ := HBT.out.cell
    have y0 := HBT.out.free 0
    have y1 := HBT.out.free 1
    have y2 := HBT.out.free 2
    have y3 := HBT.out.free 3
    go_wp2_with fail
    obtain ⟨g1, g2, g3⟩ := HBT.out.put4 HE.out (by omega) (.int .i64 0) (.slice none 0 0) (.slice none 0 0) (.slice none 0 0)
    revert g1 g2 g3
    generalize ((((w2.setCell ⟨w.heap.size + 1, 0, none⟩ (.int .i64 0)).setCell ⟨w.heap.size + 1, 1, none⟩ (.slice none 0 0)).setCell ⟨w.heap.size + 1, 2, none⟩ (.slice none 0 0)).setCell ⟨w.heap.size + 1, 3, none⟩ (.slice none 0 0)) = w9
    intro g1 g2 g3
    obtain ⟨z0, z1, z2, z3⟩ := g2.cell
    refine bodyPost_ret (v := .tuple #[.agg #[(.int .i64 0), (.slice none 0 0), (.slice none 0 0), (.slice none 0 0)], .int .i64 1]) ?_ rfl ⟨_, _, _, _, by rw [HEV2.out], by rw [HV2.out]; exact Arr.zero_at _ _, g1⟩
    simp [results, Try.results64, go_sem, z0, z1, z2, z3]
  have HEV2 : Hid (ev = 0) := by unfold Hid; rw [HEV.out, if_neg (by rw [h1]; simp)]
  have HV2 : Hid (vv = .mk ky (((uqL L L.length).length : Int) :: s.drop 1) ((uqL L L.length).flatMap Arr.n) ((uqL L L.length).flatMap Arr.it)) := by unfold Hid; rw [HVV.out, if_neg (by rw [h1]; simp)]
  obtain ⟨hL6, hLr⟩ := HZL.out h1
  have HLR := Lib.hid hLr
  have HIX2 := Lib.hid (fun w1 e => HIX.out w1 e h1)
  obtain ⟨nl, hnl⟩ : ∃ nl, L.length = nl := ⟨_, rfl⟩
  rw [hnl] at HIX2 hL6 HV2
  have HNL := Lib.hid hnl
  subst h1
  clear HEV HVV HIX HZL hLr hnl
  obtain ⟨s0, s1, s2, s3⟩ := HBY.out.cell
  go_wp2_with fail
  refine (HIX2.out w2 HE.out).mono ?_
  rintro e w3 ⟨pL, cL, ps, cs, rfl, hkL, hiL, hiS, hE1⟩
  have g1 := (Ext.refl w3).alloc (.cells #[.slice pL nl cL, .slice ps nl cs] 124)
  have g2 := box2_new w3 (.slice pL nl cL) (.slice ps nl cs)
  have hsz : (w3.alloc (.cells #[.slice pL nl cL, .slice ps nl cs] 124)).heap.size = w3.heap.size + 1 := by simp
  have HIL := Lib.hid ((ItemsAt.mono (G := fun b => w2.heap.size ≤ b ∧ b < w3.heap.size) (w' := w3) (fun b hb hlt => ⟨⟨hb, hlt⟩, rfl⟩) _ _ _ hiL).ext g1)
  have HIS := Lib.hid ((hiS.mono (G := fun b => w2.heap.size ≤ b ∧ b < w3.heap.size) (w' := w3) (fun b hb hlt => ⟨⟨hb, hlt⟩, rfl⟩)).ext g1)
  have HL23 := Lib.hid hE1.lt
  replace HE := Lib.hid (HE.out.trans (hE1.trans g1))
  replace HBY := Lib.hid (HBY.out.ext (hE1.trans g1))
  have HW2 := Lib.hid (show w.heap.size + 1 < w2.heap.size from HBT.out.lt)
  replace HBT := Lib.hid (HBT.out.ext (hE1.trans g1))
  have HBX := Lib.hid g2
  have HSZ := Lib.hid hsz
  clear g1 g2 hsz hE1 hiL hiS hkL HIX2 s0 s1 s2 s3
  go_upto_region 4 with (fail)
  generalize w3.alloc (.cells #[.slice pL nl cL, .slice ps nl cs] 124) = w4 at *
  obtain ⟨bx, hbx⟩ : ∃ bx, w3.heap.size = bx := ⟨_, rfl⟩
  rw [hbx] at HIL HIS HBX HSZ HL23 ⊢
  clear hbx
  have g1 : Ext w4 ((w4.alloc (.cells #[.int .i64 0] 3)).alloc (.cells #[.int .i64 ky, .slice (some ⟨w4.heap.size, 0, none⟩) 1 1, .slice none 0 0, .slice none 0 0] 26)) := ((Ext.refl _).alloc _).alloc _
  have g2 := box_new (w4.alloc (.cells #[.int .i64 0] 3)) (.int .i64 ky) (.slice (some ⟨w4.heap.size, 0, none⟩) 1 1) (.slice none 0 0) (.slice none 0 0)
  have g3 : RowI ((w4.alloc (.cells #[.int .i64 0] 3)).alloc (.cells #[.int .i64 ky, .slice (some ⟨w4.heap.size, 0, none⟩) 1 1, .slice none 0 0, .slice none 0 0] 26)) w4.heap.size [(0 : Int)] := RowI.ext (rowI_new w4 [(0 : Int)]) ((Ext.refl _).alloc _)
  rw [World.size_alloc] at g2
  have HG1 := Lib.hid g1
  have HG2 := Lib.hid g2
  have HG3 := Lib.hid g3
  obtain ⟨s0, s1, s2, s3⟩ := HBY.out.cell
  clear g1 g2 g3
  go_upto_region 5 with (fail)
  clear s0 s1 s2 s3
  generalize (w4.alloc (.cells #[.int .i64 0] 3)).alloc (.cells #[.int .i64 ky, .slice (some ⟨w4.heap.size, 0, none⟩) 1 1, .slice none 0 0, .slice none 0 0] 26) = w5 at *
  obtain ⟨b4, hb4⟩ : ∃ b4, w4.heap.size = b4 := ⟨_, rfl⟩
  rw [hb4] at HG2 HG3 ⊢
  have HB4 := Lib.hid hb4
  clear hb4
  replace HBY := Lib.hid (HBY.out.ext HG1.out)
  have hOr := OwnI.of_row (B := w4.heap.size) (X := fun x => x = b4 + 1) (n := 1) (xs := [0]) HG3.out rfl (by omega) (by rw [HB4.out]; exact Nat.le_refl _) (by omega) (by simp)
  have HOR := Lib.hid hOr
  clear hOr HG3
  obtain ⟨s0, s1, s2, s3⟩ := HBY.out.cell
  obtain ⟨tl, htl⟩ : ∃ tl, tl = s.drop 1 := ⟨_, rfl⟩
  rw [← htl] at HV2
  have HTL0 := Lib.hid htl
  clear htl
  go_upto_if 21 with (fail)
  go_cut [22] (fun _ wx => ∃ v1 : Value, Box4 wx (b4 + 1) (.int .i64 ky) v1 (.slice none 0 0) (.slice none 0 0) ∧ OwnI w4.heap.size (fun x => x = b4 + 1) wx v1 (tl.length + 1) (0 :: tl) ∧ Ext w4 wx)
  case first => as_aux_lemma =>
    by_cases hs : 1 < s.length
    · have hdI : decide ((1 : Int) < (s.length : Int)) = true := by simp; omega
      have hsl : ∀ w, (Instr.sliceAt 23 (.slice p1 s.length m1) (some (.int .i64 1)) none none).run Try.prog w = .ok (.slice (cutAt p1 1 m1 1) (s.length - 1) (m1 - 1)) w := fun w => slice_l p1 s.length m1 w 1 (by omega)
      have hcut := (HS.out.ext (HE.out.trans HG1.out)).cut (n := s.length) 1 m1 o1
      rw [List.take_of_length_le (by rw [List.length_drop]; omega)] at hcut
      rw [← HTL0.out] at hcut
      have htll : tl.length = s.length - 1 := by rw [HTL0.out, List.length_drop]
      have HTL := Lib.hid htll
      have HC := Lib.hid hcut
      have HSL := Lib.hid hsl
      clear htll hcut
      go_wp2_with fail
      have hS0 : Ext w4 w5.drew ∧ Box4 w5.drew (b4 + 1) (.int .i64 ky) (.slice (some ⟨b4, 0, none⟩) 1 1) (.slice none 0 0) (.slice none 0 0) ∧ Box4 w5.drew w.heap.size (.int .i64 ky) (.slice p1 s.length m1) (.slice p2 ns.length m2) (.slice p3 it.length m3) := ⟨HG1.out.drew, HG2.out.ext (Ext.refl _).drew, HBY.out.ext (Ext.refl _).drew⟩
      clear s0 s1 s2 s3
      refine wp_region_g [0, 1, 2, 3, 4] [5, 6, 7] (fun w' => Ext w4 w' ∧ Box4 w' (b4 + 1) (.int .i64 ky) (.slice (some ⟨b4, 0, none⟩) 1 1) (.slice none 0 0) (.slice none 0 0) ∧ Box4 w' w.heap.size (.int .i64 ky) (.slice p1 s.length m1) (.slice p2 ns.length m2) (.slice p3 it.length m3)) (by kernel_rfl) (by kernel_rfl) hS0 ?_
      iterate 5
        refine wpHead_cons (v := ?_) rfl (by rfl) (fun w' hS => ?_) ?_
        rotate_left
        · obtain ⟨hS1, hS2, hS3⟩ := hS
          obtain ⟨sb0, sb1, sb2, sb3⟩ := hS2.cell
          obtain ⟨sq0, sq1, sq2, sq3⟩ := hS3.cell
          have hsl9 := HSL.out w'
          go_simp
          try with_reducible rfl
        try simp only [Act.put, List.setIfInBounds_toArray, List.set]
      unfold wpHead
      refine wpTail_cons rfl (fun K hK => ?_)
      refine wpList_append_ints rfl _ _ rfl _ w4.heap.size (fun x => x = b4 + 1) (.slice (some ⟨b4, 0, none⟩) 1 1) 1 [0] (cutAt p1 1 m1 1) (m1 - 1) tl rfl (HOR.out.ext (Ext.refl _).drew) (by rw [HTL.out]; rfl) (HC.out.ext (Ext.refl _).drew) (fun b hb => by rw [hb]; exact hS0.2.1.lt) (by rw [HTL.out]; omega) hS0.1.lt ?_
      intro v9 w9 ho9 hgr9 _
      have hE9 : Ext w4 w9 := hS0.1.grown hgr9 hS0.1.lt (fun q e => by cases e; rw [HB4.out]; exact Nat.le_refl _)
      have hB9 := hS0.2.1.kept (hgr9.block (b4 + 1) hS0.2.1.lt (fun e => by simp [Value.ownBlock] at e))
      have hY9 := hS0.2.2.kept (hgr9.block w.heap.size hS0.2.2.lt (fun e => by
        simp only [Value.ownBlock, Option.some.injEq] at e
        have := HB4.out; have := HBT.out.lt; omega))
      obtain ⟨p9, c9, rfl, _⟩ := ho9.form
      refine hK _ _ ⟨hE9, hB9, hY9⟩ ?_
      try simp only [Act.put, List.setIfInBounds_toArray, List.set]
      refine wpTail_free2 rfl rfl (by kernel_rfl) ?_
      have HX1 := Lib.hid ho9
      have HX2 := Lib.hid hE9
      have HX3 := Lib.hid hB9
      obtain ⟨_, t1, _, _⟩ := hB9.cell
      have tf := hB9.free 1
      clear ho9 hE9 hB9 hY9 hgr9 hS0
      go_wp2_with fail
      refine OnlyN.mk ?_
      (try simp only [Exit.inBlock, Exit.then])
      go_wp2_with fail
      go_meet
      case rel =>
        refine ⟨_, HX3.out.set1 _, ?_, HX2.out.setCell (p := ⟨b4 + 1, 1, none⟩) (by show w4.heap.size ≤ b4 + 1; rw [HB4.out]; exact Nat.le_succ _) _⟩
        have h9 := HX1.out.same (Y := fun x => x = b4 + 1) (w' := w9.setCell ⟨b4 + 1, 1, none⟩ (.slice p9 (1 + tl.length) c9)) fun q _ _ hne => ⟨Below.heap_setCell _ _ _ _ hne, hne⟩
        rw [Nat.add_comm 1] at h9 ⊢
        exact h9
    · have hdI : decide ((1 : Int) < (s.length : Int)) = false := by simp; omega
      have htl : tl = [] := by rw [HTL0.out]; exact List.drop_of_length_le (by omega)
      go_wp2_with fail
      go_meet
      case rel => exact ⟨_, HG2.out, by rw [htl]; exact HOR.out, HG1.out⟩
  case rest =>
  obtain ⟨v1, hBo, hOs, hEc⟩ := hcut
  obtain ⟨w7, rfl⟩ : ∃ wx : World, wx = wc := ⟨_, rfl⟩
  have hlen1 := hOs.2.1
  obtain ⟨pv1, cv1, rfl, _⟩ := hOs.form
  obtain ⟨g0, rfl, hg0, hg0l, _, _, _⟩ := hOs.at' (j := 0) (by omega)
  have hg0b : g0 ≠ b4 + 1 := hOs.2.2.2.1 g0 rfl
  rw [HB4.out] at hg0
  have HEw := Lib.hid (HE.out.trans hEc)
  have h47 := hEc.lt
  have hbol := hBo.lt
  have hwb4 : w.heap.size + 1 < b4 := by have := HBT.out.lt; rw [HB4.out] at this; exact this
  have HM0 : Hid (MkR w w7 w7 (fun b => w2.heap.size ≤ b) (fun x => x = b4 + 1 ∨ x = g0) (b4 + 1) ky (.slice (some ⟨g0, 0, none⟩) (tl.length + 1) cv1) (.slice none 0 0) (.slice none 0 0) [] []) :=
    MkR.fresh HEw.out (by omega) hBo (.inl rfl) (fun x hx => by rcases hx with rfl | rfl <;> assumption) (fun b hb => by have := HSZ.out; have := HB4.out; have := HL23.out; omega) HEw.out.lt
  have HO0 : Hid (OwnI w4.heap.size (fun x => x = b4 + 1) w7 (.slice (some ⟨g0, 0, none⟩) (tl.length + 1) cv1) (tl.length + 1) (((uqL L 0).length : Int) :: tl)) := hOs
  have HIL7 := Lib.hid (HIL.out.ext hEc)
  have HIS7 := Lib.hid (HIS.out.ext hEc)
  have HBX7 := Lib.hid (HBX.out.ext hEc)
  have HBT7 := Lib.hid (HBT.out.ext hEc)
  have HN3 := Lib.hid (show bx + 1 = b4 from by rw [← HB4.out]; exact HSZ.out.symm)
  have H47 := Lib.hid (show b4 ≤ w7.heap.size by rw [← HB4.out]; exact h47)
  clear hOs hBo hEc HIL HIS HBX HBT HSZ h47 s0 s1 s2 s3 HE HG1 HG2 HBY HOR HTL0
  obtain ⟨s0, s1⟩ := HBX7.out.cell
  go_wp2_with fail
  clear s0 s1
  go_loopw [32] (fun iv wr => ∃ (i : Nat) (n' : List Int) (l' : List Arr) (v2 v3 : Value) (wB : World), iv = .int .i64 (i : Int) ∧ i ≤ nl ∧ n'.length ≤ i * 65536 ∧ l'.length ≤ i * 65536 ∧ Hid (wB.heap.size = w7.heap.size) ∧ Hid (∀ q, q ≠ g0 → wB.heap[q]? = w7.heap[q]?) ∧
    Hid (MkR w wB wr (fun b => w2.heap.size ≤ b) (fun x => x = b4 + 1 ∨ x = g0) (b4 + 1) ky (.slice (some ⟨g0, 0, none⟩) (tl.length + 1) cv1) v2 v3 n' l') ∧
    Hid (OwnI w4.heap.size (fun x => x = b4 + 1) wr (.slice (some ⟨g0, 0, none⟩) (tl.length + 1) cv1) (tl.length + 1) (((uqL L i).length : Int) :: tl)) ∧
    Hid (n' = (uqL L i).flatMap Arr.n) ∧ Hid (l' = (uqL L i).flatMap Arr.it)) (fun iv _ => nl - (intOf iv).toNat)
  case atStart => exact ⟨0, [], [], _, _, w7, rfl, Nat.zero_le _, by simp, by simp, rfl, fun _ _ => rfl, HM0, HO0, by simp [Hid, uqL], by simp [Hid, uqL]⟩
  case round =>
  obtain ⟨i, n', l', v2, v3, wB, rfl, hin, hn1, hl1, hwBs, HWB, HM, HO, HGN, HGI⟩ := hrel
  clear HM0 HO0
  have HOLD : Hid (∀ q, q < b4 → wr.heap[q]? = w7.heap[q]?) := fun q hq => (HM.out.keep q (by rw [hwBs.out]; have := H47.out; omega) (by omega)).trans (HWB.out q (by omega))
  by_cases hlt : i < nl
  · have hiL : i < L.length := by rw [HNL.out]; exact hlt
    have hILr := ItemsAt.mono (G := fun b => w2.heap.size ≤ b ∧ b < bx) (w' := wr) (fun b hb _ => ⟨hb, HOLD.out b (by have := HN3.out; omega)⟩) _ _ _ HIL7.out
    have hISr := HIS7.out.mono (G := fun b => w2.heap.size ≤ b ∧ b < bx) (w' := wr) (fun b hb _ => ⟨hb, HOLD.out b (by have := HN3.out; omega)⟩)
    have HBXr : Hid (Box2 wr bx (.slice pL nl cL) (.slice ps nl cs)) := by
      have h8 := HBX7.out
      unfold Hid
      unfold Box2 at h8 ⊢
      rw [HOLD.out bx (by have := HN3.out; omega)]; exact h8
    obtain ⟨bi, oi, x0, x1, x2, x3, rfl, q0, q1, q2, q3, hA⟩ := hILr.getD hiL
    have hqr := HLR.out (L.getD i default) (by simp [List.getD, hiL])
    have hlen := right_lensU hqr
    have HUQ : Hid (uqL L (i + 1) = if placeV L (L.getD i default) < i then uqL L i else uqL L i ++ [L.getD i default]) := rfl
    rcases hti : L.getD i default with ⟨kc, sr, xs, ys⟩
    rw [hti] at hA hqr hlen HUQ
    have hA' := hA
    unfold ArrAt at hA'
    obtain ⟨rfl, _, ⟨z1, r1, rfl, _, _⟩, ⟨z2, r2, rfl, hu2, j2⟩, ⟨z3, r3, rfl, hu3, j3⟩⟩ := hA'
    have HFD := Lib.hid (fun (W : World) (e : Ext wr W) => find_any (szL L) _ _ _ L (.mk kc sr xs ys) cL cs _ ps kc z1 z2 z3 sr.length r1 xs.length r2 ys.length r3 W (hILr.ext e) (hISr.ext e) (hA.ext e) HLR.out (fun t ht => szL_mem ht) hqr (by rw [HNL.out]; exact hL6) nl HNL.out)
    have hpl := placeV_le L (.mk kc sr xs ys)
    rw [HNL.out] at hpl
    generalize placeV L (.mk kc sr xs ys) = pl at *
    have HXS := Lib.hid j2
    have HYS := Lib.hid j3
    have HCQ := Lib.hid (And.intro q0 (And.intro q1 (And.intro q2 q3)))
    have hkl := uqL_len L i
    simp only [Arr.n, Arr.it] at hlen
    obtain ⟨hxl, hyl⟩ := hlen
    have g1 := (Ext.refl wr).alloc (.cells #[.int .i64 kc, .slice z1 sr.length r1, .slice z2 xs.length r2, .slice z3 ys.length r3] 26)
    have g2 := box_new wr (.int .i64 kc) (.slice z1 sr.length r1) (.slice z2 xs.length r2) (.slice z3 ys.length r3)
    have HG1 := Lib.hid g1
    have HG2 := Lib.hid g2
    obtain ⟨s0, s1⟩ := HBXr.out.cell
    clear hILr hISr hA hiL j2 j3 hqr hti g1 g2
    go_upto_region 10 with (fail)
    clear q0 q1 q2 q3 s0 s1
    generalize wr.alloc (.cells #[.int .i64 kc, .slice z1 sr.length r1, .slice z2 xs.length r2, .slice z3 ys.length r3] 26) = wb at *
    obtain ⟨bc, hbc⟩ : ∃ bc, wr.heap.size = bc := ⟨_, rfl⟩
    rw [hbc] at HG2 ⊢
    have HBC := Lib.hid hbc
    clear hbc
    replace HBXr := Lib.hid (HBXr.out.ext HG1.out)
    obtain ⟨s0, s1⟩ := HBXr.out.cell
    obtain ⟨c0, c1, c2, c3⟩ := HG2.out.cell
    go_wp2_with fail
    refine (HFD.out wb HG1.out).mono ?_
    rintro e w8 ⟨rfl, hE8⟩
    have HER := Lib.hid (HG1.out.trans hE8)
    have HM2 := Lib.hid (HM.out.next HER.out)
    have HO2 := Lib.hid (HO.out.ext HER.out)
    have HC2 := Lib.hid (HG2.out.ext hE8)
    clear hE8 HFD s0 s1 c0 c1 c2 c3 HG1 HG2 HBXr
    have hmul : n'.length + xs.length ≤ (i + 1) * 65536 ∧ l'.length + ys.length ≤ (i + 1) * 65536 ∧ (i + 1) * 65536 ≤ 4294967296 ∧ n'.length ≤ (i + 1) * 65536 ∧ l'.length ≤ (i + 1) * 65536 := by
      have := Nat.mul_le_mul_right 65536 (show i + 1 ≤ 65536 by omega)
      rw [Nat.succ_mul] at this ⊢
      omega
    obtain ⟨hm1, hm2, hm3, hm4, hm5⟩ := hmul
    by_cases hlp : pl < i
    · have hu := HUQ.out
      rw [if_pos hlp] at hu
      rw [← hu] at HO2 HGN HGI
      have hlpI : decide ((pl : Int) < (i : Int)) = true := by simp; omega
      clear hu HUQ HXS HYS HC2 HM HO HCQ hxl hyl hn1 hl1
      go_wp2_with fail
      go_roundw
      case rel => exact ⟨i + 1, n', l', v2, v3, wB, by go_num, by omega, hm4, hm5, hwBs, HWB, HM2, HO2, HGN, HGI⟩
      case measure => simp [intOf]; omega
    have hu := HUQ.out
    rw [if_neg hlp] at hu
    have HU := Lib.hid hu
    have hlpI : decide ((pl : Int) < (i : Int)) = false := by simp; omega
    obtain ⟨gg, eg, hgB, hgl, ccx, cfx, csx⟩ := HO2.out.at' (j := 0) (by omega)
    cases eg
    have hcnt : (((uqL L i).length : Int) :: tl).getD 0 0 = ((uqL L i).length : Int) := rfl
    rw [hcnt] at ccx
    have HO3 := Lib.hid (csx (((uqL L i).length : Int) + 1) (by omega))
    have HGN1 : Hid ((uqL L (i + 1)).flatMap Arr.n = n' ++ xs) := by
      unfold Hid
      rw [HU.out, List.flatMap_append, HGN.out]
      simp [Arr.n]
    have HGI1 : Hid ((uqL L (i + 1)).flatMap Arr.it = l' ++ ys) := by
      unfold Hid
      rw [HU.out, List.flatMap_append, HGI.out]
      simp [Arr.it]
    have HCN : Hid (((uqL L (i + 1)).length : Int) :: tl = (((uqL L i).length : Int) :: tl).set 0 (((uqL L i).length : Int) + 1)) := by
      unfold Hid
      rw [HU.out, List.length_append]
      simp
    obtain ⟨kn, hkn⟩ : ∃ kn, (uqL L i).length = kn := ⟨_, rfl⟩
    rw [hkn] at ccx HO3 hkl HCN
    have hM3 := HM2.out.poke (o := 0) (.inr rfl) hg0b (by omega) (.int .i64 ((kn : Int) + 1))
    have hwB3 : Hid ((wB.setCell ⟨g0, 0, none⟩ (.int .i64 ((kn : Int) + 1))).heap.size = w7.heap.size) := by unfold Hid; rw [← hwBs.out]; simp [World.setCell]
    have HWB3 : Hid (∀ q, q ≠ g0 → (wB.setCell ⟨g0, 0, none⟩ (.int .i64 ((kn : Int) + 1))).heap[q]? = w7.heap[q]?) := fun q hq => (Below.heap_setCell _ _ _ _ hq).trans (HWB.out q hq)
    generalize wB.setCell ⟨g0, 0, none⟩ (.int .i64 ((kn : Int) + 1)) = wB3 at *
    have hbcg : bc ≠ g0 := by have := HBC.out; have := HM.out.xl g0 (.inr rfl); omega
    have hbcb : bc ≠ b4 + 1 := by have := HBC.out; have := HM.out.xl (b4 + 1) (.inl rfl); omega
    have hbl8 : bc < w8.heap.size := HC2.out.lt
    have hfar8 : ∀ q, q ≠ g0 → (w8.setCell ⟨g0, 0, none⟩ (.int .i64 ((kn : Int) + 1))).heap[q]? = w8.heap[q]? := fun q hq => Below.heap_setCell _ _ _ _ hq
    have HC3 := Lib.hid (HC2.out.kept (hfar8 bc hbcg))
    have HXS3 := Lib.hid ((HXS.out.ext HER.out).mono (G := fun b => w2.heap.size ≤ b ∧ b < bx) (w' := w8.setCell ⟨g0, 0, none⟩ (.int .i64 ((kn : Int) + 1))) (fun b hb _ => ⟨hb, hfar8 b (by have := HN3.out; omega)⟩))
    have HYS3 := Lib.hid (ItemsAt.mono (G := fun b => w2.heap.size ≤ b ∧ b < bx) (w' := w8.setCell ⟨g0, 0, none⟩ (.int .i64 ((kn : Int) + 1))) (fun b hb _ => ⟨hb, hfar8 b (by have := HN3.out; omega)⟩) _ _ _ (HYS.out.ext HER.out))
    have hbl9 : bc < (w8.setCell ⟨g0, 0, none⟩ (.int .i64 ((kn : Int) + 1))).heap.size := by simpa [World.setCell] using hbl8
    have HM3 := Lib.hid hM3
    have h2lt : ∀ q, v2.ownBlock = some q → q < wr.heap.size ∧ wB.heap.size ≤ q := fun q hq => ⟨(HM.out.on.2.2.1.lt q hq).2, (HM.out.on.2.2.1.lt q hq).1⟩
    have H2LT := Lib.hid h2lt
    obtain ⟨t0, t1, t2, t3⟩ := HM2.out.box.cell
    have HM2' := HM2
    have HHH := Lib.hid hu
    clear hu HUQ HU hkn hcnt csx hM3 hfar8 hbl8 h2lt HHH HO HO2 HM HXS HYS HC2 HGN HGI HCQ HWB
    go_upto_region 12 with (fail)
    clear t0 t1 t2 t3 ccx cfx
    generalize w8.setCell ⟨g0, 0, none⟩ (.int .i64 ((kn : Int) + 1)) = wp at *
    obtain ⟨t0, t1, t2, t3⟩ := HM3.out.box.cell
    obtain ⟨c0, c1, c2, c3⟩ := HC3.out.cell
    go_wp2_with (at_builtin; go_loud (refine wpList_append_ints rfl _ _ rfl (fun b => w2.heap.size ≤ b ∧ b < bx) wB3.heap.size _ v2 n'.length n' z2 r2 xs rfl HM3.out.on rfl HXS3.out HM3.out.xl2 (by omega) HM3.out.wl ?_))
    intro v2' w9 hO8 hgrow hat8
    clear t0 t1 t2 t3 c0 c1 c2 c3 HXS3
    obtain ⟨pv2, cv2, rfl, _⟩ := hO8.form
    obtain ⟨r1', r2', r3'⟩ := HM3.out.grownN hgrow
    obtain ⟨t0, t1, t2, t3'⟩ := r2'.cell
    have tf := r2'.free 2
    rw [← List.length_append] at hO8 hat8 ⊢
    rw [← List.length_append] at hm1
    generalize hnx : n' ++ xs = nx' at *
    have HGN3 := Lib.hid HGN1.out.symm
    clear hnx HGN1
    have hM8 := HM3.out.storedN' hgrow hO8 hat8
    have hbpo' : ¬ b4 + 1 = bc := fun e => hbcb e.symm
    have hj3 : w9.cell? ⟨bc, 3, none⟩ = some (.slice z3 ys.length r3) := (World.cell?_of_block (w := wp) (w' := w9) (a := ⟨bc, 3, none⟩) (hgrow.block bc hbl9 (fun e => by have := (H2LT.out _ e.symm).1; have := HBC.out; omega))).trans HC3.out.cell.2.2.2
    have HYS8 := Lib.hid (ItemsAt.mono (G := fun b => w2.heap.size ≤ b ∧ b < bx) (w' := w9.setCell ⟨b4 + 1, 2, none⟩ (.slice pv2 nx'.length cv2)) (fun b hb hlt => ⟨hb, (Below.heap_setCell _ _ _ _ (show b ≠ b4 + 1 by have := HN3.out; omega)).trans (hgrow.block b hlt (fun e => by have := (H2LT.out b e.symm).2; have := hwBs.out; have := HN3.out; have := H47.out; omega))⟩) _ _ _ HYS3.out)
    have HF8 : Hid (∀ b, (w2.heap.size ≤ b ∧ b < bx) → b < (w9.setCell ⟨b4 + 1, 2, none⟩ (.slice pv2 nx'.length cv2)).heap.size → ApartR (fun b => w2.heap.size ≤ b) (fun x => (x = b4 + 1 ∨ x = g0) ∨ (Value.slice pv2 nx'.length cv2).ownBlock = some x) v3 b) := fun b hb _ => hM8.apart b hb.1 (.inl ⟨by have := HN3.out; have := H47.out; have := hwB3.out; omega, fun h => by have := HN3.out; rcases h with h | h <;> omega⟩)
    have HM8 := Lib.hid hM8
    have HO9 : Hid (OwnI w4.heap.size (fun x => x = b4 + 1) (w9.setCell ⟨b4 + 1, 2, none⟩ (.slice pv2 nx'.length cv2)) (.slice (some ⟨g0, 0, none⟩) (tl.length + 1) cv1) (tl.length + 1) (((uqL L (i + 1)).length : Int) :: tl)) := by
      unfold Hid
      rw [HCN.out]
      exact HO3.out.same fun q hq _ hne => ⟨by
        cases hq
        exact (Below.heap_setCell _ _ _ _ hg0b).trans (r3' g0 (.inr rfl)), hne⟩
    clear hO8 hgrow hat8 r1' r2' r3' hM8 HM3 HYS3 H2LT HO3 HC3 hbl9
    go_wp2_with (at_builtin; go_loud (refine wpList_append_arrsR rfl _ _ rfl (fun b => w2.heap.size ≤ b ∧ b < bx) wB3.heap.size (fun b => w2.heap.size ≤ b) _ v3 l'.length l' z3 r3 ys rfl HM8.out.oi rfl HYS8.out HF8.out HM8.out.xl3 (by omega) HM8.out.wl ?_))
    intro v3' w10 hO10 hgrow10 hat10
    have HAT10 := Lib.hid hat10
    clear hat10 t0 t1 t2 t3' tf hj3
    obtain ⟨pv3, cv3, rfl, _⟩ := hO10.form
    obtain ⟨r1', r2', r3'⟩ := HM8.out.grownI hgrow10
    obtain ⟨_, _, _, t3⟩ := r2'.cell
    have tf := r2'.free 3
    rw [← List.length_append] at hO10 HAT10 hm2 ⊢
    generalize hly : l' ++ ys = ly at *
    have HGI3 := Lib.hid HGI1.out.symm
    clear hly HGI1
    have hM10 := HM8.out.storedI' hgrow10 hO10 (by simpa using HAT10.out)
    have HM10 := Lib.hid hM10
    have HO11 : Hid (OwnI w4.heap.size (fun x => x = b4 + 1) (w10.setCell ⟨b4 + 1, 3, none⟩ (.slice pv3 ly.length cv3)) (.slice (some ⟨g0, 0, none⟩) (tl.length + 1) cv1) (tl.length + 1) (((uqL L (i + 1)).length : Int) :: tl)) :=
      HO9.out.same fun q hq _ hne => ⟨by
        cases hq
        exact (Below.heap_setCell _ _ _ _ hg0b).trans (r3' g0 (.inr rfl)), hne⟩
    clear hO10 hgrow10 r1' r2' r3' hM10 HM8 HAT10 HF8 HYS8 HO9
    go_wp2_with fail
    go_roundw
    case rel => exact ⟨i + 1, nx', ly, _, _, wB3, by go_num, by omega, hm1, hm2, hwB3, HWB3, HM10, HO11, HGN3, HGI3⟩
    case measure => simp [intOf]; omega
  have hi2 : nl = i := by omega
  subst hi2
  have hM := HM.out
  have hV3 : vv = .mk ky (((uqL L nl).length : Int) :: tl) n' l' := by rw [HV2.out, HGN.out, HGI.out]
  have HV3 := Lib.hid hV3
  have hml : l'.length ≤ 4294967296 := by
    have := Nat.mul_le_mul_right 65536 hL6
    omega
  obtain ⟨pa, ca, hv2, _, _⟩ := hM.on.ints
  subst hv2
  obtain ⟨pb, cb, hv3, _, _⟩ := hM.oi.items hM.rr (by omega)
  subst hv3
  obtain ⟨p9, c9, e9, q9, i9⟩ := HO.out.ints
  have hA := MkR.arr (G := fun b => w4.heap.size ≤ b ∧ b ≠ b4 + 1) (s := ((uqL L nl).length : Int) :: tl) hM HKY.out ⟨p9, c9, e9, q9, i9⟩ (by omega)
  have hwl := hM.wl
  have HBR := Lib.hid (HBT7.out.kept (HOLD.out (w.heap.size + 1) hwb4))
  have HA := Lib.hid hA
  have HEM := Lib.hid hM.ext
  obtain ⟨q0, q1, q2, q3⟩ := hM.box.cell
  obtain ⟨x0, x1, x2, x3⟩ := HBR.out.cell
  have y0 := HBR.out.free 0
  have y1 := HBR.out.free 1
  have y2 := HBR.out.free 2
  have y3 := HBR.out.free 3
  clear hA hM HGN HGI HM hn1 hl1 hV3 hml HO HOLD HWB hwBs HV2 e9 q9 i9 hwl
  go_wp2_with fail
  obtain ⟨g1, g2, g3⟩ := HBR.out.put4 HEM.out (by omega) (.int .i64 ky) (.slice (some ⟨g0, 0, none⟩) (tl.length + 1) cv1) (.slice pa n'.length ca) (.slice pb l'.length cb)
  have hA9 := ArrAt.mono (G := fun b => w.heap.size ≤ b) (w' := ((((wr.setCell ⟨w.heap.size + 1, 0, none⟩ (.int .i64 ky)).setCell ⟨w.heap.size + 1, 1, none⟩ (.slice (some ⟨g0, 0, none⟩) (tl.length + 1) cv1)).setCell ⟨w.heap.size + 1, 2, none⟩ (.slice pa n'.length ca)).setCell ⟨w.heap.size + 1, 3, none⟩ (.slice pb l'.length cb))) (fun b hb _ => by
    have h2 := HW2.out
    have h3 := HB4.out
    rcases hb with hb | hb
    · exact ⟨by have := hb.1; omega, g3 b (by have := hb.1; omega)⟩
    · exact ⟨by have := hb.1; omega, g3 b (by have := hb.1; omega)⟩) _ _ _ _ _ HA.out
  revert g1 g2 g3 hA9
  generalize ((((wr.setCell ⟨w.heap.size + 1, 0, none⟩ (.int .i64 ky)).setCell ⟨w.heap.size + 1, 1, none⟩ (.slice (some ⟨g0, 0, none⟩) (tl.length + 1) cv1)).setCell ⟨w.heap.size + 1, 2, none⟩ (.slice pa n'.length ca)).setCell ⟨w.heap.size + 1, 3, none⟩ (.slice pb l'.length cb)) = w9
  intro g1 g2 g3 hA9
  obtain ⟨z0, z1, z2, z3⟩ := g2.cell
  rw [← HV3.out] at hA9
  refine bodyPost_ret (v := .tuple #[.agg #[.int .i64 ky, .slice (some ⟨g0, 0, none⟩) (tl.length + 1) cv1, .slice pa n'.length ca, .slice pb l'.length cb], .int .i64 0]) ?_ rfl ⟨_, _, _, _, by rw [HEV2.out], hA9, g1⟩
  simp [results, Try.results64, go_sem, z0, z1, z2, z3]
end Go.Proofs.Ytgkemmdghmklfaa

namespace Go.Proofs.Ytgkemmdghmklfaa
set_option linter.unusedSimpArgs false
set_option linter.unusedVariables false
open Go.RowKit

def SomeI25 (lo hi : Int) (w : World) (e : Ending) (w' : World) : Prop := ∃ v : Int, lo ≤ v ∧ v ≤ hi ∧ e = .returned (.int .i64 v) ∧ Ext w w'
def SomeB25 (w : World) (e : Ending) (w' : World) : Prop := ∃ b : Bool, e = .returned (.bool b) ∧ Ext w w'

theorem i64_wrap_bd25 (z : Int) : -9223372036854775808 ≤ IntKind.i64.wrap z ∧ IntKind.i64.wrap z ≤ 9223372036854775807 := by
  rw [IntWalk.i64_left]
  have := wrap64_wf z
  simp only [Lit.wf] at this
  have h : (decide ((-9223372036854775808 : Int) ≤ wrap64 z) && decide (wrap64 z ≤ (9223372036854775807 : Int))) = true := this
  simpa using h
theorem wrap64_bd25 (z : Int) : -9223372036854775808 ≤ wrap64 z ∧ wrap64 z ≤ 9223372036854775807 := by
  have := i64_wrap_bd25 z
  rw [IntWalk.i64_left] at this
  exact this
theorem iteb25a {p : Prop} [Decidable p] {a b : Int} (_ : True) (ha : -9223372036854775808 ≤ a) (hb : -9223372036854775808 ≤ b ∧ b ≤ 9223372036854775807) : -9223372036854775808 ≤ (if p then a else b) := by split <;> omega
theorem iteb25b {p : Prop} [Decidable p] {a b : Int} (_ : True) (ha : a ≤ 9223372036854775807) (hb : -9223372036854775808 ≤ b ∧ b ≤ 9223372036854775807) : (if p then a else b) ≤ 9223372036854775807 := by split <;> omega

set_option maxRecDepth 100000 in
set_option maxHeartbeats 2000000 in
theorem weigh25_any (F : Nat → Prop) : ∀ (m : Nat) (t : Arr) (c0 c1 c2 c3 : Value) (most : Int) (w : World), SizeOf.sizeOf t < m → ArrAt F w t c0 c1 c2 c3 → 0 < most → most ≤ 3000 →
    Calls Try.prog 103 #[.agg #[c0, c1, c2, c3], .int .i64 most] w (SomeI25 0 most w) := by
  intro m
  induction m with
  | zero => intro t c0 c1 c2 c3 most w hm; omega
  | succ m ih =>
    intro t c0 c1 c2 c3 most w hm h hm0 hm1
    obtain ⟨k, s, n, it⟩ := t
    unfold ArrAt at h
    obtain ⟨rfl, hk, ⟨p1, k1, rfl, ⟨o1, o1', o1''⟩, i1⟩, ⟨p2, k2, rfl, ⟨o2, o2', o2''⟩, i2⟩, ⟨p3, k3, rfl, ⟨o3, o3', o3''⟩, i3⟩⟩ := h
    have IH := Lib.hid ih
    have I3 := Lib.hid i3
    have HM := Lib.hid hm
    clear ih i1 i2 i3 hm
    go_enter Try.func103, Try.ntmps103
    go_wp2_with fail
    have hE0 : Ext w (w.alloc (.cells #[.int .i64 k, .slice p1 s.length k1, .slice p2 n.length k2, .slice p3 it.length k3] 26)) := (Ext.refl _).alloc _
    have hB := box_new w (.int .i64 k) (.slice p1 s.length k1) (.slice p2 n.length k2) (.slice p3 it.length k3)
    generalize w.alloc (.cells #[.int .i64 k, .slice p1 s.length k1, .slice p2 n.length k2, .slice p3 it.length k3] 26) = w1 at hE0 hB ⊢
    have HB := Lib.hid hB
    clear hB
    go_loopw [5, 6] (fun nv i wr => ∃ (j : Nat) (q : Int), j ≤ it.length ∧ i = .int .i64 j ∧ nv = .int .i64 q ∧ 0 ≤ q ∧ q ≤ 70368744177664 ∧ Ext w1 wr) (fun _ i _ => it.length - (intOf i).toNat)
    case atStart => exact ⟨0, 1 + (s.length : Int) + (n.length : Int), Nat.zero_le _, rfl, rfl, by omega, by omega, Ext.refl _⟩
    case round =>
      obtain ⟨j, q, hj, rfl, rfl, hq0, hq1, hE2⟩ := hrel
      obtain ⟨s0, s1, s2, s3⟩ := (HB.out.ext hE2).cell
      by_cases hlt : j < it.length
      · by_cases hqm : q < most
        · obtain ⟨b, off, x0, x1, x2, x3, rfl, _, g0, g1, g2, g3, hx⟩ := ItemsAt.get it _ 0 j I3.out hlt
          rw [Nat.zero_add] at g0 g1 g2 g3
          have G0 := (hE0.trans hE2).cell g0
          have G1 := (hE0.trans hE2).cell g1
          have G2 := (hE0.trans hE2).cell g2
          have G3 := (hE0.trans hE2).cell g3
          have hsz : SizeOf.sizeOf it[j] < m := by
            have h1 := List.sizeOf_lt_of_mem (List.getElem_mem hlt)
            have h2 := HM.out
            simp at h2
            omega
          have HCALL := Lib.hid (fun (z : Int) h0 h1 w' e => IH.out it[j] x0 x1 x2 x3 z w' hsz (hx.ext (w' := w') e) h0 h1)
          clear g0 g1 g2 g3 hsz
          obtain ⟨y0, q1, l1, m1, q2, l2, m2, q3, l3, m3, rfl, rfl, rfl, rfl⟩ := hx.form
          clear hx
          generalize it[j] = x at *
          go_wp2_with fail
          refine (HCALL.out _ (by omega) (by omega) _ (hE0.trans hE2)).mono ?_
          rintro e w4 ⟨v, hv0, hv1, rfl, hE4⟩
          go_wp2_with fail
          go_roundw
          case rel => exact ⟨j + 1, q + v, by omega, by go_num, rfl, by omega, by omega, hE2.trans hE4⟩
          case measure => simp [intOf]; omega
        · have hE9 := hE0.trans hE2
          by_cases hmq : most < q
          · go_wp2_with fail
            go_ret
            exact ⟨most, by omega, by omega, rfl, hE9⟩
          · go_wp2_with fail
            go_ret
            exact ⟨q, by omega, by omega, rfl, hE9⟩
      · have hE9 := hE0.trans hE2
        by_cases hmq : most < q
        · go_wp2_with fail
          go_ret
          exact ⟨most, by omega, by omega, rfl, hE9⟩
        · go_wp2_with fail
          go_ret
          exact ⟨q, by omega, by omega, rfl, hE9⟩

set_option maxRecDepth 100000 in
set_option maxHeartbeats 2000000 in
theorem small25_any (F : Nat → Prop) (t : Arr) (c0 c1 c2 c3 : Value) (w : World) (h : ArrAt F w t c0 c1 c2 c3) :
    Calls Try.prog 58 #[.agg #[c0, c1, c2, c3]] w (SomeB25 w) := by
  have HC := Lib.hid (fun w' e => weigh25_any F _ t c0 c1 c2 c3 400 w' (Nat.lt_succ_self _) (h.ext (w' := w') e) (by omega) (by omega))
  obtain ⟨k, s, n, it⟩ := t
  unfold ArrAt at h
  obtain ⟨rfl, hk, ⟨p1, k1, rfl, ⟨o1, o1', o1''⟩, i1⟩, ⟨p2, k2, rfl, ⟨o2, o2', o2''⟩, i2⟩, ⟨p3, k3, rfl, ⟨o3, o3', o3''⟩, i3⟩⟩ := h
  have HS := Lib.hid i1
  clear i1 i2 i3
  go_enter Try.func58, Try.ntmps58
  go_wp2_with fail
  have hE0 : Ext w (w.alloc (.cells #[.int .i64 k, .slice p1 s.length k1, .slice p2 n.length k2, .slice p3 it.length k3] 26)) := (Ext.refl _).alloc _
  have hB := box_new w (.int .i64 k) (.slice p1 s.length k1) (.slice p2 n.length k2) (.slice p3 it.length k3)
  generalize w.alloc (.cells #[.int .i64 k, .slice p1 s.length k1, .slice p2 n.length k2, .slice p3 it.length k3] 26) = w1 at hE0 hB ⊢
  have HB := Lib.hid hB
  have HE0 := Lib.hid hE0
  obtain ⟨sl, hsl⟩ : ∃ sl, s.length = sl := ⟨_, rfl⟩
  have HSL := Lib.hid hsl
  rw [hsl] at o1 o1'' HB HC ⊢
  clear hB hE0 hsl
  go_loopw [3] (fun i wr => ∃ (j : Nat), j ≤ sl ∧ i = .int .i64 (j : Int) ∧ wr = w1) (fun i _ => sl - (intOf i).toNat)
  case atStart => exact ⟨0, Nat.zero_le _, rfl, rfl⟩
  case round =>
  obtain ⟨j, hj, rfl, hwr⟩ := hrel
  subst hwr
  obtain ⟨wr, rfl⟩ : ∃ wx : World, wx = wr := ⟨_, rfl⟩
  obtain ⟨s0, s1, s2, s3⟩ := HB.out.cell
  by_cases hlt : j < sl
  · obtain ⟨b, off, rfl, hc, _, _⟩ := (HS.out.ext HE0.out).get (i := j) (by rw [HSL.out]; exact hlt)
    generalize s.getD j 0 = d at *
    by_cases hd : 400 < d
    · go_wp2_with fail
      go_ret
      exact ⟨false, rfl, HE0.out⟩
    · go_wp2_with fail
      go_roundw
      case rel => exact ⟨j + 1, by omega, by go_num, trivial⟩
      case measure => simp [intOf]; omega
  have hj2 : sl = j := by omega
  subst hj2
  go_wp2_with fail
  refine (HC.out _ HE0.out).mono ?_
  rintro e w4 ⟨v, hv0, hv1, rfl, hE4⟩
  have hE9 := HE0.out.trans hE4
  go_wp2_with fail
  go_ret
  exact ⟨decide (v < 400), rfl, hE9⟩

set_option maxRecDepth 100000 in
set_option maxHeartbeats 1000000 in
theorem s25ints_any (F : Nat → Prop) (p : Option Addr) (c : Nat) (l : List Int) (w : World) (h : IntsAt F w p l) (hk : SlOk l.length c) :
    Calls Try.prog 104 #[.slice p l.length c] w fun e w' =>
      ∃ e0 e1 e2 e3, e = .returned (.agg #[e0, e1, e2, e3]) ∧ ArrAt (fun b => w.heap.size ≤ b ∨ F b) w' (.mk 1 [(l.length : Int)] l []) e0 e1 e2 e3 ∧ Ext w w' := by
  have HL := Lib.hid h
  have hk' := hk
  obtain ⟨o1, o2, o3⟩ := hk'
  have HK := Lib.hid hk
  clear h hk
  go_enter Try.func104, Try.ntmps104
  go_wp2_with fail
  have hE : Ext w ((w.alloc (.cells #[.int .i64 1, .slice (some ⟨w.heap.size + 1, 0, none⟩) 1 1, .slice p l.length c, .slice none 0 0] 26)).alloc (.cells #[.int .i64 l.length] 3)) := ((Ext.refl _).alloc _).alloc _
  have hB := (box_new w (.int .i64 1) (.slice (some ⟨w.heap.size + 1, 0, none⟩) 1 1) (.slice p l.length c) (.slice none 0 0)).ext ((Ext.refl _).alloc (.cells #[.int .i64 l.length] 3))
  have hI := rowI_new (w.alloc (.cells #[.int .i64 1, .slice (some ⟨w.heap.size + 1, 0, none⟩) 1 1, .slice p l.length c, .slice none 0 0] 26)) [(l.length : Int)]
  rw [World.size_alloc] at hI
  change RowI ((w.alloc (.cells #[.int .i64 1, .slice (some ⟨w.heap.size + 1, 0, none⟩) 1 1, .slice p l.length c, .slice none 0 0] 26)).alloc (.cells #[.int .i64 l.length] 3)) _ _ at hI
  generalize (w.alloc (.cells #[.int .i64 1, .slice (some ⟨w.heap.size + 1, 0, none⟩) 1 1, .slice p l.length c, .slice none 0 0] 26)).alloc (.cells #[.int .i64 l.length] 3) = w1 at *
  obtain ⟨t0, t1, t2, t3⟩ := hB.cell
  have hA : ArrAt (fun b => w.heap.size ≤ b ∨ F b) w1 (.mk 1 [(l.length : Int)] l []) (.int .i64 1) (.slice (some ⟨w.heap.size + 1, 0, none⟩) 1 1) (.slice p l.length c) (.slice none 0 0) := by
    unfold ArrAt
    refine ⟨rfl, by omega, ⟨_, _, rfl, ⟨by simp, by simp, by simp⟩, (hI.ints ?_).mono fun b hb _ => ⟨.inl (by omega), rfl⟩⟩, ⟨_, _, rfl, HK.out, (HL.out.ext hE).mono fun b hb _ => ⟨.inr hb, rfl⟩⟩, ⟨none, 0, rfl, ⟨by simp, by simp, by simp⟩, by unfold ItemsAt; trivial⟩⟩
    intro x hx
    rw [List.mem_singleton] at hx
    subst hx
    omega
  refine bodyPost_ret (v := .agg #[.int .i64 1, .slice (some ⟨w.heap.size + 1, 0, none⟩) 1 1, .slice p l.length c, .slice none 0 0]) ?_ rfl ⟨_, _, _, _, rfl, hA, hE⟩
  simp [results, Try.results104, go_sem, t0, t1, t2, t3]

set_option maxRecDepth 100000 in
set_option maxHeartbeats 1000000 in
theorem s25text_any (F : Nat → Prop) (p : Option Addr) (c : Nat) (l : List Int) (w : World) (h : IntsAt F w p l) (hk : SlOk l.length c) :
    Calls Try.prog 105 #[.slice p l.length c] w fun e w' =>
      ∃ e0 e1 e2 e3, e = .returned (.agg #[e0, e1, e2, e3]) ∧ ArrAt (fun b => w.heap.size ≤ b ∨ F b) w' (.mk 2 [(l.length : Int)] l []) e0 e1 e2 e3 ∧ Ext w w' := by
  have HL := Lib.hid h
  have hk' := hk
  obtain ⟨o1, o2, o3⟩ := hk'
  have HK := Lib.hid hk
  clear h hk
  go_enter Try.func105, Try.ntmps105
  go_wp2_with fail
  have hE : Ext w ((w.alloc (.cells #[.int .i64 2, .slice (some ⟨w.heap.size + 1, 0, none⟩) 1 1, .slice p l.length c, .slice none 0 0] 26)).alloc (.cells #[.int .i64 l.length] 3)) := ((Ext.refl _).alloc _).alloc _
  have hB := (box_new w (.int .i64 2) (.slice (some ⟨w.heap.size + 1, 0, none⟩) 1 1) (.slice p l.length c) (.slice none 0 0)).ext ((Ext.refl _).alloc (.cells #[.int .i64 l.length] 3))
  have hI := rowI_new (w.alloc (.cells #[.int .i64 2, .slice (some ⟨w.heap.size + 1, 0, none⟩) 1 1, .slice p l.length c, .slice none 0 0] 26)) [(l.length : Int)]
  rw [World.size_alloc] at hI
  change RowI ((w.alloc (.cells #[.int .i64 2, .slice (some ⟨w.heap.size + 1, 0, none⟩) 1 1, .slice p l.length c, .slice none 0 0] 26)).alloc (.cells #[.int .i64 l.length] 3)) _ _ at hI
  generalize (w.alloc (.cells #[.int .i64 2, .slice (some ⟨w.heap.size + 1, 0, none⟩) 1 1, .slice p l.length c, .slice none 0 0] 26)).alloc (.cells #[.int .i64 l.length] 3) = w1 at *
  obtain ⟨t0, t1, t2, t3⟩ := hB.cell
  have hA : ArrAt (fun b => w.heap.size ≤ b ∨ F b) w1 (.mk 2 [(l.length : Int)] l []) (.int .i64 2) (.slice (some ⟨w.heap.size + 1, 0, none⟩) 1 1) (.slice p l.length c) (.slice none 0 0) := by
    unfold ArrAt
    refine ⟨rfl, by omega, ⟨_, _, rfl, ⟨by simp, by simp, by simp⟩, (hI.ints ?_).mono fun b hb _ => ⟨.inl (by omega), rfl⟩⟩, ⟨_, _, rfl, HK.out, (HL.out.ext hE).mono fun b hb _ => ⟨.inr hb, rfl⟩⟩, ⟨none, 0, rfl, ⟨by simp, by simp, by simp⟩, by unfold ItemsAt; trivial⟩⟩
    intro x hx
    rw [List.mem_singleton] at hx
    subst hx
    omega
  refine bodyPost_ret (v := .agg #[.int .i64 2, .slice (some ⟨w.heap.size + 1, 0, none⟩) 1 1, .slice p l.length c, .slice none 0 0]) ?_ rfl ⟨_, _, _, _, rfl, hA, hE⟩
  simp [results, Try.results105, go_sem, t0, t1, t2, t3]

end Go.Proofs.Ytgkemmdghmklfaa
