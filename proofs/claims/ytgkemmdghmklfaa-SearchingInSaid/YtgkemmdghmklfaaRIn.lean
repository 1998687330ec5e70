/-
  THE WALK of ref25.In. (Printed by gen_rin.py.)
-/
import Derived.Test.YtgkemmdghmklfaaM25P
import Derived.Test.YtgkemmdghmklfaaM25B
namespace Go.Proofs.Ytgkemmdghmklfaa
set_option linter.unusedSimpArgs false
set_option linter.unusedVariables false
open Go.RowKit

set_option maxRecDepth 1000000 in
set_option maxHeartbeats 16000000 in
theorem rin_any (F G : Nat → Prop) (x y : Arr) (c0 c1 c2 c3 d0 d1 d2 d3 : Value) (w : World) (hx : ArrAt F w x c0 c1 c2 c3) (hy : ArrAt G w y d0 d1 d2 d3) :
    Calls Try.prog 63 #[.agg #[c0, c1, c2, c3], .agg #[d0, d1, d2, d3]] w fun e w' => ∃ x0 x1 x2 x3, e = .returned (.tuple #[.agg #[x0, x1, x2, x3], .int .i64 (searchE y x)]) ∧ FreshN w.heap.size w' (inV x y) x0 x1 x2 x3 ∧ Ext w w' := by
  obtain ⟨kx, p1, l1, m1, p2, l2, m2, p3, l3, m3, rfl, rfl, rfl, rfl⟩ := hx.form
  obtain ⟨ky, q1, n1, r1, q2, n2, r2, q3, n3, r3, rfl, rfl, rfl, rfl⟩ := hy.form
  have HS := Lib.hid (fun (w1 : World) (e : Ext w w1) => rfind_any G F y x _ _ _ _ _ _ _ _ w1 (hy.ext e) (hx.ext e))
  have HCY := Lib.hid (fun (w1 : World) (e : Ext w w1) => rcells_any G y _ _ _ _ (-1) w1 (hy.ext e) (by decide))
  have HSN : Hid (searchE y x = 0 → searchN y x = (cellsV y (-1)).length) := fun h => by unfold searchN; rw [if_neg (by rw [h]; decide)]
  have HZV : Hid (searchE y x ≠ 0 → inV x y = Arr.zero) := fun h => by unfold inV searchV; rw [if_pos h]; rfl
  have HZS : Hid (searchE y x ≠ 0 → searchV y x = Arr.zero) := fun h => by unfold searchV; rw [if_pos h]
  have HIV : Hid (inV x y = match searchV y x with | .mk k s n it => .mk k s (n.map (inF (searchN y x))) it) := rfl
  generalize inV x y = iv at *
  generalize searchN y x = sn at *
  generalize searchE y x = ev at *
  generalize searchV y x = sv at *
  clear hx hy
  go_enter Try.func63, Try.ntmps63
  have hE0 : Ext w (((w.alloc (.cells #[.int .i64 kx, .slice p1 l1 m1, .slice p2 l2 m2, .slice p3 l3 m3] 26)).alloc (.cells #[.int .i64 ky, .slice q1 n1 r1, .slice q2 n2 r2, .slice q3 n3 r3] 26)).alloc (.cells #[.int .i64 0, .slice none 0 0, .slice none 0 0, .slice none 0 0] 26)) := (((Ext.refl _).alloc _).alloc _).alloc _
  have hBX := (box_new w (.int .i64 kx) (.slice p1 l1 m1) (.slice p2 l2 m2) (.slice p3 l3 m3)).ext (((Ext.refl _).alloc (.cells #[.int .i64 ky, .slice q1 n1 r1, .slice q2 n2 r2, .slice q3 n3 r3] 26)).alloc (.cells #[.int .i64 0, .slice none 0 0, .slice none 0 0, .slice none 0 0] 26))
  have hBY := (box_new (w.alloc (.cells #[.int .i64 kx, .slice p1 l1 m1, .slice p2 l2 m2, .slice p3 l3 m3] 26)) (.int .i64 ky) (.slice q1 n1 r1) (.slice q2 n2 r2) (.slice q3 n3 r3)).ext ((Ext.refl _).alloc (.cells #[.int .i64 0, .slice none 0 0, .slice none 0 0, .slice none 0 0] 26))
  have hBT := box_new ((w.alloc (.cells #[.int .i64 kx, .slice p1 l1 m1, .slice p2 l2 m2, .slice p3 l3 m3] 26)).alloc (.cells #[.int .i64 ky, .slice q1 n1 r1, .slice q2 n2 r2, .slice q3 n3 r3] 26)) (.int .i64 0) (.slice none 0 0) (.slice none 0 0) (.slice none 0 0)
  have hsz : (((w.alloc (.cells #[.int .i64 kx, .slice p1 l1 m1, .slice p2 l2 m2, .slice p3 l3 m3] 26)).alloc (.cells #[.int .i64 ky, .slice q1 n1 r1, .slice q2 n2 r2, .slice q3 n3 r3] 26)).alloc (.cells #[.int .i64 0, .slice none 0 0, .slice none 0 0, .slice none 0 0] 26)).heap.size = w.heap.size + 1 + 1 + 1 := by simp
  simp only [World.size_alloc] at hBY hBT
  have HE := Lib.hid hE0
  have HSZ := Lib.hid hsz
  have HBX := Lib.hid hBX
  have HBY := Lib.hid hBY
  have HBT := Lib.hid hBT
  clear hE0 hBX hBY hBT hsz
  go_upto_region 1 with (fail)
  generalize (((w.alloc (.cells #[.int .i64 kx, .slice p1 l1 m1, .slice p2 l2 m2, .slice p3 l3 m3] 26)).alloc (.cells #[.int .i64 ky, .slice q1 n1 r1, .slice q2 n2 r2, .slice q3 n3 r3] 26)).alloc (.cells #[.int .i64 0, .slice none 0 0, .slice none 0 0, .slice none 0 0] 26)) = w1 at *
  have HS2 := Lib.hid (HS.out w1 HE.out)
  obtain ⟨s0, s1, s2, s3⟩ := HBX.out.cell
  obtain ⟨t0, t1, t2, t3⟩ := HBY.out.cell
  clear HS
  go_wp2_with fail
  refine HS2.out.mono ?_
  rintro e w2 ⟨x0, x1, x2, x3, rfl, hF, hE1⟩
  obtain ⟨ko, o1, a1, e1, o2, a2, e2, o3, a3, e3, rfl, rfl, rfl, rfl⟩ := hF.arr.form
  have HBY2 := Lib.hid (HBY.out.ext (hE1.trans ((Ext.refl w2).alloc (.cells #[.int .i64 ko, .slice o1 a1 e1, .slice o2 a2 e2, .slice o3 a3 e3] 26))))
  have g1 := (Ext.refl w2).alloc (.cells #[.int .i64 ko, .slice o1 a1 e1, .slice o2 a2 e2, .slice o3 a3 e3] 26)
  have g2 := box_new w2 (.int .i64 ko) (.slice o1 a1 e1) (.slice o2 a2 e2) (.slice o3 a3 e3)
  have HF := Lib.hid (hF.ext g1)
  have HOB := Lib.hid hF.own
  have HB6 := Lib.hid g2
  have HLT := Lib.hid (show w1.heap.size ≤ w2.heap.size from hE1.lt)
  have HLT3 := Lib.hid (show (w2.alloc (.cells #[.int .i64 ko, .slice o1 a1 e1, .slice o2 a2 e2, .slice o3 a3 e3] 26)).heap.size = w2.heap.size + 1 by simp)
  replace HE := Lib.hid (HE.out.trans (hE1.trans g1))
  replace HBT := Lib.hid (HBT.out.ext (hE1.trans g1))
  clear g1 g2 hE1 hF s0 s1 s2 s3 t0 t1 t2 t3 HS2 HBX HBY
  go_upto_region 2 with (fail)
  generalize w2.alloc (.cells #[.int .i64 ko, .slice o1 a1 e1, .slice o2 a2 e2, .slice o3 a3 e3] 26) = w3 at *
  generalize hb6 : w2.heap.size = b6 at *
  clear hb6
  by_cases hev : ev = 0
  rotate_left
  · have hevb : (ev != 0) = true := by simpa using hev
    have hz1 := HZS.out hev
    have hz2 := HZV.out hev
    have hF := HF.out
    rw [hz1, ← hz2] at hF
    replace HF := Lib.hid hF
    clear hev hz1 hz2 hF HIV HSN HZV HZS HOB HCY HBY2
    obtain ⟨x0, x1, x2, x3⟩ := HBT.out.cell
    have y0 := HBT.out.free 0
    have y1 := HBT.out.free 1
    have y2 := HBT.out.free 2
    have y3 := HBT.out.free 3
    obtain ⟨z0, z1, z2, z3⟩ := HB6.out.cell
    go_wp2_with fail
    obtain ⟨g1, g2, g3⟩ := HBT.out.put4 HE.out (by omega) (.int .i64 ko) (.slice o1 a1 e1) (.slice o2 a2 e2) (.slice o3 a3 e3)
    have hF9 := (HF.out.far (w' := (((w3.setCell ⟨w.heap.size + 1 + 1, 0, none⟩ (.int .i64 ko)).setCell ⟨w.heap.size + 1 + 1, 1, none⟩ (.slice o1 a1 e1)).setCell ⟨w.heap.size + 1 + 1, 2, none⟩ (.slice o2 a2 e2)).setCell ⟨w.heap.size + 1 + 1, 3, none⟩ (.slice o3 a3 e3)) fun b hb => g3 b (by have := HSZ.out; omega)).base (B' := w.heap.size) (by have := HSZ.out; omega)
    revert g1 g2 g3 hF9
    generalize (((w3.setCell ⟨w.heap.size + 1 + 1, 0, none⟩ (.int .i64 ko)).setCell ⟨w.heap.size + 1 + 1, 1, none⟩ (.slice o1 a1 e1)).setCell ⟨w.heap.size + 1 + 1, 2, none⟩ (.slice o2 a2 e2)).setCell ⟨w.heap.size + 1 + 1, 3, none⟩ (.slice o3 a3 e3) = w9
    intro g1 g2 g3 hF9
    clear z0 z1 z2 z3
    obtain ⟨z0, z1, z2, z3⟩ := g2.cell
    refine bodyPost_ret (v := .tuple #[.agg #[.int .i64 ko, .slice o1 a1 e1, .slice o2 a2 e2, .slice o3 a3 e3], .int .i64 (ev)]) ?_ rfl ⟨_, _, _, _, rfl, hF9, g1⟩
    simp [results, Try.results63, go_sem, z0, z1, z2, z3]
  have hsn := HSN.out hev
  subst hev
  have HSN2 := Lib.hid hsn
  clear hsn HSN HZV HZS
  obtain ⟨kk, sh, nums, its⟩ := sv
  obtain ⟨h0, hit, h3, hk1, hk2, hO, pS, cS, e1S, hkS, hiS⟩ := HF.out
  have hnl := hO.1
  obtain ⟨pf, cf, ef, _⟩ := hO.form
  simp only [Value.slice.injEq] at ef
  obtain ⟨rfl, rfl, rfl⟩ := ef
  obtain ⟨n, hn⟩ : ∃ n, nums.length = n := ⟨_, rfl⟩
  have hbd := hO.2.2.2.2
  have HO := Lib.hid hO
  have HIS := Lib.hid hiS
  have HKS := Lib.hid hkS
  have HE1S := Lib.hid e1S
  have HBD := Lib.hid hbd
  have HN := Lib.hid hn
  have HH := Lib.hid (And.intro h0 (And.intro hit (And.intro h3 (And.intro hk1 hk2))))
  rw [hn] at HO HB6 ⊢
  have hlen0 := hO.2.1
  rw [hn] at hlen0
  rw [hn] at HOB
  clear hiS hkS e1S hbd hn h0 hit h3 hk1 hk2 HF
  obtain ⟨z0, z1, z2, z3⟩ := HB6.out.cell
  obtain ⟨s0, s1, s2, s3⟩ := HBY2.out.cell
  go_wp2_with fail
  refine (HCY.out w3 HE.out).mono ?_
  rintro e w4 ⟨v, rfl, ⟨pq, cq, rfl, ⟨k1, k1', k1''⟩, hiq⟩, hE4⟩
  rw [← HSN2.out] at k1 k1'' ⊢
  replace HE := Lib.hid (HE.out.trans hE4)
  replace HO := Lib.hid (HO.out.ext hE4)
  replace HB6 := Lib.hid (HB6.out.ext hE4)
  replace HBT := Lib.hid (HBT.out.ext hE4)
  replace HIS := Lib.hid (HIS.out.ext hE4)
  have HL34 := Lib.hid hE4.lt
  clear hiq hE4 HCY HBY2 HSN2 s0 s1 s2 s3 z0 z1 z2 z3
  go_wp2_with fail
  go_loopw [9] (fun iv wr => ∃ (j : Nat) (M : List Int), iv = .int .i64 (j : Int) ∧ j ≤ n ∧ Hid (M.length = nums.length ∧ ∀ i, i < nums.length → M.getD i 0 = if i < j then inF sn (nums.getD i 0) else nums.getD i 0) ∧ Hid (OwnI w1.heap.size (fun _ => False) wr (.slice o2 n e2) n M) ∧ Hid (∀ b, (Value.slice o2 n e2).ownBlock ≠ some b → wr.heap[b]? = w4.heap[b]?) ∧ Hid (Ext w wr) ∧ Hid (w4.heap.size ≤ wr.heap.size)) (fun iv _ => n - (intOf iv).toNat)
  case atStart => exact ⟨0, nums, rfl, Nat.zero_le _, ⟨rfl, fun i _ => by rw [if_neg (by omega)]⟩, HO, fun _ _ => rfl, HE, Nat.le_refl _⟩
  case round =>
  obtain ⟨j, M, rfl, hjn, HM, HOr, HFr, HEr, HSr⟩ := hrel
  have hb6 : (Value.slice o2 n e2).ownBlock ≠ some b6 := fun e => by have := (HOB.out b6 e).2; omega
  have HB6r := Lib.hid (HB6.out.kept (HFr.out b6 hb6))
  by_cases hlt : j < n
  · obtain ⟨g, rfl, hBg, hgl, cx, fx, sx⟩ := HOr.out.at' hlt
    have hge : g < b6 := (HOB.out g rfl).2
    have hg1 : g ≠ b6 := by omega
    have hg2 : b6 ≠ g := by omega
    have hjl : j < nums.length := by rw [HN.out]; exact hlt
    have hmj : M.getD j 0 = nums.getD j 0 := by rw [HM.out.2 j hjl, if_neg (by omega)]
    rw [hmj] at cx
    have HUP := Lib.hid (fun (x : Int) (hx : x = inF sn (nums.getD j 0)) => map_upto hjl HM.out.1 HM.out.2 hx)
    have hIF : inF sn (nums.getD j 0) = if nums.getD j 0 < sn then 1 else 0 := rfl
    obtain ⟨xv, hxv⟩ : ∃ xv, nums.getD j 0 = xv := ⟨_, rfl⟩
    rw [hxv] at cx hIF
    have HXV := Lib.hid hxv
    obtain ⟨z0, z1, z2, z3⟩ := HB6r.out.cell
    clear hxv hmj hjl
    by_cases hk : xv < (sn : Int)
    · rw [if_pos hk] at hIF
      have HIF := Lib.hid hIF
      have HO1 := Lib.hid (sx 1 (by decide))
      have HE1 := Lib.hid (show Ext w (wr.setCell ⟨g, j, none⟩ (.int .i64 1)) from HEr.out.setCell (p := ⟨g, j, none⟩) (by show w.heap.size ≤ g; have := HSZ.out; omega) _)
      clear hIF sx
      go_wp2_with fail
      go_roundw
      case rel => exact ⟨j + 1, M.set j 1, by go_num, by omega, ⟨by simpa using HM.out.1, HUP.out 1 (by rw [HXV.out]; exact HIF.out.symm)⟩, HO1, fun b hb => by
        have hb2 : b ≠ g := fun e => hb (by rw [e]; rfl)
        rw [Below.heap_setCell _ _ _ _ hb2]; exact HFr.out b hb, HE1, Lib.hid (by simpa using HSr.out)⟩
      case measure => simp [intOf]; omega
    · rw [if_neg hk] at hIF
      have HIF := Lib.hid hIF
      have HO1 := Lib.hid (sx 0 (by decide))
      have HE1 := Lib.hid (show Ext w (wr.setCell ⟨g, j, none⟩ (.int .i64 0)) from HEr.out.setCell (p := ⟨g, j, none⟩) (by show w.heap.size ≤ g; have := HSZ.out; omega) _)
      clear hIF sx
      go_wp2_with fail
      go_roundw
      case rel => exact ⟨j + 1, M.set j 0, by go_num, by omega, ⟨by simpa using HM.out.1, HUP.out 0 (by rw [HXV.out]; exact HIF.out.symm)⟩, HO1, fun b hb => by
        have hb2 : b ≠ g := fun e => hb (by rw [e]; rfl)
        rw [Below.heap_setCell _ _ _ _ hb2]; exact HFr.out b hb, HE1, Lib.hid (by simpa using HSr.out)⟩
      case measure => simp [intOf]; omega
  have hjn2 : j = n := by omega
  subst hjn2
  have hMe : M = nums.map (inF sn) := map_done HM.out.1 (fun i hi => by have h := HM.out.2 i hi; rw [HN.out] at hi ⊢; exact h)
  have hML : M.length = j := HOr.out.1
  have hF2 : FreshN w1.heap.size wr (.mk kk sh M its) (.int .i64 ko) (.slice o1 a1 e1) (.slice o2 j e2) (.slice o3 a3 e3) :=
    ⟨HH.out.1, HH.out.2.1, HH.out.2.2.1, HH.out.2.2.2.1, HH.out.2.2.2.2, by rw [hML]; exact HOr.out, pS, cS, HE1S.out, HKS.out, by
      have h9 := HIS.out
      rw [HN.out] at h9
      exact h9.mono fun b hb _ => ⟨hb, HFr.out b hb.2⟩⟩
  rw [hMe] at hF2
  rw [← show iv = .mk kk sh (nums.map (inF sn)) its from HIV.out] at hF2
  have HF := Lib.hid hF2
  have htb : (Value.slice o2 j e2).ownBlock ≠ some (w.heap.size + 1 + 1) := fun e => by have := (HOB.out _ e).1; have := HSZ.out; omega
  replace HBT := Lib.hid (HBT.out.kept (HFr.out _ htb))
  have HE := HEr
  have HB6 := HB6r
  clear hF2 hMe hML htb hlt hb6 HM HOr HFr HSr HO HH HIS HKS HE1S HBD HOB
  obtain ⟨x0, x1, x2, x3⟩ := HBT.out.cell
  have y0 := HBT.out.free 0
  have y1 := HBT.out.free 1
  have y2 := HBT.out.free 2
  have y3 := HBT.out.free 3
  obtain ⟨z0, z1, z2, z3⟩ := HB6.out.cell
  go_wp2_with fail
  obtain ⟨g1, g2, g3⟩ := HBT.out.put4 HE.out (by omega) (.int .i64 ko) (.slice o1 a1 e1) (.slice o2 j e2) (.slice o3 a3 e3)
  have hF9 := (HF.out.far (w' := (((wr.setCell ⟨w.heap.size + 1 + 1, 0, none⟩ (.int .i64 ko)).setCell ⟨w.heap.size + 1 + 1, 1, none⟩ (.slice o1 a1 e1)).setCell ⟨w.heap.size + 1 + 1, 2, none⟩ (.slice o2 j e2)).setCell ⟨w.heap.size + 1 + 1, 3, none⟩ (.slice o3 a3 e3)) fun b hb => g3 b (by have := HSZ.out; omega)).base (B' := w.heap.size) (by have := HSZ.out; omega)
  revert g1 g2 g3 hF9
  generalize (((wr.setCell ⟨w.heap.size + 1 + 1, 0, none⟩ (.int .i64 ko)).setCell ⟨w.heap.size + 1 + 1, 1, none⟩ (.slice o1 a1 e1)).setCell ⟨w.heap.size + 1 + 1, 2, none⟩ (.slice o2 j e2)).setCell ⟨w.heap.size + 1 + 1, 3, none⟩ (.slice o3 a3 e3) = w9
  intro g1 g2 g3 hF9
  clear z0 z1 z2 z3
  obtain ⟨z0, z1, z2, z3⟩ := g2.cell
  refine bodyPost_ret (v := .tuple #[.agg #[.int .i64 ko, .slice o1 a1 e1, .slice o2 j e2, .slice o3 a3 e3], .int .i64 (0)]) ?_ rfl ⟨_, _, _, _, rfl, hF9, g1⟩
  simp [results, Try.results63, go_sem, z0, z1, z2, z3]
end Go.Proofs.Ytgkemmdghmklfaa
