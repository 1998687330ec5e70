/-
  THE WALK of arraylangref06.contents. (Printed by gen_rcont.py.)
-/
import Derived.Test.YtgkemmdghmklfaaOrdB
namespace Go.Proofs.Ytgkemmdghmklfaa
set_option linter.unusedSimpArgs false
set_option linter.unusedVariables false
open Go.RowKit

theorem shape_prod {s : List Int} (h : rightGo 1 s = true) (h8 : s.length ≤ 8) : prodA 1 s = volN s ∧ volN s ≤ 65536 := by
  have h1 := prodA_nonneg s 1 (by omega) h
  have h2 := prodA_le s 1 (by omega) (by omega) h
  have h3 : shapeSize s = prodA 1 s := by
    unfold shapeSize
    rw [if_pos (by simp only [shapeRight, h, Bool.and_true, decide_eq_true_eq]; exact h8), ← prodA_volOf]
  unfold volN
  rw [h3]; omega

set_option maxRecDepth 1000000 in
set_option maxHeartbeats 16000000 in
theorem rcont_any (f : Arr → Arr → Int) (F G : Nat → Prop) (k : Int) (sx nx sy ny : List Int) (ix iy : List Arr) (p1 p2 p3 q1 q2 q3 : Option Addr) (m1 m2 m3 n1 n2 n3 : Nat) (N1 N2 : Nat) (hN1 : (if k = 3 then ix.length else nx.length) = N1) (hN2 : (if k = 3 then iy.length else ny.length) = N2) (hl1 : N1 ≤ 65536) (hl2 : N2 ≤ 65536)
    (hf : k = 3 → ∀ i j, i < ix.length → j < iy.length → ∀ (w : World) (c0 c1 c2 c3 d0 d1 d2 d3 : Value), ArrAt F w (ix.getD i default) c0 c1 c2 c3 → ArrAt G w (iy.getD j default) d0 d1 d2 d3 →
      Calls Try.prog 98 #[.agg #[c0, c1, c2, c3], .agg #[d0, d1, d2, d3]] w fun e w' => e = .returned (.int .i64 (f (ix.getD i default) (iy.getD j default))) ∧ Ext w w') :
    ∀ (s t : List Int) (FS GT : Nat → Prop) (p q : Option Addr) (c d : Nat) (i j : Nat) (w : World), ArrAt F w (.mk k sx nx ix) (.int .i64 k) (.slice p1 sx.length m1) (.slice p2 nx.length m2) (.slice p3 ix.length m3) → ArrAt G w (.mk k sy ny iy) (.int .i64 k) (.slice q1 sy.length n1) (.slice q2 ny.length n2) (.slice q3 iy.length n3) →
      IntsAt FS w p s → IntsAt GT w q t → s.length = t.length → s.length ≤ 8 → s.length ≤ c → t.length ≤ d → rightGo 1 s = true → rightGo 1 t = true → i ≤ 65536 → j ≤ 65536 → (0 < volN s → i + volN s ≤ N1) → (0 < volN t → j + volN t ≤ N2) →
      Calls Try.prog 139 #[.agg #[.int .i64 k, .slice p1 sx.length m1, .slice p2 nx.length m2, .slice p3 ix.length m3], .int .i64 (i : Int), .slice p s.length c, .agg #[.int .i64 k, .slice q1 sy.length n1, .slice q2 ny.length n2, .slice q3 iy.length n3], .int .i64 (j : Int), .slice q t.length d] w fun e w' => e = .returned (.int .i64 (contG (leafV f k nx ny ix iy) s t i j)) ∧ Ext w w' := by
  intro s
  induction s with
  | nil =>
    intro t FS GT p q c d i j w hx hy hs ht hlen h8 hc hd hrs hrt hi1 hj1 hi hj
    have ht0 : t = [] := List.eq_nil_of_length_eq_zero (by simpa using hlen.symm)
    subst ht0
    rw [vol_nil] at hi hj
    have hi := hi (by omega)
    have hj := hj (by omega)
    have HX := Lib.hid hx
    have HY := Lib.hid hy
    have HF := Lib.hid hf
    unfold ArrAt at hx hy
    obtain ⟨_, _, _, ⟨_, _, e2, o2, i2⟩, ⟨_, _, e3, o3, i3⟩⟩ := hx
    obtain ⟨_, _, _, ⟨_, _, e5, r2, j2⟩, ⟨_, _, e6, r3, j3⟩⟩ := hy
    cases e2
    cases e3
    cases e5
    cases e6
    have hE0 : Ext w ((w.alloc (.cells #[.int .i64 k, .slice p1 sx.length m1, .slice p2 nx.length m2, .slice p3 ix.length m3] 26)).alloc (.cells #[.int .i64 k, .slice q1 sy.length n1, .slice q2 ny.length n2, .slice q3 iy.length n3] 26)) := ((Ext.refl _).alloc _).alloc _
    have hBX := (box_new w (.int .i64 k) (.slice p1 sx.length m1) (.slice p2 nx.length m2) (.slice p3 ix.length m3)).ext ((Ext.refl _).alloc (.cells #[.int .i64 k, .slice q1 sy.length n1, .slice q2 ny.length n2, .slice q3 iy.length n3] 26))
    have hBY := box_new (w.alloc (.cells #[.int .i64 k, .slice p1 sx.length m1, .slice p2 nx.length m2, .slice p3 ix.length m3] 26)) (.int .i64 k) (.slice q1 sy.length n1) (.slice q2 ny.length n2) (.slice q3 iy.length n3)
    rw [World.size_alloc] at hBY
    have HE0 := Lib.hid hE0
    have HBX := Lib.hid hBX
    have HBY := Lib.hid hBY
    rw [contG]
    by_cases hk : k = 3
    · replace HF := Lib.hid (HF.out hk)
      rw [if_pos hk] at hN1 hN2
      rw [← hN1] at hi
      rw [← hN2] at hj
      obtain ⟨ba, oa, c0, c1, c2, c3, rfl, k0, k1, k2, k3, hA⟩ := i3.getD (show i < ix.length by omega)
      obtain ⟨bb, ob, d0, d1, d2, d3, rfl, l0, l1, l2, l3, hB⟩ := j3.getD (show j < iy.length by omega)
      have HIJ := Lib.hid (And.intro (show i < ix.length by omega) (show j < iy.length by omega))
      have hleaf : leafV f k nx ny ix iy i j = f (ix.getD i default) (iy.getD j default) := by unfold leafV; rw [if_pos hk]
      have HLE := Lib.hid hleaf
      have HA := Lib.hid hA
      have HB := Lib.hid hB
      have hil : i < ix.length := by omega
      have hjl : j < iy.length := by omega
      replace k0 := HE0.out.cell k0
      replace k1 := HE0.out.cell k1
      replace k2 := HE0.out.cell k2
      replace k3 := HE0.out.cell k3
      replace l0 := HE0.out.cell l0
      replace l1 := HE0.out.cell l1
      replace l2 := HE0.out.cell l2
      replace l3 := HE0.out.cell l3
      have hk3 : (k == 3) = true := by simpa using hk
      clear hf i2 i3 j2 j3 hleaf hA hB hE0 hBX hBY hs ht hk hN1 hN2 hi hj
      go_enter Try.func139, Try.ntmps139
      go_wp2_with fail
      have HC8 := Lib.hid (And.intro (And.intro k0 (And.intro k1 (And.intro k2 k3))) (And.intro l0 (And.intro l1 (And.intro l2 l3))))
      clear k0 k1 k2 k3 l0 l1 l2 l3
      have hs3 := HBX.out.cell.2.2.2
      have ht3 := HBY.out.cell.2.2.2
      have hc8 := HC8.out
      generalize ((w.alloc (.cells #[.int .i64 k, .slice p1 sx.length m1, .slice p2 nx.length m2, .slice (some ⟨ba, oa, none⟩) ix.length m3] 26)).alloc (.cells #[.int .i64 k, .slice q1 sy.length n1, .slice q2 ny.length n2, .slice (some ⟨bb, ob, none⟩) iy.length n3] 26)) = w1 at *
      have hS0 : w1.drew.cell? ⟨w.heap.size, 3, none⟩ = some (.slice (some ⟨ba, oa, none⟩) ix.length m3) ∧ w1.drew.cell? ⟨w.heap.size + 1, 3, none⟩ = some (.slice (some ⟨bb, ob, none⟩) iy.length n3) ∧
        (w1.drew.cell? ⟨ba, oa + i * 4, none⟩ = some c0 ∧ w1.drew.cell? ⟨ba, oa + i * 4 + 1, none⟩ = some c1 ∧ w1.drew.cell? ⟨ba, oa + i * 4 + 2, none⟩ = some c2 ∧ w1.drew.cell? ⟨ba, oa + i * 4 + 3, none⟩ = some c3) ∧
        (w1.drew.cell? ⟨bb, ob + j * 4, none⟩ = some d0 ∧ w1.drew.cell? ⟨bb, ob + j * 4 + 1, none⟩ = some d1 ∧ w1.drew.cell? ⟨bb, ob + j * 4 + 2, none⟩ = some d2 ∧ w1.drew.cell? ⟨bb, ob + j * 4 + 3, none⟩ = some d3) := ⟨hs3, ht3, hc8.1, hc8.2⟩
      clear hs3 ht3 hc8
      refine wp_region_g [0, 1, 2, 3, 4, 5, 6, 7, 8, 9] [10, 11] (fun w' => w'.cell? ⟨w.heap.size, 3, none⟩ = some (.slice (some ⟨ba, oa, none⟩) ix.length m3) ∧ w'.cell? ⟨w.heap.size + 1, 3, none⟩ = some (.slice (some ⟨bb, ob, none⟩) iy.length n3) ∧
        (w'.cell? ⟨ba, oa + i * 4, none⟩ = some c0 ∧ w'.cell? ⟨ba, oa + i * 4 + 1, none⟩ = some c1 ∧ w'.cell? ⟨ba, oa + i * 4 + 2, none⟩ = some c2 ∧ w'.cell? ⟨ba, oa + i * 4 + 3, none⟩ = some c3) ∧
        (w'.cell? ⟨bb, ob + j * 4, none⟩ = some d0 ∧ w'.cell? ⟨bb, ob + j * 4 + 1, none⟩ = some d1 ∧ w'.cell? ⟨bb, ob + j * 4 + 2, none⟩ = some d2 ∧ w'.cell? ⟨bb, ob + j * 4 + 3, none⟩ = some d3)) (by kernel_rfl) (by kernel_rfl) hS0 ?_
      iterate 10
        refine wpHead_cons (v := ?_) rfl (by rfl) (fun w' hS => ?_) ?_
        rotate_left
        · obtain ⟨hS1, hS2, ⟨k0, k1, k2, k3⟩, ⟨l0, l1, l2, l3⟩⟩ := hS
          go_simp
          try with_reducible rfl
        try simp only [Act.put, List.setIfInBounds_toArray, List.set]
      unfold wpHead
      refine wpTail_cons rfl (fun K hK => ?_)
      go_wp2_with fail
      refine (HF.out i j HIJ.out.1 HIJ.out.2 w1.drew _ _ _ _ _ _ _ _ (HA.out.ext HE0.out.drew) (HB.out.ext HE0.out.drew)).mono ?_
      rintro e w2 ⟨rfl, hE⟩
      rw [← HLE.out]
      have hE2 : Ext w w2 := HE0.out.drew.trans hE
      go_wp2_with fail
      refine hK _ _ ⟨hE.cell hS0.1, hE.cell hS0.2.1, ⟨hE.cell hS0.2.2.1.1, hE.cell hS0.2.2.1.2.1, hE.cell hS0.2.2.1.2.2.1, hE.cell hS0.2.2.1.2.2.2⟩, ⟨hE.cell hS0.2.2.2.1, hE.cell hS0.2.2.2.2.1, hE.cell hS0.2.2.2.2.2.1, hE.cell hS0.2.2.2.2.2.2⟩⟩ ?_
      try simp only [Act.put, List.setIfInBounds_toArray, List.set]
      refine wpTail_free1 rfl (by kernel_rfl) ?_
      clear hS0
      go_wp2_with fail
      refine OnlyN.mk ?_
      (try simp only [Exit.inBlock, Exit.then])
      go_wp2_with fail
      go_ret
      exact ⟨rfl, hE2⟩
    · rw [if_neg hk] at hN1 hN2
      rw [← hN1] at hi
      rw [← hN2] at hj
      obtain ⟨ba, oa, rfl, k0, _, _⟩ := i2.get (show i < nx.length by omega)
      obtain ⟨bb, ob, rfl, l0, _, _⟩ := j2.get (show j < ny.length by omega)
      have hleaf : leafV f k nx ny ix iy i j = sgn (nx.getD i 0) (ny.getD j 0) := by unfold leafV; rw [if_neg hk]
      have hil : i < nx.length := by omega
      have hjl : j < ny.length := by omega
      generalize nx.getD i 0 = a1 at *
      generalize ny.getD j 0 = a2 at *
      have HLE := Lib.hid hleaf
      have hk3 : (k == 3) = false := by simpa using hk
      replace k0 := HE0.out.cell k0
      replace l0 := HE0.out.cell l0
      clear hf i2 i3 j2 j3 hleaf hk hE0 hBX hBY hs ht hN1 hN2 hi hj
      go_enter Try.func139, Try.ntmps139
      go_wp2_with fail
      have hs2 := HBX.out.cell.2.2.1
      have ht2 := HBY.out.cell.2.2.1
      generalize ((w.alloc (.cells #[.int .i64 k, .slice p1 sx.length m1, .slice (some ⟨ba, oa, none⟩) nx.length m2, .slice p3 ix.length m3] 26)).alloc (.cells #[.int .i64 k, .slice q1 sy.length n1, .slice (some ⟨bb, ob, none⟩) ny.length n2, .slice q3 iy.length n3] 26)) = w1 at *
      go_quiet ((go_at_call 138; exact quiet_mine (r6sign_any a1 a2 _)))
      have hE2 := HE0.out.trans ((Ext.refl w1).drewN nq)
      clear k0 l0 hs2 ht2
      go_wp2_with fail
      go_ret
      exact ⟨ret_int HLE.out.symm, hE2⟩
  | cons dx s ih =>
    intro t FS GT p q c d i j w hx hy hs ht hlen h8 hc hd hrs hrt hi1 hj1 hi hj
    obtain ⟨dy, t, rfl⟩ : ∃ a r, t = a :: r := by
      cases t with
      | nil => simp at hlen
      | cons a r => exact ⟨a, r, rfl⟩
    have h8' : s.length ≤ 7 := by simp at h8; omega
    have hlen' : s.length = t.length := by simpa using hlen
    obtain ⟨gx1, gx2, gx3, gx4, gx5⟩ := size_cons hrs h8
    obtain ⟨gy1, gy2, gy3, gy4, gy5⟩ := size_cons hrt (by rw [← hlen]; exact h8)
    have hrs' := rightGo_tail hrs
    have hrt' := rightGo_tail hrt
    have hpp := shape_prod hrs' (by omega)
    have hqq := shape_prod hrt' (by omega)
    have hvs : volN (dx :: s) = dx.toNat * volN s := by unfold volN; rw [gx1, Int.toNat_mul gx2 gx4]
    have hvt : volN (dy :: t) = dy.toNat * volN t := by unfold volN; rw [gy1, Int.toNat_mul gy2 gy4]
    rw [hvs] at hi
    rw [hvt] at hj
    have hgoal : contG (leafV f k nx ny ix iy) (dx :: s) (dy :: t) i j = if firstNZ (fun q => contG (leafV f k nx ny ix iy) s t (i + q * volN s) (j + q * volN t)) (min dx dy).toNat 0 ≠ 0 then firstNZ (fun q => contG (leafV f k nx ny ix iy) s t (i + q * volN s) (j + q * volN t)) (min dx dy).toNat 0 else sgn dx dy := by
      rw [contG]; rfl
    obtain ⟨ba, oa, e3, k0, _, _⟩ := hs.get (show 0 < (dx :: s).length by simp)
    obtain ⟨bb, ob, e4, l0, _, _⟩ := ht.get (show 0 < (dy :: t).length by simp)
    subst e3 e4
    rw [Nat.add_zero] at k0 l0
    have k0 : w.cell? ⟨ba, oa, none⟩ = some (.int .i64 dx) := k0
    have l0 : w.cell? ⟨bb, ob, none⟩ = some (.int .i64 dy) := l0
    have hP1 := fun w' (e : Ext w w') => r2product_any FS (some ⟨ba, oa, none⟩) c 1 (dx :: s) w' (hs.ext e) (by unfold lenMax; omega) (by simp) hrs'
    have hP2 := fun w' (e : Ext w w') => r2product_any GT (some ⟨bb, ob, none⟩) d 1 (dy :: t) w' (ht.ext e) (by unfold lenMax; omega) (by simp) hrt'
    obtain ⟨vp, hvp⟩ : ∃ vp, volN s = vp := ⟨_, rfl⟩
    obtain ⟨vq, hvq⟩ : ∃ vq, volN t = vq := ⟨_, rfl⟩
    have hdp : prodA 1 ((dx :: s).drop 1) = (vp : Int) := by rw [← hvp]; exact hpp.1
    have hdq : prodA 1 ((dy :: t).drop 1) = (vq : Int) := by rw [← hvq]; exact hqq.1
    have hs1 := hs.cut (n := s.length) 1 c hc
    have ht1 := ht.cut (n := t.length) 1 d hd
    rw [show ((dx :: s).drop 1).take s.length = s by simp] at hs1
    rw [show ((dy :: t).drop 1).take t.length = t by simp] at ht1
    obtain ⟨L, hL⟩ : ∃ L, L = (dx :: s).length := ⟨_, rfl⟩
    have hL2 : L = (dy :: t).length := by rw [hL]; exact hlen
    have hLs : L = s.length + 1 := by rw [hL]; simp
    have hrunx : ∀ w, (Instr.sliceAt 23 (.slice (some ⟨ba, oa, none⟩) L c) (some (.int .i64 1)) none none).run Try.prog w = .ok (.slice (cutAt (some ⟨ba, oa, none⟩) 1 c 1) s.length (c - 1)) w := fun w => by
      have := slice_l (some ⟨ba, oa, none⟩) L c w 1 (by omega)
      rw [show L - 1 = s.length by omega] at this
      exact this
    have hruny : ∀ w, (Instr.sliceAt 23 (.slice (some ⟨bb, ob, none⟩) L d) (some (.int .i64 1)) none none).run Try.prog w = .ok (.slice (cutAt (some ⟨bb, ob, none⟩) 1 d 1) t.length (d - 1)) w := fun w => by
      have := slice_l (some ⟨bb, ob, none⟩) L d w 1 (by omega)
      rw [show L - 1 = t.length by omega] at this
      exact this
    generalize cutAt (some ⟨ba, oa, none⟩) 1 c 1 = px at *
    generalize cutAt (some ⟨bb, ob, none⟩) 1 d 1 = py at *
    rw [← hL] at hP1 hc ⊢
    rw [← hL2] at hP2 hd ⊢
    have hP1' : ∀ w', Ext w w' → Calls Try.prog 113 #[.slice (some ⟨ba, oa, none⟩) L c, .int .i64 1, .int .i64 (L : Int)] w' fun e w'' => e = .returned (.int .i64 (vp : Int)) ∧ w' = w'' := fun w' e => by
      have h := hP1 w' e
      rw [hdp] at h
      exact h
    have hP2' : ∀ w', Ext w w' → Calls Try.prog 113 #[.slice (some ⟨bb, ob, none⟩) L d, .int .i64 1, .int .i64 (L : Int)] w' fun e w'' => e = .returned (.int .i64 (vq : Int)) ∧ w' = w'' := fun w' e => by
      have h := hP2 w' e
      rw [hdq] at h
      exact h
    have hL0 : 0 < L := by omega
    have hL8 : L ≤ 8 := by omega
    have HP1 := Lib.hid hP1'
    have HP2 := Lib.hid hP2'
    have HX := Lib.hid hx
    have HY := Lib.hid hy
    have HS1 := Lib.hid hs1
    have HT1 := Lib.hid ht1
    have HI := Lib.hid hi
    have HJ := Lib.hid hj
    have HG := Lib.hid hgoal
    have HVP := Lib.hid hvp
    have HVQ := Lib.hid hvq
    have IH := Lib.hid (fun i2 j2 w' (e : Ext w w') h1 h2 h3 h4 => ih t FS GT px py (c - 1) (d - 1) i2 j2 w' (hx.ext e) (hy.ext e) (hs1.ext e) (ht1.ext e) hlen' (by omega) (by omega) (by omega) hrs' hrt' h1 h2 h3 h4)
    obtain ⟨M, hM⟩ : ∃ M : Nat, (min dx dy).toNat = M := ⟨_, rfl⟩
    have hMd : (M : Int) ≤ dx ∧ (M : Int) ≤ dy ∧ M ≤ 65536 := by omega
    have hMe : (M : Int) = dx ∨ ((M : Int) < dx ∧ (M : Int) = dy) := by omega
    have hMn : M ≤ dx.toNat ∧ M ≤ dy.toNat := by omega
    have HM := Lib.hid hM
    rw [hvp] at hpp
    rw [hvq] at hqq
    have hpb := hpp.2
    have hqb := hqq.2
    have hE0 : Ext w ((w.alloc (.cells #[.int .i64 k, .slice p1 sx.length m1, .slice p2 nx.length m2, .slice p3 ix.length m3] 26)).alloc (.cells #[.int .i64 k, .slice q1 sy.length n1, .slice q2 ny.length n2, .slice q3 iy.length n3] 26)) := ((Ext.refl _).alloc _).alloc _
    have hBX := (box_new w (.int .i64 k) (.slice p1 sx.length m1) (.slice p2 nx.length m2) (.slice p3 ix.length m3)).ext ((Ext.refl _).alloc (.cells #[.int .i64 k, .slice q1 sy.length n1, .slice q2 ny.length n2, .slice q3 iy.length n3] 26))
    have hBY := box_new (w.alloc (.cells #[.int .i64 k, .slice p1 sx.length m1, .slice p2 nx.length m2, .slice p3 ix.length m3] 26)) (.int .i64 k) (.slice q1 sy.length n1) (.slice q2 ny.length n2) (.slice q3 iy.length n3)
    rw [World.size_alloc] at hBY
    have HBX := Lib.hid hBX
    have HBY := Lib.hid hBY
    have HE0 := Lib.hid hE0
    have hbp : ∀ q, q < M → 0 < vp → i + q * vp + vp ≤ N1 := fun q hq hv => by
      have h1 := Nat.mul_le_mul_right vp (show q + 1 ≤ dx.toNat by omega)
      rw [Nat.succ_mul] at h1
      have h2 := HI.out
      rw [HVP.out] at h2
      have h3 := h2 (by omega)
      omega
    have hbq : ∀ q, q < M → 0 < vq → j + q * vq + vq ≤ N2 := fun q hq hv => by
      have h1 := Nat.mul_le_mul_right vq (show q + 1 ≤ dy.toNat by omega)
      rw [Nat.succ_mul] at h1
      have h2 := HJ.out
      rw [HVQ.out] at h2
      have h3 := h2 (by omega)
      omega
    have hvpM : ∀ q, q < M → i + q * vp ≤ 65536 := fun q hq => by
      rcases Nat.eq_zero_or_pos vp with h | h
      · rw [h]; omega
      · have := hbp q hq h; omega
    have hvqM : ∀ q, q < M → j + q * vq ≤ 65536 := fun q hq => by
      rcases Nat.eq_zero_or_pos vq with h | h
      · rw [h]; omega
      · have := hbq q hq h; omega
    have HBP := Lib.hid hbp
    have HBQ := Lib.hid hbq
    have HPM := Lib.hid hvpM
    have HQM := Lib.hid hvqM
    obtain ⟨g, hg⟩ : ∃ g : Nat → Int, g = fun q => contG (leafV f k nx ny ix iy) s t (i + q * vp) (j + q * vq) := ⟨_, rfl⟩
    have HG2 := Lib.hid (show contG (leafV f k nx ny ix iy) (dx :: s) (dy :: t) i j = if firstNZ g M 0 ≠ 0 then firstNZ g M 0 else sgn dx dy by
      rw [HG.out, hg, HVP.out, HVQ.out, HM.out])
    have HGQ := Lib.hid (show ∀ q, g q = contG (leafV f k nx ny ix iy) s t (i + q * vp) (j + q * vq) from fun q => by rw [hg])
    replace k0 := HE0.out.cell k0
    replace l0 := HE0.out.cell l0
    generalize contG (leafV f k nx ny ix iy) (dx :: s) (dy :: t) i j = ans at *
    clear ih hx hy hs ht hlen hrs hrt hi hj gx1 gx3 gx4 gx5 gy1 gy3 gy4 gy5 hrs' hrt' hpp hqq hvs hvt hgoal hP1 hP2 hP1' hP2' hvp hvq hdp hdq hs1 ht1 hL hL2 hLs hM hE0 hBX hBY hbp hbq hvpM hvqM hg hf HI HJ HG hlen' h8 hN1 hN2
    have hLz : ((L : Int) == 0) = false := by simp; omega
    go_enter Try.func139, Try.ntmps139
    go_wp2_with fail
    (with_reducible refine (HP1.out _ HE0.out).mono ?_)
    rintro e w' ⟨rfl, rfl⟩
    go_wp2_with fail
    (with_reducible refine (HP2.out _ HE0.out).mono ?_)
    rintro e w' ⟨rfl, rfl⟩
    go_wp2_with fail
    generalize ((w.alloc (.cells #[.int .i64 k, .slice p1 sx.length m1, .slice p2 nx.length m2, .slice p3 ix.length m3] 26)).alloc (.cells #[.int .i64 k, .slice q1 sy.length n1, .slice q2 ny.length n2, .slice q3 iy.length n3] 26)) = w1 at *
    go_loopw [15] (fun qv wr => ∃ q : Nat, q ≤ M ∧ qv = .int .i64 q ∧ Ext w1 wr ∧ Hid (firstNZ g (M - q) q = firstNZ g M 0)) (fun qv _ => M - (intOf qv).toNat)
    case atStart => exact ⟨0, Nat.zero_le _, rfl, Ext.refl _, Lib.hid rfl⟩
    case round =>
    obtain ⟨q, hq, rfl, hE, HR⟩ := hrel
    have HEr := Lib.hid (HE0.out.trans hE)
    have HE := Lib.hid hE
    replace k0 := hE.cell k0
    replace l0 := hE.cell l0
    clear hE
    by_cases hqm : q < M
    · have hr := HR.out
      rw [show M - q = (M - (q + 1)) + 1 by omega, firstNZ] at hr
      obtain ⟨z1, hz1⟩ : ∃ z, q * vp = z := ⟨_, rfl⟩
      obtain ⟨z2, hz2⟩ : ∃ z, q * vq = z := ⟨_, rfl⟩
      have b1 := HPM.out q hqm
      have b2 := HQM.out q hqm
      rw [hz1] at b1
      rw [hz2] at b2
      have e1 : (q : Int) * (vp : Int) = (z1 : Int) := by rw [← hz1]; simp
      have e2 : (q : Int) * (vq : Int) = (z2 : Int) := by rw [← hz2]; simp
      have w1' : IntKind.i64.wrap ((q : Int) * (vp : Int)) = (z1 : Int) := by rw [e1]; exact IntWalk.i64_in _ (by omega)
      have w2' : IntKind.i64.wrap ((q : Int) * (vq : Int)) = (z2 : Int) := by rw [e2]; exact IntWalk.i64_in _ (by omega)
      obtain ⟨i2, hi2⟩ : ∃ i2, i + z1 = i2 := ⟨_, rfl⟩
      obtain ⟨j2, hj2⟩ : ∃ j2, j + z2 = j2 := ⟨_, rfl⟩
      have w3' : IntKind.i64.wrap ((i : Int) + (z1 : Int)) = (i2 : Int) := by rw [show (i : Int) + (z1 : Int) = (i2 : Int) by omega]; exact IntWalk.i64_in _ (by omega)
      have w4' : IntKind.i64.wrap ((j : Int) + (z2 : Int)) = (j2 : Int) := by rw [show (j : Int) + (z2 : Int) = (j2 : Int) by omega]; exact IntWalk.i64_in _ (by omega)
      have hcall : ∀ w', Ext w w' → Calls Try.prog 139 #[.agg #[.int .i64 k, .slice p1 sx.length m1, .slice p2 nx.length m2, .slice p3 ix.length m3], .int .i64 (i2 : Int), .slice px s.length (c - 1), .agg #[.int .i64 k, .slice q1 sy.length n1, .slice q2 ny.length n2, .slice q3 iy.length n3], .int .i64 (j2 : Int), .slice py t.length (d - 1)] w' fun e w'' => e = .returned (.int .i64 (g q)) ∧ Ext w' w'' := fun w' e => by
        have h := IH.out i2 j2 w' e (by omega) (by omega) (by
          rw [HVP.out]; intro hv
          have := HBP.out q hqm hv
          omega) (by
          rw [HVQ.out]; intro hv
          have := HBQ.out q hqm hv
          omega)
        rw [HGQ.out q, hz1, hz2, hi2, hj2]
        exact h
      have HCALL := Lib.hid hcall
      have hq1 : (q : Int) < dx := by omega
      have hq2 : (q : Int) < dy := by omega
      clear hcall b1 b2 hz1 hz2 hi2 hj2 HR e1 e2
      go_wp2_with fail
      have hS0 : (wr.drew.cell? ⟨w.heap.size, 0, none⟩ = some (.int .i64 k) ∧ wr.drew.cell? ⟨w.heap.size, 1, none⟩ = some (.slice p1 sx.length m1) ∧ wr.drew.cell? ⟨w.heap.size, 2, none⟩ = some (.slice p2 nx.length m2) ∧ wr.drew.cell? ⟨w.heap.size, 3, none⟩ = some (.slice p3 ix.length m3)) ∧ (wr.drew.cell? ⟨w.heap.size + 1, 0, none⟩ = some (.int .i64 k) ∧ wr.drew.cell? ⟨w.heap.size + 1, 1, none⟩ = some (.slice q1 sy.length n1) ∧ wr.drew.cell? ⟨w.heap.size + 1, 2, none⟩ = some (.slice q2 ny.length n2) ∧ wr.drew.cell? ⟨w.heap.size + 1, 3, none⟩ = some (.slice q3 iy.length n3)) := ⟨(HBX.out.ext (HE.out.drew)).cell, (HBY.out.ext (HE.out.drew)).cell⟩
      have HS0 := Lib.hid hS0
      refine wp_region_g [0, 1, 2, 3, 4, 5, 6, 7, 8, 9, 10, 11, 12, 13, 14, 15] [16, 17] (fun w' => (w'.cell? ⟨w.heap.size, 0, none⟩ = some (.int .i64 k) ∧ w'.cell? ⟨w.heap.size, 1, none⟩ = some (.slice p1 sx.length m1) ∧ w'.cell? ⟨w.heap.size, 2, none⟩ = some (.slice p2 nx.length m2) ∧ w'.cell? ⟨w.heap.size, 3, none⟩ = some (.slice p3 ix.length m3)) ∧ (w'.cell? ⟨w.heap.size + 1, 0, none⟩ = some (.int .i64 k) ∧ w'.cell? ⟨w.heap.size + 1, 1, none⟩ = some (.slice q1 sy.length n1) ∧ w'.cell? ⟨w.heap.size + 1, 2, none⟩ = some (.slice q2 ny.length n2) ∧ w'.cell? ⟨w.heap.size + 1, 3, none⟩ = some (.slice q3 iy.length n3))) (by kernel_rfl) (by kernel_rfl) hS0 ?_
      clear hS0
      iterate 16
        refine wpHead_cons (v := ?_) rfl (by rfl) (fun w' hS => ?_) ?_
        rotate_left
        · obtain ⟨⟨s0, s1, s2, s3⟩, ⟨t0, t1, t2, t3⟩⟩ := hS
          go_simp
          try with_reducible rfl
        try simp only [Act.put, List.setIfInBounds_toArray, List.set]
      unfold wpHead
      refine wpTail_cons rfl (fun K hK => ?_)
      go_wp2_with fail
      (with_reducible refine (HCALL.out _ HEr.out.drew).mono ?_)
      rintro e w5 ⟨rfl, hE5⟩
      have hS5 := HS0.out
      have hE6 : Ext wr w5 := (Ext.refl wr).drew.trans hE5
      generalize g q = v at *
      clear HCALL w1' w2' w3' w4' HS0
      go_wp2_with fail
      refine hK _ _ ⟨⟨hE5.cell hS5.1.1, hE5.cell hS5.1.2.1, hE5.cell hS5.1.2.2.1, hE5.cell hS5.1.2.2.2⟩, ⟨hE5.cell hS5.2.1, hE5.cell hS5.2.2.1, hE5.cell hS5.2.2.2.1, hE5.cell hS5.2.2.2.2⟩⟩ ?_
      try simp only [Act.put, List.setIfInBounds_toArray, List.set]
      refine wpTail_free1 rfl (by kernel_rfl) ?_
      clear hS5 hE5
      go_wp2_with fail
      refine OnlyN.mk ?_
      (try simp only [Exit.inBlock, Exit.then])
      by_cases hv : v = 0
      · subst hv
        have HR2 := Lib.hid (show firstNZ g (M - (q + 1)) (q + 1) = firstNZ g M 0 by simpa using hr)
        have hE7 := HE.out.trans hE6
        clear hr HE hE6
        go_wp2_with fail
        go_roundw
        case rel => exact ⟨q + 1, by omega, by go_num, hE7, HR2⟩
        case measure => simp [intOf]; omega
      · have hv2 : (v != 0) = true := by simpa using hv
        have hr2 : v = firstNZ g M 0 := by simpa [hv] using hr
        have HR2 := Lib.hid (show v = ans by rw [HG2.out, ← hr2, if_pos hv])
        have hE7 := HEr.out.trans hE6
        clear hr hr2 hv HE hE6
        go_wp2_with fail
        go_ret
        exact ⟨ret_int HR2.out, hE7⟩
    · have hr := HR.out
      rw [show M - q = 0 by omega, firstNZ] at hr
      have HR2 := Lib.hid (show sgn dx dy = ans by rw [HG2.out, ← hr, if_neg (by simp)])
      have hqe : q = M := by omega
      subst hqe
      clear hr HE HR hqm
      have key : ¬ (q : Int) < dx ∨ ((q : Int) < dx ∧ ¬ (q : Int) < dy) := by omega
      clear hMe
      rcases key with hq1 | ⟨hq1, hq2⟩
      all_goals
        go_wp2_with fail
        go_quiet ((go_at_call 138; exact quiet_mine (r6sign_any dx dy _)))
        have hE6 := HEr.out.trans ((Ext.refl wr).drewN nq)
        clear k0 l0
        go_wp2_with fail
        go_ret
        exact ⟨ret_int HR2.out, hE6⟩

end Go.Proofs.Ytgkemmdghmklfaa
