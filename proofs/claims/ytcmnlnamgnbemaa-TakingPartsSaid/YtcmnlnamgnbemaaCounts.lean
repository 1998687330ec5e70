/-
  THE WALK of the reference's Counts.
-/
import Derived.Test.YtcmnlnamgnbemaaTake
import Derived.Test.YtcmnlnamgnbemaaRLaw
namespace Go.Proofs.Ytcmnlnamgnbemaa
set_option linter.unusedSimpArgs false
set_option linter.unusedVariables false
open Go.RowKit

set_option maxRecDepth 100000 in
set_option maxHeartbeats 8000000 in
theorem counts_err (F G : Nat → Prop) (x y : Arr) (c0 c1 c2 c3 d0 d1 d2 d3 : Value) (w : World) (hx : ArrAt F w x c0 c1 c2 c3) (hy : ArrAt G w y d0 d1 d2 d3) (he : tkErr x y ≠ 0) :
    Calls Try.prog 71 #[.agg #[c0, c1, c2, c3], .agg #[d0, d1, d2, d3]] w fun e w' =>
      e = .returned (.tuple #[.slice none 0 0, .slice none 0 0, .int .i64 (tkErr x y)]) ∧ Ext w w' := by
  obtain ⟨kx, sx, nx, ix⟩ := x
  obtain ⟨ky, sy, ny, iy⟩ := y
  have hx' := hx
  have hy' := hy
  unfold ArrAt at hx' hy'
  obtain ⟨rfl, hkx, ⟨q1, m1, rfl, ⟨o1, o1', o1''⟩, i1⟩, ⟨q2, m2, rfl, ⟨o2, o2', o2''⟩, i2⟩, ⟨q3, m3, rfl, ⟨o3, o3', o3''⟩, i3⟩⟩ := hx'
  obtain ⟨rfl, hky, ⟨r1, n1, rfl, ⟨p1, p1', p1''⟩, j1⟩, ⟨r2, n2, rfl, ⟨p2, p2', p2''⟩, j2⟩, ⟨r3, n3, rfl, ⟨p3, p3', p3''⟩, j3⟩⟩ := hy'
  have HX := Lib.hid hx
  have HY := Lib.hid hy
  clear hx hy i1 i2 i3 j1 j2 j3
  generalize hres : tkErr (.mk kx sx nx ix) (.mk ky sy ny iy) = res at *
  have hR : (if rightV (.mk kx sx nx ix) ≠ 0 then 1 else if rightV (.mk ky sy ny iy) ≠ 0 then 1 else if kx ≠ 1 then 14 else if 1 < sx.length then 15 else if 0 < sy.length ∧ sy.length < nx.length then 16 else if 8 < nx.length then 21 else 0) = res := by
    rw [← hres]; rfl
  clear hres
  have HR := Lib.hid hR
  have HNE := Lib.hid he
  clear hR he
  go_enter Try.func71, Try.ntmps71
  go_wp2_with fail
  have hE0 : Ext w ((w.alloc (.cells #[.int .i64 kx, .slice q1 sx.length m1, .slice q2 nx.length m2, .slice q3 ix.length m3] 26)).alloc (.cells #[.int .i64 ky, .slice r1 sy.length n1, .slice r2 ny.length n2, .slice r3 iy.length n3] 26)) := ((Ext.refl _).alloc _).alloc _
  have hBX := (box_new w (.int .i64 kx) (.slice q1 sx.length m1) (.slice q2 nx.length m2) (.slice q3 ix.length m3)).ext ((Ext.refl _).alloc (.cells #[.int .i64 ky, .slice r1 sy.length n1, .slice r2 ny.length n2, .slice r3 iy.length n3] 26))
  have hBY := box_new (w.alloc (.cells #[.int .i64 kx, .slice q1 sx.length m1, .slice q2 nx.length m2, .slice q3 ix.length m3] 26)) (.int .i64 ky) (.slice r1 sy.length n1) (.slice r2 ny.length n2) (.slice r3 iy.length n3)
  rw [World.size_alloc] at hBY
  generalize ((w.alloc (.cells #[.int .i64 kx, .slice q1 sx.length m1, .slice q2 nx.length m2, .slice q3 ix.length m3] 26)).alloc (.cells #[.int .i64 ky, .slice r1 sy.length n1, .slice r2 ny.length n2, .slice r3 iy.length n3] 26)) = w1 at hE0 hBX hBY ⊢
  refine (r3right_any F _ _ _ _ _ w1 (HX.out.ext hE0)).mono ?_
  rintro e w2 ⟨rfl, hE1⟩
  rw [rright_eq]
  have hE2 := hE0.trans hE1
  replace hBX := hBX.ext hE1
  replace hBY := hBY.ext hE1
  obtain ⟨t0, t1, t2, t3⟩ := hBY.cell
  by_cases hr : rightV (.mk kx sx nx ix) = 0
  · have hR1 := HR.out
    rw [if_neg (by simpa using hr)] at hR1
    have HR1 := Lib.hid hR1
    rw [hr]
    clear HR hr hR1
    go_wp2_with fail
    refine (r3right_any G _ _ _ _ _ w2 (HY.out.ext hE2)).mono ?_
    rintro e w3 ⟨rfl, hE3⟩
    rw [rright_eq]
    have hE4 := hE2.trans hE3
    replace hBX := hBX.ext hE3
    replace hBY := hBY.ext hE3
    clear t0 t1 t2 t3
    obtain ⟨s0, s1, s2, s3⟩ := hBX.cell
    obtain ⟨t0, t1, t2, t3⟩ := hBY.cell
    by_cases hq : rightV (.mk ky sy ny iy) = 0
    · have hR2 := HR1.out
      rw [if_neg (by simpa using hq)] at hR2
      rw [hq]
      obtain ⟨_, h8y, _, _, _⟩ := right_parts hq
      by_cases hk : kx = 1
      · rw [if_neg (by simpa using hk)] at hR2
        have hkb : (kx != 1) = false := by simpa using hk
        by_cases hl : 1 < sx.length
        · rw [if_pos hl] at hR2
          subst hR2
          have hl' : (1 : Int) < sx.length := by omega
          clear hk HR1 hq
          go_wp2_with fail
          refine bodyPost_ret (v := .tuple #[.slice none 0 0, .slice none 0 0, .int .i64 15]) ?_ rfl ⟨rfl, hE4⟩
          simp [results, Try.results71, go_sem]
        · rw [if_neg hl] at hR2
          have hl' : ¬ (1 : Int) < sx.length := by omega
          by_cases hm : 0 < sy.length ∧ sy.length < nx.length
          · rw [if_pos hm] at hR2
            subst hR2
            have hm1 : (0 : Int) < sy.length := by omega
            have hm2 : (sy.length : Int) < nx.length := by omega
            have hm3 := hm.1
            have hm4 := hm.2
            clear hk HR1 hq hm
            go_wp2_with fail
            refine bodyPost_ret (v := .tuple #[.slice none 0 0, .slice none 0 0, .int .i64 16]) ?_ rfl ⟨rfl, hE4⟩
            simp [results, Try.results71, go_sem]
          · rw [if_neg hm] at hR2
            by_cases h8 : 8 < nx.length
            · rw [if_pos h8] at hR2
              subst hR2
              have h0 : sy.length = 0 := by omega
              have h0' : ¬ (0 : Int) < sy.length := by omega
              have h0'' : ((sy.length : Int) == 0) = true := by rw [h0]; rfl
              have h8' : (8 : Int) < nx.length := by omega
              clear hk HR1 hq hm h0
              go_wp2_with fail
              refine bodyPost_ret (v := .tuple #[.slice none 0 0, .slice none 0 0, .int .i64 21]) ?_ rfl ⟨rfl, hE4⟩
              simp [results, Try.results71, go_sem]
            · rw [if_neg h8] at hR2
              exact absurd hR2.symm HNE.out
      · rw [if_pos hk] at hR2
        subst hR2
        have hkb : (kx != 1) = true := by simpa using hk
        clear hk HR1 hq
        go_wp2_with fail
        refine bodyPost_ret (v := .tuple #[.slice none 0 0, .slice none 0 0, .int .i64 14]) ?_ rfl ⟨rfl, hE4⟩
        simp [results, Try.results71, go_sem]
    · have hR2 := HR1.out
      rw [if_pos hq] at hR2
      subst hR2
      have hqb : (rightV (.mk ky sy ny iy) != 0) = true := by simpa using hq
      generalize rightV (.mk ky sy ny iy) = rv at *
      clear hq HR1
      go_wp2_with fail
      refine bodyPost_ret (v := .tuple #[.slice none 0 0, .slice none 0 0, .int .i64 1]) ?_ rfl ⟨rfl, hE4⟩
      simp [results, Try.results71, go_sem]
  · have hR1 := HR.out
    rw [if_pos hr] at hR1
    subst hR1
    have hrb : (rightV (.mk kx sx nx ix) != 0) = true := by simpa using hr
    generalize rightV (.mk kx sx nx ix) = rv at *
    clear hr HR
    go_wp2_with fail
    refine bodyPost_ret (v := .tuple #[.slice none 0 0, .slice none 0 0, .int .i64 1]) ?_ rfl ⟨rfl, hE2⟩
    simp [results, Try.results71, go_sem]

set_option maxRecDepth 100000 in
set_option maxHeartbeats 8000000 in
theorem counts_ok (F G : Nat → Prop) (kx ky : Int) (sx nx sy ny : List Int) (ix iy : List Arr) (q2 r1 : Option Addr) (m2 n1 : Nat) (c0 c1 c3 d0 d2 d3 : Value) (w : World) (hx : ArrAt F w (.mk kx sx nx ix) c0 c1 (.slice q2 nx.length m2) c3) (hy : ArrAt G w (.mk ky sy ny iy) d0 (.slice r1 sy.length n1) d2 d3) (he : tkErr (.mk kx sx nx ix) (.mk ky sy ny iy) = 0) :
    Calls Try.prog 71 #[.agg #[c0, c1, .slice q2 nx.length m2, c3], .agg #[d0, .slice r1 sy.length n1, d2, d3]] w fun e w' =>
      ∃ p c, e = .returned (.tuple #[.slice q2 nx.length m2, .slice p (tkS (tkY nx.length (.mk ky sy ny iy))).length c, .int .i64 0]) ∧ IntsAt (fun b => w.heap.size ≤ b ∨ G b) w' p (tkS (tkY nx.length (.mk ky sy ny iy))) ∧ Ext w w' := by
  have hx' := hx
  have hy' := hy
  unfold ArrAt at hx' hy'
  obtain ⟨rfl, hkx, ⟨q1, m1, rfl, ⟨o1, o1', o1''⟩, i1⟩, ⟨q2', m2', hq2, ⟨o2, o2', o2''⟩, i2⟩, ⟨q3, m3, rfl, ⟨o3, o3', o3''⟩, i3⟩⟩ := hx'
  simp only [Value.slice.injEq, true_and] at hq2
  obtain ⟨rfl, rfl⟩ := hq2
  obtain ⟨rfl, hky, ⟨r1', n1', hq1, ⟨p1, p1', p1''⟩, j1⟩, ⟨r2, n2, rfl, ⟨p2, p2', p2''⟩, j2⟩, ⟨r3, n3, rfl, ⟨p3, p3', p3''⟩, j3⟩⟩ := hy'
  simp only [Value.slice.injEq, true_and] at hq1
  obtain ⟨rfl, rfl⟩ := hq1
  have HX := Lib.hid hx
  have HY := Lib.hid hy
  have J1 := Lib.hid j1
  clear hx hy i1 i2 i3 j1 j2 j3
  obtain ⟨hrx, hry, hk1, hl, hm, h8⟩ := tkErr_parts he
  obtain ⟨_, h8y, _, _, _⟩ := right_parts hry
  have hkb : (kx != 1) = false := by simpa using hk1
  have HRX := Lib.hid hrx
  have HRY := Lib.hid hry
  have hl' : ¬ (1 : Int) < sx.length := by omega
  have h8' : ¬ (8 : Int) < nx.length := by omega
  have hl8 : nx.length ≤ 8 := by omega
  have HT : Hid (tkS (tkY nx.length (.mk ky sy ny iy)) = if sy.length = 0 then List.replicate nx.length 1 else sy) := rfl
  generalize tkS (tkY nx.length (.mk ky sy ny iy)) = S at *
  clear hrx hry he hl hk1
  go_enter Try.func71, Try.ntmps71
  go_wp2_with fail
  have hE0 : Ext w ((w.alloc (.cells #[.int .i64 kx, .slice q1 sx.length m1, .slice q2 nx.length m2, .slice q3 ix.length m3] 26)).alloc (.cells #[.int .i64 ky, .slice r1 sy.length n1, .slice r2 ny.length n2, .slice r3 iy.length n3] 26)) := ((Ext.refl _).alloc _).alloc _
  have hBX := (box_new w (.int .i64 kx) (.slice q1 sx.length m1) (.slice q2 nx.length m2) (.slice q3 ix.length m3)).ext ((Ext.refl _).alloc (.cells #[.int .i64 ky, .slice r1 sy.length n1, .slice r2 ny.length n2, .slice r3 iy.length n3] 26))
  have hBY := box_new (w.alloc (.cells #[.int .i64 kx, .slice q1 sx.length m1, .slice q2 nx.length m2, .slice q3 ix.length m3] 26)) (.int .i64 ky) (.slice r1 sy.length n1) (.slice r2 ny.length n2) (.slice r3 iy.length n3)
  rw [World.size_alloc] at hBY
  generalize ((w.alloc (.cells #[.int .i64 kx, .slice q1 sx.length m1, .slice q2 nx.length m2, .slice q3 ix.length m3] 26)).alloc (.cells #[.int .i64 ky, .slice r1 sy.length n1, .slice r2 ny.length n2, .slice r3 iy.length n3] 26)) = w1 at hE0 hBX hBY ⊢
  refine (r3right_any F _ _ _ _ _ w1 (HX.out.ext hE0)).mono ?_
  rintro e w2 ⟨rfl, hE1⟩
  rw [rright_eq, HRX.out]
  have hE2 := hE0.trans hE1
  replace hBX := hBX.ext hE1
  replace hBY := hBY.ext hE1
  obtain ⟨t0, t1, t2, t3⟩ := hBY.cell
  go_wp2_with fail
  refine (r3right_any G _ _ _ _ _ w2 (HY.out.ext hE2)).mono ?_
  rintro e w3 ⟨rfl, hE3⟩
  rw [rright_eq, HRY.out]
  have hE4 := hE2.trans hE3
  replace hBX := hBX.ext hE3
  replace hBY := hBY.ext hE3
  clear t0 t1 t2 t3 hE0 hE1 hE2 hE3
  obtain ⟨s0, s1, s2, s3⟩ := hBX.cell
  obtain ⟨t0, t1, t2, t3⟩ := hBY.cell
  by_cases hs0 : sy.length = 0
  · have hs1 : ¬ (0 : Int) < sy.length := by omega
    have hs2 : ((sy.length : Int) == 0) = true := by rw [hs0]; rfl
    have hT := HT.out
    rw [if_pos hs0] at hT
    subst hT
    have hsn : sy = [] := List.length_eq_zero_iff.1 hs0
    subst hsn
    clear HT hm
    have HBX := Lib.hid hBX
    have HBY := Lib.hid hBY
    have HE4 := Lib.hid hE4
    go_wp2_with fail
    go_loopw [7, 8] (fun v i wq => ∃ (q : Nat) (p : Option Addr) (c : Nat), q ≤ nx.length ∧ i = .int .i64 q ∧ v = .slice p q c ∧ Ext w3 wq ∧ IntsAt (fun b => w.heap.size ≤ b) wq p (List.replicate q 1)) (fun _ i _ => nx.length - (intOf i).toNat)
    case atStart => exact ⟨0, r1, n1, Nat.zero_le _, rfl, rfl, Ext.refl _, fun j hj => by simp at hj⟩
    case round =>
      obtain ⟨q, p, c, hq, rfl, rfl, hEq, hIq⟩ := hrel
      clear s0 s1 s2 s3 t0 t1 t2 t3 hBX hBY
      obtain ⟨s0, s1, s2, s3⟩ := (HBX.out.ext hEq).cell
      obtain ⟨t0, t1, t2, t3⟩ := (HBY.out.ext hEq).cell
      by_cases hlq : q < nx.length
      · have hlq' : (q : Int) < nx.length := by omega
        have HIQ := Lib.hid hIq
        have hlw := (hE4.trans hEq).lt
        have hlen : (List.replicate q (1 : Int)).length = q := by simp
        have hE := (Ext.refl wr).alloc (.cells #[] 3)
        have hO := OwnI.of_row (B := wr.heap.size) (X := fun _ => False) (n := 0) (xs := []) (rowI_new' wr []) rfl (by omega) (Nat.le_refl _) (fun h => h) (by simp)
        change OwnI wr.heap.size (fun _ => False) (wr.alloc (.cells #[] 3)) _ _ _ at hO
        clear hIq
        go_wp2_with (at_builtin; refine wpList_append_ints rfl _ _ rfl (fun b => w.heap.size ≤ b) wr.heap.size (fun _ => False) (.slice (some ⟨wr.heap.size, 0, none⟩) 0 0) 0 [] p c (List.replicate q 1) rfl hO (by rw [hlen]; rfl) (HIQ.out.ext hE) (fun _ h => h.elim) (by omega) hE.lt ?_)
        intro v' w' hO' hg _
        have hE' : Ext wr w' := hE.grown hg hE.lt (fun q e => by simp [Value.ownBlock] at e; omega)
        try simp only [Nat.zero_add, List.nil_append, hlen] at hO'
        obtain ⟨pv, cv, rfl, hcv⟩ := hO'.form
        have hE2 := hE'.alloc (.cells #[.int .i64 1] 3)
        have hO2 := hO'.ext ((Ext.refl _).alloc (.cells #[.int .i64 1] 3))
        have hnc : (w'.alloc (.cells #[.int .i64 1] 3)).cell? ⟨w'.heap.size, 0, none⟩ = some (.int .i64 1) := by simp
        have hlw2 := hE2.lt
        go_wp2_with (at_builtin; refine wpList_append_int rfl _ _ rfl wr.heap.size (fun _ => False) (.slice pv q cv) q (List.replicate q 1) 1 rfl hO2 ⟨w'.heap.size, 0, none⟩ 1 rfl hnc (fun _ h => h.elim) (by omega) (by omega) hlw2 ?_)
        intro g cap w8 hon8 hgrow hat8 _ _
        have hE8 : Ext wr w8 := hE2.grown hgrow hlw2 (fun q e => (hO2.2.2.1.lt q e).1)
        have hI8 := hon8.ints
        rw [← List.replicate_succ'] at hI8
        clear s0 s1 s2 s3 t0 t1 t2 t3
        go_wp2_with fail
        go_roundw
        case rel =>
          obtain ⟨p', c', he', _, hi'⟩ := hI8
          simp only [List.length_replicate, Value.slice.injEq] at he'
          obtain ⟨rfl, _, rfl⟩ := he'
          exact ⟨q + 1, _, _, by omega, by go_num, rfl, hEq.trans hE8, hi'.mono fun b hb _ => ⟨by omega, rfl⟩⟩
        case measure => simp [intOf]; omega
      · obtain rfl : q = nx.length := by omega
        have hlq' : ¬ (nx.length : Int) < nx.length := by omega
        have hE9 := hE4.trans hEq
        have HIQ := Lib.hid hIq
        clear hIq
        go_wp2_with fail
        refine bodyPost_ret (v := .tuple #[.slice q2 nx.length m2, .slice p nx.length c, .int .i64 0]) ?_ rfl ⟨p, ⟨c, rfl⟩, HIQ.out.mono fun b hb _ => ⟨.inl hb, rfl⟩, hE9⟩
        simp [results, Try.results71, go_sem]
  · have hs1 : (0 : Int) < sy.length := by omega
    have hs2 : ((sy.length : Int) == 0) = false := beq_eq_false_iff_ne.2 (by omega)
    have hs3 : ¬ (sy.length : Int) < nx.length := by omega
    have hT := HT.out
    rw [if_neg hs0] at hT
    subst hT
    clear HT hs0 hm
    go_wp2_with fail
    go_loopw [7, 8] (fun v i wq => v = .slice r1 S.length n1 ∧ i = .int .i64 0 ∧ wq = w3) (fun _ _ _ => 0)
    case atStart => exact ⟨rfl, rfl, rfl⟩
    case round =>
      obtain ⟨rfl, rfl, rfl⟩ := hrel
      go_wp2_with fail
      refine bodyPost_ret (v := .tuple #[.slice q2 nx.length m2, .slice r1 S.length n1, .int .i64 0]) ?_ rfl ⟨r1, n1, rfl, (J1.out.ext hE4).mono fun b hb _ => ⟨.inr hb, rfl⟩, hE4⟩
      simp [results, Try.results71, go_sem]
end Go.Proofs.Ytcmnlnamgnbemaa
