/-
  THE WALKS of L04.Num, radix.wrong, ref27.common, ContainsFunc(n < 0). (Printed by gen_rad1.py.)
-/
import Derived.Test.YtmpjnjhiklaofaaCommon
import Derived.Test.YtmpjnjhiklaofaaNum
namespace Go.Proofs.Ytmpjnjhiklaofaa
set_option linter.unusedSimpArgs false
set_option linter.unusedVariables false
open Go.RowKit

/-- The errors that both functions have in common. -/
def radErr : Arr → Arr → Int
  | .mk kx sx nx ix, .mk ky sy ny iy => if rightV (.mk kx sx nx ix) ≠ 0 ∨ rightV (.mk ky sy ny iy) ≠ 0 then 1 else if kx ≠ 1 ∨ ky ≠ 1 then 14 else if 1 < sx.length then 15 else 0

def numV (n : Int) : Arr := .mk 1 [] [n] []
set_option maxHeartbeats 1000000 in
theorem num_any (n : Int) (w : World) (hn : -9223372036854775808 ≤ n ∧ n ≤ 9223372036854775807) :
    Calls Try.prog 25 #[.int .i64 n] w fun e w' =>
      ∃ e0 e1 e2 e3, e = .returned (.agg #[e0, e1, e2, e3]) ∧ ArrAt (fun b => w.heap.size ≤ b) w' (numV n) e0 e1 e2 e3 ∧ Ext w w' := by
  go_enter Try.func25, Try.ntmps25
  go_wp2_with fail
  have hE : Ext w ((w.alloc (.cells #[.int .i64 1, .slice none 0 0, .slice (some ⟨w.heap.size + 1, 0, none⟩) 1 1, .slice none 0 0] 26)).alloc (.cells #[.int .i64 n] 3)) := ((Ext.refl _).alloc _).alloc _
  have hB := (box_new w (.int .i64 1) (.slice none 0 0) (.slice (some ⟨w.heap.size + 1, 0, none⟩) 1 1) (.slice none 0 0)).ext ((Ext.refl _).alloc (.cells #[.int .i64 n] 3))
  have hI := rowI_new (w.alloc (.cells #[.int .i64 1, .slice none 0 0, .slice (some ⟨w.heap.size + 1, 0, none⟩) 1 1, .slice none 0 0] 26)) [n]
  rw [World.size_alloc] at hI
  change RowI ((w.alloc (.cells #[.int .i64 1, .slice none 0 0, .slice (some ⟨w.heap.size + 1, 0, none⟩) 1 1, .slice none 0 0] 26)).alloc (.cells #[.int .i64 n] 3)) _ _ at hI
  generalize (w.alloc (.cells #[.int .i64 1, .slice none 0 0, .slice (some ⟨w.heap.size + 1, 0, none⟩) 1 1, .slice none 0 0] 26)).alloc (.cells #[.int .i64 n] 3) = w1 at *
  obtain ⟨t0, t1, t2, t3⟩ := hB.cell
  have hA : ArrAt (fun b => w.heap.size ≤ b) w1 (numV n) (.int .i64 1) (.slice none 0 0) (.slice (some ⟨w.heap.size + 1, 0, none⟩) 1 1) (.slice none 0 0) := by
    unfold numV
    unfold ArrAt
    refine ⟨rfl, by omega, nilI _ _, ⟨_, _, rfl, ⟨by simp, by simp, by simp⟩, (hI.ints ?_).mono fun b hb _ => ⟨by omega, rfl⟩⟩, nilA _ _⟩
    intro x hx
    rw [List.mem_singleton] at hx
    subst hx
    omega
  refine bodyPost_ret (v := .agg #[.int .i64 1, .slice none 0 0, .slice (some ⟨w.heap.size + 1, 0, none⟩) 1 1, .slice none 0 0]) ?_ rfl ⟨_, _, _, _, rfl, hA, hE⟩
  simp [results, Try.results25, go_sem, t0, t1, t2, t3]
theorem num_rd {X : Nat → Prop} {w : World} {n : Int} (hn : -9223372036854775808 ≤ n ∧ n ≤ 9223372036854775807) (hX : ∀ b, X b → b < w.heap.size) : Calls Try.prog 25 #[.int .i64 n] w fun e w' => ∃ x, e = .returned x ∧ RdX X w' (numV n) x ∧ Ext w w' := by
  refine (num_any n w hn).mono ?_
  rintro e w' ⟨e0, e1, e2, e3, rfl, hA, hE⟩
  exact ⟨_, rfl, RdX.new hA (fun b hb _ => .inl hb) hX, hE⟩

theorem radNeg_any (n : Int) (w : World) : Calls Try.prog 54 #[.int .i64 n] w fun e w' => e = .returned (.bool (isNeg n)) ∧ w = w' := by
  go_enter Try.func54, Try.ntmps54
  go_wp2
  go_ret
  exact ⟨rfl, rfl⟩

set_option maxHeartbeats 400000 in
theorem indexFunc_radNeg (F : Nat → Prop) (p : Option Addr) (c : Nat) (s : List Int)  (w : World) (h : IntsAt F w p s) (hn : s.length ≤ lenMax)  :
    Calls Try.prog 86 #[.slice p s.length c, .func (.func 54) #[] #[]] w fun e w' => e = .returned (.int .i64 (idxGo isNeg 0 s)) ∧ w = w' := by
  unfold lenMax at hn
  generalize hans : idxGo isNeg 0 s = ans
  have HANS := Lib.hid hans
  clear hans
  go_enter Try.func86, Try.ntmps86
  go_wp2
  go_loop [8] (fun i => ∃ (k : Nat), k ≤ s.length ∧ i = .int .i64 k ∧ Hid (idxGo isNeg k (s.drop k) = ans)) (fun i => s.length - (intOf i).toNat)
  case atStart => exact ⟨0, Nat.zero_le _, rfl, HANS.out⟩
  case round =>
    obtain ⟨k, hk, rfl, HR⟩ := hrel
    clear HANS
    by_cases hlt : k < s.length
    · obtain ⟨b, off, rfl, hc, _, _⟩ := h.get hlt
      have HD := hid_intro (drop_getD hlt)
      clear h
      generalize s.getD k 0 = d at *
      by_cases h3 : isNeg d = true
      · have HF : Hid ((k : Int) = ans) := by
          have := HR.out
          rw [HD.out, idxGo, if_pos h3] at this
          exact this
        have H3 := Lib.hid h3
        clear HR HD h3
        go_wp2_with (go_at_call 54; refine (radNeg_any d _).mono ?_; rintro e w' ⟨rfl, rfl⟩; rw [H3.out])
        go_ret
        exact ⟨ret_int HF.out, rfl⟩
      · have HF : Hid (idxGo isNeg ((k + 1 : Nat) : Int) (s.drop (k + 1)) = ans) := by
          have := HR.out
          rw [HD.out, idxGo, if_neg h3] at this
          rw [← this]; congr 1
        have H3 : Hid (isNeg d = false) := by
          show isNeg d = false
          exact Bool.eq_false_iff.2 h3
        clear HR HD h3
        go_wp2_with (go_at_call 54; refine (radNeg_any d _).mono ?_; rintro e w' ⟨rfl, rfl⟩; rw [H3.out])
        go_round
        case rel => exact ⟨k + 1, by omega, by go_num, HF⟩
        case measure => simp [intOf]; omega
    · have HF : Hid ((-1 : Int) = ans) := by
        have := HR.out
        rw [List.drop_of_length_le (by omega), idxGo] at this
        exact this
      clear HR
      go_wp2
      go_ret
      exact ⟨ret_int HF.out, rfl⟩

theorem containsFunc_radNeg (F : Nat → Prop) (p : Option Addr) (c : Nat) (s : List Int)  (w : World) (h : IntsAt F w p s) (hn : s.length ≤ lenMax)  :
    Calls Try.prog 53 #[.slice p s.length c, .func (.func 54) #[] #[]] w fun e w' => e = .returned (.bool (s.any isNeg)) ∧ w = w' := by
  have HB := Lib.hid (idxGo_neg isNeg s 0 (by omega))
  go_enter Try.func53, Try.ntmps53
  go_wp2_with (go_at_call 86; refine (indexFunc_radNeg F p c s  _ h hn ).mono ?_; rintro e w' ⟨rfl, rfl⟩)
  go_ret
  exact ⟨ret_bool HB.out, rfl⟩


set_option maxRecDepth 100000 in
set_option maxHeartbeats 4000000 in
theorem radWrong_any (F G : Nat → Prop) (x y : Arr) (c0 c1 c2 c3 d0 d1 d2 d3 : Value) (w : World) (hx : ArrAt F w x c0 c1 c2 c3) (hy : ArrAt G w y d0 d1 d2 d3) :
    Calls Try.prog 52 #[.agg #[c0, c1, c2, c3], .agg #[d0, d1, d2, d3]] w fun e w' => e = .returned (.int .i64 (radErr x y)) ∧ Ext w w' := by
  obtain ⟨kx, sx, nx, ix⟩ := x
  obtain ⟨ky, sy, ny, iy⟩ := y
  have hx' := hx
  have hy' := hy
  unfold ArrAt at hx' hy'
  obtain ⟨rfl, hkx, ⟨q1, m1, rfl, ⟨o1, o1', o1''⟩, i1⟩, ⟨q2, m2, rfl, ⟨o2, o2', o2''⟩, i2⟩, ⟨q3, m3, rfl, ⟨o3, o3', o3''⟩, i3⟩⟩ := hx'
  obtain ⟨rfl, hky, ⟨r1, n1, rfl, ⟨p1, p1', p1''⟩, j1⟩, ⟨r2, n2, rfl, ⟨p2, p2', p2''⟩, j2⟩, ⟨r3, n3, rfl, ⟨p3, p3', p3''⟩, j3⟩⟩ := hy'
  have HX := Lib.hid hx
  have HY := Lib.hid hy
  clear hx hy i1 i2 i3 j1 j2 j3
  have hE0 : Ext w ((w.alloc (.cells #[.int .i64 kx, .slice q1 sx.length m1, .slice q2 nx.length m2, .slice q3 ix.length m3] 26)).alloc (.cells #[.int .i64 ky, .slice r1 sy.length n1, .slice r2 ny.length n2, .slice r3 iy.length n3] 26)) := ((Ext.refl _).alloc _).alloc _
  have hBX := (box_new w (.int .i64 kx) (.slice q1 sx.length m1) (.slice q2 nx.length m2) (.slice q3 ix.length m3)).ext ((Ext.refl _).alloc (.cells #[.int .i64 ky, .slice r1 sy.length n1, .slice r2 ny.length n2, .slice r3 iy.length n3] 26))
  have hBY := box_new (w.alloc (.cells #[.int .i64 kx, .slice q1 sx.length m1, .slice q2 nx.length m2, .slice q3 ix.length m3] 26)) (.int .i64 ky) (.slice r1 sy.length n1) (.slice r2 ny.length n2) (.slice r3 iy.length n3)
  rw [World.size_alloc] at hBY
  by_cases hr : rightV (.mk kx sx nx ix) = 0
  · have HR := Lib.hid hr
    by_cases hq : rightV (.mk ky sy ny iy) = 0
    · have HQ := Lib.hid hq
      clear hr hq
      by_cases hkx1 : kx = 1
      · by_cases hky1 : ky = 1
        · by_cases hl : 1 < sx.length
          · have hl' : (1 : Int) < sx.length := by omega
            have HV : Hid (radErr (.mk kx sx nx ix) (.mk ky sy ny iy) = 15) := by
              show _ = _
              rw [radErr, if_neg (by rintro (h | h); exact h HR.out; exact h HQ.out), if_neg (by rintro (h | h); exact h hkx1; exact h hky1), if_pos hl]
            rw [HV.out]
            have ex : (kx != 1) = false := by simpa using hkx1
            have ey : (ky != 1) = false := by simpa using hky1
            clear hkx1 hky1
            go_enter Try.func52, Try.ntmps52
            go_wp2_with fail
            generalize (w.alloc (.cells #[.int .i64 kx, .slice q1 sx.length m1, .slice q2 nx.length m2, .slice q3 ix.length m3] 26)).alloc (.cells #[.int .i64 ky, .slice r1 sy.length n1, .slice r2 ny.length n2, .slice r3 iy.length n3] 26) = w1 at hE0 hBX hBY ⊢
            refine (right_any F _ _ _ _ _ w1 (HX.out.ext hE0)).mono ?_
            rintro e w2 ⟨rfl, hE1⟩
            rw [HR.out]
            have hE2 := hE0.trans hE1
            replace hBX := hBX.ext hE1
            replace hBY := hBY.ext hE1
            obtain ⟨s0, s1, s2, s3⟩ := hBX.cell
            obtain ⟨t0, t1, t2, t3⟩ := hBY.cell
            go_wp2_with fail
            refine (right_any G _ _ _ _ _ w2 (HY.out.ext hE2)).mono ?_
            rintro e w3 ⟨rfl, hE3⟩
            rw [HQ.out]
            have hE4 := hE2.trans hE3
            replace hBX := hBX.ext hE3
            replace hBY := hBY.ext hE3
            clear s0 s1 s2 s3 t0 t1 t2 t3
            obtain ⟨s0, s1, s2, s3⟩ := hBX.cell
            obtain ⟨t0, t1, t2, t3⟩ := hBY.cell
            go_wp2_with fail
            go_ret
            exact ⟨rfl, hE4⟩
          · have hl' : ¬ (1 : Int) < sx.length := by omega
            have HV : Hid (radErr (.mk kx sx nx ix) (.mk ky sy ny iy) = 0) := by
              show _ = _
              rw [radErr, if_neg (by rintro (h | h); exact h HR.out; exact h HQ.out), if_neg (by rintro (h | h); exact h hkx1; exact h hky1), if_neg hl]
            rw [HV.out]
            have ex : (kx != 1) = false := by simpa using hkx1
            have ey : (ky != 1) = false := by simpa using hky1
            clear hkx1 hky1
            go_enter Try.func52, Try.ntmps52
            go_wp2_with fail
            generalize (w.alloc (.cells #[.int .i64 kx, .slice q1 sx.length m1, .slice q2 nx.length m2, .slice q3 ix.length m3] 26)).alloc (.cells #[.int .i64 ky, .slice r1 sy.length n1, .slice r2 ny.length n2, .slice r3 iy.length n3] 26) = w1 at hE0 hBX hBY ⊢
            refine (right_any F _ _ _ _ _ w1 (HX.out.ext hE0)).mono ?_
            rintro e w2 ⟨rfl, hE1⟩
            rw [HR.out]
            have hE2 := hE0.trans hE1
            replace hBX := hBX.ext hE1
            replace hBY := hBY.ext hE1
            obtain ⟨s0, s1, s2, s3⟩ := hBX.cell
            obtain ⟨t0, t1, t2, t3⟩ := hBY.cell
            go_wp2_with fail
            refine (right_any G _ _ _ _ _ w2 (HY.out.ext hE2)).mono ?_
            rintro e w3 ⟨rfl, hE3⟩
            rw [HQ.out]
            have hE4 := hE2.trans hE3
            replace hBX := hBX.ext hE3
            replace hBY := hBY.ext hE3
            clear s0 s1 s2 s3 t0 t1 t2 t3
            obtain ⟨s0, s1, s2, s3⟩ := hBX.cell
            obtain ⟨t0, t1, t2, t3⟩ := hBY.cell
            go_wp2_with fail
            go_ret
            exact ⟨rfl, hE4⟩
        · skip
          have HV : Hid (radErr (.mk kx sx nx ix) (.mk ky sy ny iy) = 14) := by
            show _ = _
            rw [radErr, if_neg (by rintro (h | h); exact h HR.out; exact h HQ.out), if_pos (.inr hky1)]
          rw [HV.out]
          have ex : (kx != 1) = false := by simpa using hkx1
          have ey : (ky != 1) = true := by simpa using hky1
          clear hkx1 hky1
          go_enter Try.func52, Try.ntmps52
          go_wp2_with fail
          generalize (w.alloc (.cells #[.int .i64 kx, .slice q1 sx.length m1, .slice q2 nx.length m2, .slice q3 ix.length m3] 26)).alloc (.cells #[.int .i64 ky, .slice r1 sy.length n1, .slice r2 ny.length n2, .slice r3 iy.length n3] 26) = w1 at hE0 hBX hBY ⊢
          refine (right_any F _ _ _ _ _ w1 (HX.out.ext hE0)).mono ?_
          rintro e w2 ⟨rfl, hE1⟩
          rw [HR.out]
          have hE2 := hE0.trans hE1
          replace hBX := hBX.ext hE1
          replace hBY := hBY.ext hE1
          obtain ⟨s0, s1, s2, s3⟩ := hBX.cell
          obtain ⟨t0, t1, t2, t3⟩ := hBY.cell
          go_wp2_with fail
          refine (right_any G _ _ _ _ _ w2 (HY.out.ext hE2)).mono ?_
          rintro e w3 ⟨rfl, hE3⟩
          rw [HQ.out]
          have hE4 := hE2.trans hE3
          replace hBX := hBX.ext hE3
          replace hBY := hBY.ext hE3
          clear s0 s1 s2 s3 t0 t1 t2 t3
          obtain ⟨s0, s1, s2, s3⟩ := hBX.cell
          obtain ⟨t0, t1, t2, t3⟩ := hBY.cell
          go_wp2_with fail
          go_ret
          exact ⟨rfl, hE4⟩
      · skip
        have HV : Hid (radErr (.mk kx sx nx ix) (.mk ky sy ny iy) = 14) := by
          show _ = _
          rw [radErr, if_neg (by rintro (h | h); exact h HR.out; exact h HQ.out), if_pos (.inl hkx1)]
        rw [HV.out]
        have ex : (kx != 1) = true := by simpa using hkx1
        clear hkx1
        go_enter Try.func52, Try.ntmps52
        go_wp2_with fail
        generalize (w.alloc (.cells #[.int .i64 kx, .slice q1 sx.length m1, .slice q2 nx.length m2, .slice q3 ix.length m3] 26)).alloc (.cells #[.int .i64 ky, .slice r1 sy.length n1, .slice r2 ny.length n2, .slice r3 iy.length n3] 26) = w1 at hE0 hBX hBY ⊢
        refine (right_any F _ _ _ _ _ w1 (HX.out.ext hE0)).mono ?_
        rintro e w2 ⟨rfl, hE1⟩
        rw [HR.out]
        have hE2 := hE0.trans hE1
        replace hBX := hBX.ext hE1
        replace hBY := hBY.ext hE1
        obtain ⟨s0, s1, s2, s3⟩ := hBX.cell
        obtain ⟨t0, t1, t2, t3⟩ := hBY.cell
        go_wp2_with fail
        refine (right_any G _ _ _ _ _ w2 (HY.out.ext hE2)).mono ?_
        rintro e w3 ⟨rfl, hE3⟩
        rw [HQ.out]
        have hE4 := hE2.trans hE3
        replace hBX := hBX.ext hE3
        replace hBY := hBY.ext hE3
        clear s0 s1 s2 s3 t0 t1 t2 t3
        obtain ⟨s0, s1, s2, s3⟩ := hBX.cell
        obtain ⟨t0, t1, t2, t3⟩ := hBY.cell
        go_wp2_with fail
        go_ret
        exact ⟨rfl, hE4⟩
    · have HV : Hid (radErr (.mk kx sx nx ix) (.mk ky sy ny iy) = 1) := by
        show _ = _
        rw [radErr, if_pos (.inr hq)]
      rw [HV.out]
      clear hr
      have hqb : (rightV (.mk ky sy ny iy) != 0) = true := by simpa using hq
      clear hq
      go_enter Try.func52, Try.ntmps52
      go_wp2_with fail
      generalize (w.alloc (.cells #[.int .i64 kx, .slice q1 sx.length m1, .slice q2 nx.length m2, .slice q3 ix.length m3] 26)).alloc (.cells #[.int .i64 ky, .slice r1 sy.length n1, .slice r2 ny.length n2, .slice r3 iy.length n3] 26) = w1 at hE0 hBX hBY ⊢
      refine (right_any F _ _ _ _ _ w1 (HX.out.ext hE0)).mono ?_
      rintro e w2 ⟨rfl, hE1⟩
      rw [HR.out]
      have hE2 := hE0.trans hE1
      replace hBX := hBX.ext hE1
      replace hBY := hBY.ext hE1
      obtain ⟨s0, s1, s2, s3⟩ := hBX.cell
      obtain ⟨t0, t1, t2, t3⟩ := hBY.cell
      go_wp2_with fail
      refine (right_any G _ _ _ _ _ w2 (HY.out.ext hE2)).mono ?_
      rintro e w3 ⟨rfl, hE3⟩
      
      have hE4 := hE2.trans hE3
      replace hBX := hBX.ext hE3
      replace hBY := hBY.ext hE3
      clear s0 s1 s2 s3 t0 t1 t2 t3
      obtain ⟨s0, s1, s2, s3⟩ := hBX.cell
      obtain ⟨t0, t1, t2, t3⟩ := hBY.cell
      generalize rightV (.mk ky sy ny iy) = rv at *
      go_wp2_with fail
      go_ret
      exact ⟨rfl, hE4⟩
  · have HV : Hid (radErr (.mk kx sx nx ix) (.mk ky sy ny iy) = 1) := by
      show _ = _
      rw [radErr, if_pos (.inl hr)]
    rw [HV.out]
    have hrb : (rightV (.mk kx sx nx ix) != 0) = true := by simpa using hr
    clear hr
    go_enter Try.func52, Try.ntmps52
    go_wp2_with fail
    generalize (w.alloc (.cells #[.int .i64 kx, .slice q1 sx.length m1, .slice q2 nx.length m2, .slice q3 ix.length m3] 26)).alloc (.cells #[.int .i64 ky, .slice r1 sy.length n1, .slice r2 ny.length n2, .slice r3 iy.length n3] 26) = w1 at hE0 hBX hBY ⊢
    refine (right_any F _ _ _ _ _ w1 (HX.out.ext hE0)).mono ?_
    rintro e w2 ⟨rfl, hE1⟩
    
    have hE2 := hE0.trans hE1
    replace hBX := hBX.ext hE1
    replace hBY := hBY.ext hE1
    obtain ⟨s0, s1, s2, s3⟩ := hBX.cell
    obtain ⟨t0, t1, t2, t3⟩ := hBY.cell
    generalize rightV (.mk kx sx nx ix) = rv at *
    go_wp2_with fail
    go_ret
    exact ⟨rfl, hE2⟩


set_option maxRecDepth 100000 in
set_option maxHeartbeats 4000000 in
theorem radCommon_any (F G : Nat → Prop) (x y : Arr) (c0 c1 c2 c3 d0 d1 d2 d3 : Value) (w : World) (hx : ArrAt F w x c0 c1 c2 c3) (hy : ArrAt G w y d0 d1 d2 d3) :
    Calls Try.prog 58 #[.agg #[c0, c1, c2, c3], .agg #[d0, d1, d2, d3]] w fun e w' => e = .returned (.int .i64 (radErr x y)) ∧ Ext w w' := by
  obtain ⟨kx, sx, nx, ix⟩ := x
  obtain ⟨ky, sy, ny, iy⟩ := y
  have hx' := hx
  have hy' := hy
  unfold ArrAt at hx' hy'
  obtain ⟨rfl, hkx, ⟨q1, m1, rfl, ⟨o1, o1', o1''⟩, i1⟩, ⟨q2, m2, rfl, ⟨o2, o2', o2''⟩, i2⟩, ⟨q3, m3, rfl, ⟨o3, o3', o3''⟩, i3⟩⟩ := hx'
  obtain ⟨rfl, hky, ⟨r1, n1, rfl, ⟨p1, p1', p1''⟩, j1⟩, ⟨r2, n2, rfl, ⟨p2, p2', p2''⟩, j2⟩, ⟨r3, n3, rfl, ⟨p3, p3', p3''⟩, j3⟩⟩ := hy'
  have HX := Lib.hid hx
  have HY := Lib.hid hy
  clear hx hy i1 i2 i3 j1 j2 j3
  have hE0 : Ext w ((w.alloc (.cells #[.int .i64 kx, .slice q1 sx.length m1, .slice q2 nx.length m2, .slice q3 ix.length m3] 26)).alloc (.cells #[.int .i64 ky, .slice r1 sy.length n1, .slice r2 ny.length n2, .slice r3 iy.length n3] 26)) := ((Ext.refl _).alloc _).alloc _
  have hBX := (box_new w (.int .i64 kx) (.slice q1 sx.length m1) (.slice q2 nx.length m2) (.slice q3 ix.length m3)).ext ((Ext.refl _).alloc (.cells #[.int .i64 ky, .slice r1 sy.length n1, .slice r2 ny.length n2, .slice r3 iy.length n3] 26))
  have hBY := box_new (w.alloc (.cells #[.int .i64 kx, .slice q1 sx.length m1, .slice q2 nx.length m2, .slice q3 ix.length m3] 26)) (.int .i64 ky) (.slice r1 sy.length n1) (.slice r2 ny.length n2) (.slice r3 iy.length n3)
  rw [World.size_alloc] at hBY
  by_cases hr : rightV (.mk kx sx nx ix) = 0
  · have HR := Lib.hid hr
    by_cases hq : rightV (.mk ky sy ny iy) = 0
    · have HQ := Lib.hid hq
      clear hr hq
      by_cases hkx1 : kx = 1
      · by_cases hky1 : ky = 1
        · by_cases hl : 1 < sx.length
          · have hl' : (1 : Int) < sx.length := by omega
            have HV : Hid (radErr (.mk kx sx nx ix) (.mk ky sy ny iy) = 15) := by
              show _ = _
              rw [radErr, if_neg (by rintro (h | h); exact h HR.out; exact h HQ.out), if_neg (by rintro (h | h); exact h hkx1; exact h hky1), if_pos hl]
            rw [HV.out]
            have ex : (kx != 1) = false := by simpa using hkx1
            have ey : (ky != 1) = false := by simpa using hky1
            clear hkx1 hky1
            go_enter Try.func58, Try.ntmps58
            go_wp2_with fail
            generalize (w.alloc (.cells #[.int .i64 kx, .slice q1 sx.length m1, .slice q2 nx.length m2, .slice q3 ix.length m3] 26)).alloc (.cells #[.int .i64 ky, .slice r1 sy.length n1, .slice r2 ny.length n2, .slice r3 iy.length n3] 26) = w1 at hE0 hBX hBY ⊢
            refine (r3right_any F _ _ _ _ _ w1 (HX.out.ext hE0)).mono ?_
            rintro e w2 ⟨rfl, hE1⟩
            rw [rright_eq]
            rw [HR.out]
            have hE2 := hE0.trans hE1
            replace hBX := hBX.ext hE1
            replace hBY := hBY.ext hE1
            obtain ⟨s0, s1, s2, s3⟩ := hBX.cell
            obtain ⟨t0, t1, t2, t3⟩ := hBY.cell
            go_wp2_with fail
            refine (r3right_any G _ _ _ _ _ w2 (HY.out.ext hE2)).mono ?_
            rintro e w3 ⟨rfl, hE3⟩
            rw [rright_eq]
            rw [HQ.out]
            have hE4 := hE2.trans hE3
            replace hBX := hBX.ext hE3
            replace hBY := hBY.ext hE3
            clear s0 s1 s2 s3 t0 t1 t2 t3
            obtain ⟨s0, s1, s2, s3⟩ := hBX.cell
            obtain ⟨t0, t1, t2, t3⟩ := hBY.cell
            go_wp2_with fail
            go_ret
            exact ⟨rfl, hE4⟩
          · have hl' : ¬ (1 : Int) < sx.length := by omega
            have HV : Hid (radErr (.mk kx sx nx ix) (.mk ky sy ny iy) = 0) := by
              show _ = _
              rw [radErr, if_neg (by rintro (h | h); exact h HR.out; exact h HQ.out), if_neg (by rintro (h | h); exact h hkx1; exact h hky1), if_neg hl]
            rw [HV.out]
            have ex : (kx != 1) = false := by simpa using hkx1
            have ey : (ky != 1) = false := by simpa using hky1
            clear hkx1 hky1
            go_enter Try.func58, Try.ntmps58
            go_wp2_with fail
            generalize (w.alloc (.cells #[.int .i64 kx, .slice q1 sx.length m1, .slice q2 nx.length m2, .slice q3 ix.length m3] 26)).alloc (.cells #[.int .i64 ky, .slice r1 sy.length n1, .slice r2 ny.length n2, .slice r3 iy.length n3] 26) = w1 at hE0 hBX hBY ⊢
            refine (r3right_any F _ _ _ _ _ w1 (HX.out.ext hE0)).mono ?_
            rintro e w2 ⟨rfl, hE1⟩
            rw [rright_eq]
            rw [HR.out]
            have hE2 := hE0.trans hE1
            replace hBX := hBX.ext hE1
            replace hBY := hBY.ext hE1
            obtain ⟨s0, s1, s2, s3⟩ := hBX.cell
            obtain ⟨t0, t1, t2, t3⟩ := hBY.cell
            go_wp2_with fail
            refine (r3right_any G _ _ _ _ _ w2 (HY.out.ext hE2)).mono ?_
            rintro e w3 ⟨rfl, hE3⟩
            rw [rright_eq]
            rw [HQ.out]
            have hE4 := hE2.trans hE3
            replace hBX := hBX.ext hE3
            replace hBY := hBY.ext hE3
            clear s0 s1 s2 s3 t0 t1 t2 t3
            obtain ⟨s0, s1, s2, s3⟩ := hBX.cell
            obtain ⟨t0, t1, t2, t3⟩ := hBY.cell
            go_wp2_with fail
            go_ret
            exact ⟨rfl, hE4⟩
        · skip
          have HV : Hid (radErr (.mk kx sx nx ix) (.mk ky sy ny iy) = 14) := by
            show _ = _
            rw [radErr, if_neg (by rintro (h | h); exact h HR.out; exact h HQ.out), if_pos (.inr hky1)]
          rw [HV.out]
          have ex : (kx != 1) = false := by simpa using hkx1
          have ey : (ky != 1) = true := by simpa using hky1
          clear hkx1 hky1
          go_enter Try.func58, Try.ntmps58
          go_wp2_with fail
          generalize (w.alloc (.cells #[.int .i64 kx, .slice q1 sx.length m1, .slice q2 nx.length m2, .slice q3 ix.length m3] 26)).alloc (.cells #[.int .i64 ky, .slice r1 sy.length n1, .slice r2 ny.length n2, .slice r3 iy.length n3] 26) = w1 at hE0 hBX hBY ⊢
          refine (r3right_any F _ _ _ _ _ w1 (HX.out.ext hE0)).mono ?_
          rintro e w2 ⟨rfl, hE1⟩
          rw [rright_eq]
          rw [HR.out]
          have hE2 := hE0.trans hE1
          replace hBX := hBX.ext hE1
          replace hBY := hBY.ext hE1
          obtain ⟨s0, s1, s2, s3⟩ := hBX.cell
          obtain ⟨t0, t1, t2, t3⟩ := hBY.cell
          go_wp2_with fail
          refine (r3right_any G _ _ _ _ _ w2 (HY.out.ext hE2)).mono ?_
          rintro e w3 ⟨rfl, hE3⟩
          rw [rright_eq]
          rw [HQ.out]
          have hE4 := hE2.trans hE3
          replace hBX := hBX.ext hE3
          replace hBY := hBY.ext hE3
          clear s0 s1 s2 s3 t0 t1 t2 t3
          obtain ⟨s0, s1, s2, s3⟩ := hBX.cell
          obtain ⟨t0, t1, t2, t3⟩ := hBY.cell
          go_wp2_with fail
          go_ret
          exact ⟨rfl, hE4⟩
      · skip
        have HV : Hid (radErr (.mk kx sx nx ix) (.mk ky sy ny iy) = 14) := by
          show _ = _
          rw [radErr, if_neg (by rintro (h | h); exact h HR.out; exact h HQ.out), if_pos (.inl hkx1)]
        rw [HV.out]
        have ex : (kx != 1) = true := by simpa using hkx1
        clear hkx1
        go_enter Try.func58, Try.ntmps58
        go_wp2_with fail
        generalize (w.alloc (.cells #[.int .i64 kx, .slice q1 sx.length m1, .slice q2 nx.length m2, .slice q3 ix.length m3] 26)).alloc (.cells #[.int .i64 ky, .slice r1 sy.length n1, .slice r2 ny.length n2, .slice r3 iy.length n3] 26) = w1 at hE0 hBX hBY ⊢
        refine (r3right_any F _ _ _ _ _ w1 (HX.out.ext hE0)).mono ?_
        rintro e w2 ⟨rfl, hE1⟩
        rw [rright_eq]
        rw [HR.out]
        have hE2 := hE0.trans hE1
        replace hBX := hBX.ext hE1
        replace hBY := hBY.ext hE1
        obtain ⟨s0, s1, s2, s3⟩ := hBX.cell
        obtain ⟨t0, t1, t2, t3⟩ := hBY.cell
        go_wp2_with fail
        refine (r3right_any G _ _ _ _ _ w2 (HY.out.ext hE2)).mono ?_
        rintro e w3 ⟨rfl, hE3⟩
        rw [rright_eq]
        rw [HQ.out]
        have hE4 := hE2.trans hE3
        replace hBX := hBX.ext hE3
        replace hBY := hBY.ext hE3
        clear s0 s1 s2 s3 t0 t1 t2 t3
        obtain ⟨s0, s1, s2, s3⟩ := hBX.cell
        obtain ⟨t0, t1, t2, t3⟩ := hBY.cell
        go_wp2_with fail
        go_ret
        exact ⟨rfl, hE4⟩
    · have HV : Hid (radErr (.mk kx sx nx ix) (.mk ky sy ny iy) = 1) := by
        show _ = _
        rw [radErr, if_pos (.inr hq)]
      rw [HV.out]
      clear hr
      have hqb : (rightV (.mk ky sy ny iy) != 0) = true := by simpa using hq
      clear hq
      go_enter Try.func58, Try.ntmps58
      go_wp2_with fail
      generalize (w.alloc (.cells #[.int .i64 kx, .slice q1 sx.length m1, .slice q2 nx.length m2, .slice q3 ix.length m3] 26)).alloc (.cells #[.int .i64 ky, .slice r1 sy.length n1, .slice r2 ny.length n2, .slice r3 iy.length n3] 26) = w1 at hE0 hBX hBY ⊢
      refine (r3right_any F _ _ _ _ _ w1 (HX.out.ext hE0)).mono ?_
      rintro e w2 ⟨rfl, hE1⟩
      rw [rright_eq]
      rw [HR.out]
      have hE2 := hE0.trans hE1
      replace hBX := hBX.ext hE1
      replace hBY := hBY.ext hE1
      obtain ⟨s0, s1, s2, s3⟩ := hBX.cell
      obtain ⟨t0, t1, t2, t3⟩ := hBY.cell
      go_wp2_with fail
      refine (r3right_any G _ _ _ _ _ w2 (HY.out.ext hE2)).mono ?_
      rintro e w3 ⟨rfl, hE3⟩
      rw [rright_eq]
      
      have hE4 := hE2.trans hE3
      replace hBX := hBX.ext hE3
      replace hBY := hBY.ext hE3
      clear s0 s1 s2 s3 t0 t1 t2 t3
      obtain ⟨s0, s1, s2, s3⟩ := hBX.cell
      obtain ⟨t0, t1, t2, t3⟩ := hBY.cell
      generalize rightV (.mk ky sy ny iy) = rv at *
      go_wp2_with fail
      go_ret
      exact ⟨rfl, hE4⟩
  · have HV : Hid (radErr (.mk kx sx nx ix) (.mk ky sy ny iy) = 1) := by
      show _ = _
      rw [radErr, if_pos (.inl hr)]
    rw [HV.out]
    have hrb : (rightV (.mk kx sx nx ix) != 0) = true := by simpa using hr
    clear hr
    go_enter Try.func58, Try.ntmps58
    go_wp2_with fail
    generalize (w.alloc (.cells #[.int .i64 kx, .slice q1 sx.length m1, .slice q2 nx.length m2, .slice q3 ix.length m3] 26)).alloc (.cells #[.int .i64 ky, .slice r1 sy.length n1, .slice r2 ny.length n2, .slice r3 iy.length n3] 26) = w1 at hE0 hBX hBY ⊢
    refine (r3right_any F _ _ _ _ _ w1 (HX.out.ext hE0)).mono ?_
    rintro e w2 ⟨rfl, hE1⟩
    rw [rright_eq]
    
    have hE2 := hE0.trans hE1
    replace hBX := hBX.ext hE1
    replace hBY := hBY.ext hE1
    obtain ⟨s0, s1, s2, s3⟩ := hBX.cell
    obtain ⟨t0, t1, t2, t3⟩ := hBY.cell
    generalize rightV (.mk kx sx nx ix) = rv at *
    go_wp2_with fail
    go_ret
    exact ⟨rfl, hE2⟩

end Go.Proofs.Ytmpjnjhiklaofaa
