/-
  THE WALKS of the reference's Axes and Reverse.
-/
import Derived.Test.YtcmnlnamgnbemaaTrans
import Derived.Test.YtcmnlnamgnbemaaCheck
import Derived.Test.YtcmnlnamgnbemaaL04
namespace Go.Proofs.Ytcmnlnamgnbemaa
set_option linter.unusedSimpArgs false
set_option linter.unusedVariables false
open Go.RowKit

/-- What it means to be right, for the reference. -/
theorem rright_parts {k : Int} {s n : List Int} {it : List Arr} (h : rrightV (.mk k s n it) = 0) :
    (k = 1 ∨ k = 2 ∨ k = 3) ∧ dimsV s = 0 ∧ sizeV (.mk k s n it) = countV s ∧ othV k n it = 0 := by
  unfold rrightV at h
  rw [rcheckV] at h
  split at h
  · cases h
  · rename_i h1
    split at h
    · rename_i h2; exact absurd h h2
    · rename_i h2
      split at h
      · cases h
      · rename_i h3
        split at h
        · cases h
        · rename_i h4
          exact ⟨by omega, by omega, by omega, by omega⟩

theorem rprod_right : ∀ (s : List Int) (n : Int), 0 ≤ n → n ≤ 65536 → (∀ d ∈ s, 0 ≤ d) → (rightGo n s = true → rprod n s ≤ 65536) ∧ (rightGo n s = false → rprod n s = 65537)
  | [], n, _, h1, _ => ⟨fun _ => h1, fun h => by cases h⟩
  | d :: r, n, h0, h1, hs => by
    have hd := hs d (by simp)
    have hr : ∀ x ∈ r, 0 ≤ x := fun x hx => hs x (by simp [hx])
    rw [rightGo, rprod]
    by_cases h2 : 65536 < d
    · rw [if_pos h2, if_pos (.inr h2)]; simp
    · rw [if_neg h2, if_neg (by omega)]
      by_cases h3 : d = 0
      · rw [if_pos h3, if_neg (by omega)]
        exact rprod_right r n h0 h1 hr
      · rw [if_neg h3, if_pos (show 0 < d by omega)]
        by_cases h4 : 65536 < n * d
        · rw [if_pos h4, if_pos h4]; simp
        · rw [if_neg h4, if_neg h4]
          exact rprod_right r _ (Int.mul_nonneg h0 hd) (by omega) hr
theorem neg_none {s : List Int} (h : ¬ s.any isNeg = true) : ∀ d ∈ s, 0 ≤ d := fun d hd => by
  have : ¬ isNeg d = true := fun hc => h (List.any_eq_true.2 ⟨d, hd, hc⟩)
  simpa [isNeg] using this
theorem dimsV_eq (s : List Int) : dimsV s = if 8 < s.length then 15 else if s.any isNeg = true then 16 else if shapeRight s = false then 21 else 0 := by
  unfold dimsV
  by_cases h8 : 8 < s.length
  · rw [if_pos h8, if_pos h8]
  · rw [if_neg h8, if_neg h8]
    by_cases hn : s.any isNeg = true
    · rw [if_pos hn, if_pos hn]
    · rw [if_neg hn, if_neg hn]
      have hp := rprod_right s 1 (by omega) (by omega) (neg_none hn)
      have hsr : shapeRight s = rightGo 1 s := by simp [shapeRight]; omega
      rw [hsr]
      cases hg : rightGo 1 s with
      | true => have := hp.1 hg; rw [if_neg (by omega), if_neg (by simp)]
      | false => have := hp.2 hg; rw [if_pos (by omega), if_pos rfl]
theorem dimsV_zero {s : List Int} (h : dimsV s = 0) : s.length ≤ 8 ∧ rightGo 1 s = true := by
  rw [dimsV_eq] at h
  split at h
  · cases h
  · split at h
    · cases h
    · split at h
      · cases h
      · rename_i h1 h2 h3
        have := shapeRight_go (by simpa using h3)
        exact ⟨this.2, this.1⟩
theorem rprod_prodGo : ∀ (s : List Int) (n : Int), rightGo n s = true → (∀ d ∈ s, d ≠ 0) → rprod n s = prodGo n s
  | [], n, _, _ => rfl
  | d :: r, n, h, h0 => by
    have hd := h0 d (by simp)
    obtain ⟨h1, h2, h3, h4⟩ := rightGo_cons h hd
    rw [rprod, if_neg (by omega), if_pos h1, if_neg (by omega), prodGo]
    exact rprod_prodGo r _ h4 (fun x hx => h0 x (by simp [hx]))
theorem countV_eq {s : List Int} (h : rightGo 1 s = true) (h8 : s.length ≤ 8) : countV s = shapeSize s := by
  have hs : shapeSize s = volOf s := by rw [shapeSize, if_pos (by simp [shapeRight, h, h8])]
  rw [hs]
  unfold countV volOf
  have e : (s.any fun d => d == 0) = s.any (fun d => 0 == d) := by
    congr 1; funext d; rw [Bool.eq_iff_iff, beq_iff_eq, beq_iff_eq]; exact eq_comm
  rw [e]
  by_cases hz : (s.any fun d => 0 == d) = true
  · rw [if_pos hz, if_pos hz]
  · rw [if_neg hz, if_neg hz]
    exact rprod_prodGo s 1 h (no_zero hz)

/-- All that transposed needs. -/
theorem rright_all {k : Int} {s n : List Int} {it : List Arr} (h : rrightV (.mk k s n it) = 0) :
    s.length ≤ 8 ∧ rightGo 1 s = true ∧ (k ≠ 3 → (n.length : Int) = shapeSize s) ∧ (k = 3 → (it.length : Int) = shapeSize s) := by
  obtain ⟨h1, h2, h3, h4⟩ := rright_parts h
  obtain ⟨h5, h6⟩ := dimsV_zero h2
  rw [countV_eq h6 h5] at h3
  refine ⟨h5, h6, fun hk => ?_, fun hk => ?_⟩
  · rw [← h3, sizeV, if_pos (by omega)]
  · rw [← h3, sizeV, if_neg (by omega), if_pos hk]

/-- The reference's Reverse, as a function. -/
def rreverseV (y : Arr) : Arr :=
  if rrightV y ≠ 0 then Arr.zero else
  match y with
  | .mk ky sy ny iy => transV (revAxes sy.length) (.mk ky sy ny iy)

theorem revAxes_mem {r : Nat} {a : Int} (h : a ∈ revAxes r) : 0 ≤ a ∧ a < r := by
  simp only [revAxes, List.mem_map, List.mem_range] at h
  obtain ⟨i, hi, rfl⟩ := h
  omega
theorem revAxes_take (r q : Nat) (h : q < r) : (revAxes r).take (q + 1) = (revAxes r).take q ++ [(r : Int) - 1 - q] := by
  rw [List.take_succ_eq_append_getElem (by rw [revAxes_length]; exact h)]
  congr 1
  simp [revAxes]

set_option maxRecDepth 100000 in
set_option maxHeartbeats 4000000 in
theorem rreverse_any (G : Nat → Prop) (y : Arr) (d0 d1 d2 d3 : Value) (w : World) (hy : ArrAt G w y d0 d1 d2 d3) :
    Calls Try.prog 36 #[.agg #[d0, d1, d2, d3]] w fun e w' =>
      ∃ e0 e1 e2 e3, e = .returned (.agg #[e0, e1, e2, e3]) ∧ ArrAt (fun b => w.heap.size ≤ b) w' (rreverseV y) e0 e1 e2 e3 ∧ Ext w w' := by
  obtain ⟨ky, sy, ny, iy⟩ := y
  have hy' := hy
  unfold ArrAt at hy'
  obtain ⟨rfl, hky, ⟨r1, n1, rfl, ⟨p1, p1', p1''⟩, j1⟩, ⟨r2, n2, rfl, ⟨p2, p2', p2''⟩, j2⟩, ⟨r3, n3, rfl, ⟨p3, p3', p3''⟩, j3⟩⟩ := hy'
  have HY := Lib.hid hy
  clear hy j1 j2 j3
  generalize hres : rreverseV (.mk ky sy ny iy) = res
  have HR : Hid ((if rrightV (.mk ky sy ny iy) ≠ 0 then Arr.zero else transV (revAxes sy.length) (.mk ky sy ny iy)) = res) := by
    show _ = _
    rw [← hres]; rfl
  clear hres
  go_enter Try.func36, Try.ntmps36
  go_wp2_with fail
  have hE0 : Ext w ((w.alloc (.cells #[.int .i64 ky, .slice r1 sy.length n1, .slice r2 ny.length n2, .slice r3 iy.length n3] 26)).alloc (.cells #[.int .i64 0, .slice none 0 0, .slice none 0 0, .slice none 0 0] 26)) := ((Ext.refl _).alloc _).alloc _
  have hB1 := (box_new w (.int .i64 ky) (.slice r1 sy.length n1) (.slice r2 ny.length n2) (.slice r3 iy.length n3)).ext ((Ext.refl _).alloc (.cells #[.int .i64 0, .slice none 0 0, .slice none 0 0, .slice none 0 0] 26))
  have hB2 := box_new (w.alloc (.cells #[.int .i64 ky, .slice r1 sy.length n1, .slice r2 ny.length n2, .slice r3 iy.length n3] 26)) (.int .i64 0) (.slice none 0 0) (.slice none 0 0) (.slice none 0 0)
  rw [World.size_alloc] at hB2
  generalize (w.alloc (.cells #[.int .i64 ky, .slice r1 sy.length n1, .slice r2 ny.length n2, .slice r3 iy.length n3] 26)).alloc (.cells #[.int .i64 0, .slice none 0 0, .slice none 0 0, .slice none 0 0] 26) = w1 at hE0 hB1 hB2 ⊢
  refine (r3right_any G _ _ _ _ _ w1 (HY.out.ext hE0)).mono ?_
  rintro e w2 ⟨rfl, hE1⟩
  have HB1 := Lib.hid (hB1.ext hE1)
  have HB2 := Lib.hid (hB2.ext hE1)
  have hE2 := hE0.trans hE1
  clear hB1 hB2 hE0 hE1
  by_cases hr : rrightV (.mk ky sy ny iy) = 0
  · have hR1 := HR.out
    rw [if_neg (by simp [hr])] at hR1
    have HR1 := Lib.hid hR1
    have HALL := Lib.hid (rright_all hr)
    have h8 := HALL.out.1
    rw [hr]
    clear hR1 HR hr
    go_wp2_with fail
    have hrow := rowI_new w2 []
    have hbs : ∃ bs : Nat, w2.heap.size = bs := ⟨_, rfl⟩
    go_loopw [3, 4] (fun v i wr => ∃ (q : Nat) (p : Option Addr) (c : Nat), q ≤ sy.length ∧ i = .int .i64 q ∧ v = .slice p q c ∧ OwnI w2.heap.size (fun _ => False) wr (.slice p q c) q ((revAxes sy.length).take q) ∧ Ext w2 wr) (fun _ i _ => sy.length - (intOf i).toNat)
    case atStart =>
      refine ⟨0, some ⟨w2.heap.size, 0, none⟩, 0, Nat.zero_le _, rfl, rfl, ?_, ?_⟩
      · exact OwnI.of_row (B := w2.heap.size) (X := fun _ => False) (n := 0) (xs := []) hrow rfl (by omega) (Nat.le_refl _) (fun h => h) (by simp)
      · exact (Ext.refl _).alloc _
    case round =>
      obtain ⟨q, p, c, hq, rfl, rfl, hO, hE⟩ := hrel
      clear hrow hbs
      obtain ⟨s0, s1, s2, s3⟩ := (HB1.out.ext hE).cell
      by_cases hlt : q < sy.length
      · have hE1 := hE.trans ((Ext.refl _).alloc (.cells #[.int .i64 ((sy.length : Int) - 1 - q)] 3))
        have hO1 := hO.ext ((Ext.refl _).alloc (.cells #[.int .i64 ((sy.length : Int) - 1 - q)] 3))
        have hc1 : (wr.alloc (.cells #[.int .i64 ((sy.length : Int) - 1 - q)] 3)).cell? ⟨wr.heap.size, 0, none⟩ = some (.int .i64 ((sy.length : Int) - 1 - q)) := by simp
        have HT := Lib.hid (revAxes_take sy.length q hlt)
        go_wp2_with (at_builtin; refine wpList_append_int rfl _ _ rfl w2.heap.size (fun _ => False) (.slice p q c) q ((revAxes sy.length).take q) ((sy.length : Int) - 1 - q) rfl hO1 ⟨wr.heap.size, 0, none⟩ 1 rfl hc1 (fun _ h => h.elim) (by omega) (by omega) hE1.lt ?_)
        intro g cap w8 hon8 hgrow _ _ _
        rw [← HT.out] at hon8
        have hEx := hE1.grown hgrow hE1.lt (fun q e => (hO1.2.2.1.lt q e).1)
        clear hO hO1 hE hE1 hc1 s0 s1 s2 s3
        go_wp2_with fail
        go_roundw
        case rel => exact ⟨q + 1, _, cap, by omega, by go_num, rfl, hon8, hEx⟩
        case measure => simp [intOf]; omega
      · obtain rfl : q = sy.length := by omega
        rw [List.take_of_length_le (by rw [revAxes_length]; exact Nat.le_refl _)] at hO
        have hrl := revAxes_length sy.length
        obtain ⟨p', c', hp, hk, hi⟩ := hO.ints
        rw [hrl] at hp hk
        simp only [Value.slice.injEq] at hp
        obtain ⟨rfl, hjunk, rfl⟩ := hp
        clear hjunk
        have hE3 := hE2.trans hE
        obtain ⟨a1, a2, a3, a4⟩ := HALL.out
        have HT := transposed_any _ G p c (revAxes sy.length) sy ky ny iy _ _ _ _ wr hi (HY.out.ext hE3) hrl a1 a2 (fun a ha => revAxes_mem ha) a3 a4
        rw [hrl] at HT
        generalize revAxes sy.length = axs at *
        have HTH := Lib.hid HT
        clear HT hO hi hk hrl a2 a3 a4
        go_wp2_with fail
        refine HTH.out.mono ?_
        rintro e w4 ⟨k0, k1, k2, k3, rfl, hA, hE5⟩
        obtain ⟨kr, u1, v1, z1, u2, v2, z2, u3, v3, z3, rfl, rfl, rfl, rfl⟩ := hA.form
        have hE6 := hE3.trans hE5
        have hB2 := HB2.out.ext (hE.trans hE5)
        clear s0 s1 s2 s3
        obtain ⟨x0, x1, x2, x3⟩ := hB2.cell
        have y0 := hB2.free 0
        have y1 := hB2.free 1
        have y2 := hB2.free 2
        have y3 := hB2.free 3
        have hlt3 := hE3.lt
        have hb2 := (HB2.out.ext hE).lt
        go_wp2_with fail
        obtain ⟨g1, g2, g3⟩ := hB2.put4 hE6 (by omega) (.int .i64 kr) (.slice u1 v1 z1) (.slice u2 v2 z2) (.slice u3 v3 z3)
        revert g1 g2 g3
        generalize ((((w4.setCell ⟨w.heap.size + 1, 0, none⟩ (.int .i64 kr)).setCell ⟨w.heap.size + 1, 1, none⟩ (.slice u1 v1 z1)).setCell ⟨w.heap.size + 1, 2, none⟩ (.slice u2 v2 z2)).setCell ⟨w.heap.size + 1, 3, none⟩ (.slice u3 v3 z3)) = w9
        intro g1 g2 g3
        obtain ⟨z0', z1', z2', z3'⟩ := g2.cell
        have hA9 := ArrAt.mono (G := fun b => w.heap.size ≤ b) (w' := w9) (fun b hb _ => ⟨by omega, g3 b (by omega)⟩) _ _ _ _ _ hA
        refine bodyPost_ret (v := .agg #[(.int .i64 kr), (.slice u1 v1 z1), (.slice u2 v2 z2), (.slice u3 v3 z3)]) ?_ rfl ⟨_, _, _, _, rfl, by rw [← HR1.out]; exact hA9, g1⟩
        simp [results, Try.results36, go_sem, z0', z1', z2', z3']
  · have hR1 := HR.out
    rw [if_pos hr] at hR1
    subst hR1
    have hrb : (rrightV (.mk ky sy ny iy) != 0) = true := by simpa using hr
    generalize rrightV (.mk ky sy ny iy) = rv at *
    have hB2 := HB2.out
    obtain ⟨x0, x1, x2, x3⟩ := hB2.cell
    have y0 := hB2.free 0
    have y1 := hB2.free 1
    have y2 := hB2.free 2
    have y3 := hB2.free 3
    clear hr HR
    go_wp2_with fail
    obtain ⟨g1, g2, g3⟩ := hB2.put4 hE2 (by omega) (.int .i64 0) (.slice none 0 0) (.slice none 0 0) (.slice none 0 0)
    revert g1 g2 g3
    generalize ((((w2.setCell ⟨w.heap.size + 1, 0, none⟩ (.int .i64 0)).setCell ⟨w.heap.size + 1, 1, none⟩ (.slice none 0 0)).setCell ⟨w.heap.size + 1, 2, none⟩ (.slice none 0 0)).setCell ⟨w.heap.size + 1, 3, none⟩ (.slice none 0 0)) = w9
    intro g1 g2 g3
    obtain ⟨z0, z1, z2, z3⟩ := g2.cell
    refine bodyPost_ret (v := .agg #[.int .i64 0, .slice none 0 0, .slice none 0 0, .slice none 0 0]) ?_ rfl ⟨_, _, _, _, rfl, Arr.zero_at _ _, g1⟩
    simp [results, Try.results36, go_sem, z0, z1, z2, z3]
end Go.Proofs.Ytcmnlnamgnbemaa
