/-
  THE WALK of the reference's moved (layer 19). (Printed by gen_rmoved.py.)
-/
import Derived.Test.YtcmnlnamgnbemaaTkLaw
import Derived.Test.YtcmnlnamgnbemaaRLaw
import Derived.Test.YtcmnlnamgnbemaaR02
namespace Go.Proofs.Ytcmnlnamgnbemaa
set_option linter.unusedSimpArgs false
set_option linter.unusedVariables false
open Go.RowKit

/-- The first q places added. -/
def addN : Nat → List Int → List Int → List Int
  | 0, t, _ => t
  | q + 1, x :: r, y :: c => (x + y) :: addN q r c
  | _, t, _ => t
theorem addN_length : ∀ (q : Nat) (t b : List Int), (addN q t b).length = t.length
  | 0, t, b => by unfold addN; rfl
  | q + 1, [], b => by unfold addN; rfl
  | q + 1, x :: r, [] => by unfold addN; rfl
  | q + 1, x :: r, y :: c => by rw [addN, List.length_cons, List.length_cons, addN_length q r c]
theorem addN_at : ∀ (q : Nat) (t b : List Int), (addN q t b).getD q 0 = t.getD q 0
  | 0, t, b => by unfold addN; rfl
  | q + 1, [], b => by unfold addN; rfl
  | q + 1, x :: r, [] => by unfold addN; rfl
  | q + 1, x :: r, y :: c => by rw [addN, List.getD_cons_succ, List.getD_cons_succ, addN_at q r c]
theorem addN_set : ∀ (q : Nat) (t b : List Int), q < t.length → b.length = t.length → (addN q t b).set q (t.getD q 0 + b.getD q 0) = addN (q + 1) t b
  | _, [], _, h, _ => by simp at h
  | _, x :: r, [], _, h => by simp at h
  | 0, x :: r, y :: c, _, _ => by
    unfold addN
    rw [List.set_cons_zero, List.getD_cons_zero, List.getD_cons_zero]
    cases r <;> (unfold addN; rfl)
  | q + 1, x :: r, y :: c, h, hl => by
    rw [addN, addN, List.set_cons_succ, List.getD_cons_succ, List.getD_cons_succ, addN_set q r c (by simpa using h) (by simpa using hl)]
theorem addN_all : ∀ (t b : List Int), b.length = t.length → addN t.length t b = addL t b
  | [], b, h => by unfold addN addL; rfl
  | x :: r, [], h => by simp at h
  | x :: r, y :: c, h => by rw [List.length_cons, addN, addL, addN_all r c (by simpa using h)]
theorem addL_bd : ∀ (t b : List Int), (∀ x ∈ t, 0 ≤ x ∧ x ≤ 65536) → (∀ x ∈ b, -4611686018427387904 ≤ x ∧ x ≤ 4611686018427387904) → ∀ x ∈ addL t b, -9223372036854775808 ≤ x ∧ x ≤ 9223372036854775807
  | [], b, _, _, x, hx => by unfold addL at hx; cases hx
  | y :: r, [], ht, _, x, hx => by
    unfold addL at hx
    have := ht x hx
    omega
  | y :: r, z :: c, ht, hb, x, hx => by
    rw [addL] at hx
    rcases List.mem_cons.1 hx with rfl | hx
    · have h1 := ht y (by simp)
      have h2 := hb z (by simp)
      omega
    · exact addL_bd r c (fun x hx => ht x (by simp [hx])) (fun x hx => hb x (by simp [hx])) x hx
theorem offGo_bd : ∀ (s u : List Int) (n q v : Int), 0 ≤ n → n < q → rightGo q s = true → u.length = s.length → offGo n s u = some v → 0 ≤ v ∧ v < prodA q s
  | [], [], n, q, v, h0, h1, _, _, h => by
    unfold offGo at h
    cases h
    rw [prodA]; exact ⟨h0, h1⟩
  | [], _ :: _, _, _, _, _, _, _, hl, _ => by simp at hl
  | _ :: _, [], _, _, _, _, _, _, hl, _ => by simp at hl
  | y :: r, i :: c, n, q, v, h0, h1, hr, hl, h => by
    rw [offGo] at h
    split at h
    · cases h
    · rename_i hc
      have hy : y ≠ 0 := by omega
      obtain ⟨a1, a2, a3, a4⟩ := rightGo_cons hr hy
      have e1 : n * y ≤ (q - 1) * y := Int.mul_le_mul_of_nonneg_right (by omega) (by omega)
      have e2 : 0 ≤ n * y := Int.mul_nonneg h0 (by omega)
      rw [Int.sub_mul, Int.one_mul] at e1
      rw [prodA, if_neg hy]
      exact offGo_bd r c _ _ v (by omega) (by omega) a4 (by simpa using hl) h
theorem offV_lt {s u : List Int} (hr : shapeRight s = true) (h : (offV s u).2 = true) : 0 ≤ (offV s u).1 ∧ (offV s u).1 < prodA 1 s := by
  unfold offV at h ⊢
  split at h
  · cases h
  · rename_i hc
    rw [if_neg hc]
    have hl : u.length = s.length := by
      apply Classical.byContradiction
      exact fun e => hc (.inr e)
    cases ho : offGo 0 s u with
    | none => rw [ho] at h; cases h
    | some v => exact offGo_bd s u 0 1 v (by omega) (by omega) (shapeRight_go hr).1 hl ho
theorem fromAt_lt {s t b : List Int} (hr : shapeRight s = true) (i : Int) : -1 ≤ fromAt s t b i ∧ (0 ≤ fromAt s t b i → fromAt s t b i < prodA 1 s) ∧ fromAt s t b i ≤ 65536 := by
  have hp : prodA 1 s ≤ 65536 := prodA_le s 1 (by omega) (by omega) (shapeRight_go hr).1
  unfold fromAt
  split
  · rename_i h
    have := offV_lt hr h
    omega
  · omega

set_option maxRecDepth 100000 in
set_option maxHeartbeats 8000000 in
theorem rmoved_any (F GS GT GB : Nat → Prop) (ps pt pb : Option Addr) (cs ct cb : Nat) (s t b ys : List Int) (k : Int) (n : List Int) (it : List Arr) (d0 d1 d2 d3 : Value) (w : World) (hy : ArrAt F w (.mk k ys n it) d0 d1 d2 d3) (hs : IntsAt GS w ps s) (ht : IntsAt GT w pt t) (hb : IntsAt GB w pb b)
    (hls : s.length ≤ 8) (hlt : t.length = s.length) (hlb : b.length = s.length) (hsr : rightGo 1 s = true) (hbb : ∀ x ∈ b, -4611686018427387904 ≤ x ∧ x ≤ 4611686018427387904) (hk3 : k = 1 ∨ k = 2 ∨ k = 3) (hn : k ≠ 3 → (n.length : Int) = prodA 1 s) (hi : k = 3 → (it.length : Int) = prodA 1 s) :
    Calls Try.prog 73 #[.agg #[d0, d1, d2, d3], .slice ps s.length cs, .slice pt t.length ct, .slice pb b.length cb] w fun e w' =>
      ∃ c0 c1 c2 c3, e = .returned (.tuple #[.agg #[c0, c1, c2, c3], .int .i64 (rmovedV s t b (.mk k ys n it)).2]) ∧ ArrAt (fun b => w.heap.size ≤ b ∨ F b) w' (rmovedV s t b (.mk k ys n it)).1 c0 c1 c2 c3 ∧ Ext w w' := by
  have hy' := hy
  unfold ArrAt at hy'
  obtain ⟨rfl, hk, ⟨q1, m1, rfl, ⟨o1, o1', o1''⟩, i1⟩, ⟨q2, m2, rfl, ⟨o2, o2', o2''⟩, i2⟩, ⟨q3, m3, rfl, ⟨o3, o3', o3''⟩, i3⟩⟩ := hy'
  have HY := Lib.hid (ArrAt.mono (G := fun b => F b ∧ b < w.heap.size) (fun b hb hlt => ⟨⟨hb, hlt⟩, rfl⟩) _ _ _ _ _ hy)
  have HS := Lib.hid hs
  have HT := Lib.hid (ht.mono (G := fun b => GT b ∧ b < w.heap.size) (fun b hb hlt => ⟨⟨hb, hlt⟩, rfl⟩))
  have HB := Lib.hid hb
  have HSR := Lib.hid hsr
  have HSHR : Hid (shapeRight s = true) := by
    show _ = true
    simp [shapeRight, hls, hsr]
  have HBB := Lib.hid hbb
  have HK3 := Lib.hid hk3
  have HN := Lib.hid hn
  have HI := Lib.hid hi
  have HLT := Lib.hid hlt
  have HLB := Lib.hid hlb
  have hlt8 : t.length ≤ 8 := by omega
  have hlb8 : b.length ≤ 8 := by omega
  generalize hres : rmovedV s t b (.mk k ys n it) = res
  have HRES := Lib.hid hres
  clear hy hs ht hb hsr hbb hk3 hn hi i1 i2 i3 hres hlt hlb
  go_enter Try.func73, Try.ntmps73
  go_wp2_with fail
  have hE0 : Ext w ((w.alloc (.cells #[.int .i64 k, .slice q1 ys.length m1, .slice q2 n.length m2, .slice q3 it.length m3] 26)).alloc (.cells #[.int .i64 0, .slice none 0 0, .slice none 0 0, .slice none 0 0] 26)) := ((Ext.refl _).alloc _).alloc _
  have hB1 := (box_new w (.int .i64 k) (.slice q1 ys.length m1) (.slice q2 n.length m2) (.slice q3 it.length m3)).ext ((Ext.refl _).alloc (.cells #[.int .i64 0, .slice none 0 0, .slice none 0 0, .slice none 0 0] 26))
  have hB2 := box_new (w.alloc (.cells #[.int .i64 k, .slice q1 ys.length m1, .slice q2 n.length m2, .slice q3 it.length m3] 26)) (.int .i64 0) (.slice none 0 0) (.slice none 0 0) (.slice none 0 0)
  have hsz1 : ((w.alloc (.cells #[.int .i64 k, .slice q1 ys.length m1, .slice q2 n.length m2, .slice q3 it.length m3] 26)).alloc (.cells #[.int .i64 0, .slice none 0 0, .slice none 0 0, .slice none 0 0] 26)).heap.size = w.heap.size + 2 := by simp
  rw [World.size_alloc] at hB2
  generalize ((w.alloc (.cells #[.int .i64 k, .slice q1 ys.length m1, .slice q2 n.length m2, .slice q3 it.length m3] 26)).alloc (.cells #[.int .i64 0, .slice none 0 0, .slice none 0 0, .slice none 0 0] 26)) = w1 at hE0 hB1 hB2 hsz1 ⊢
  refine (r2right_any _ pt ct t w1 (HT.out.ext hE0) (by unfold lenMax; omega)).mono ?_
  rintro e w2 ⟨rfl, rfl⟩
  obtain ⟨x0, x1, x2, x3⟩ := hB2.cell
  have y0 := hB2.free 0
  have y1 := hB2.free 1
  have y2 := hB2.free 2
  have y3 := hB2.free 3
  have hlt1 := hB2.lt
  by_cases hst : shapeRight t = false
  · have hR1 := HRES.out
    unfold rmovedV at hR1
    rw [if_pos hst] at hR1
    subst hR1
    rw [hst]
    go_wp2_with fail
    obtain ⟨gg1, gg2, gg3⟩ := hB2.put4 hE0 (by omega) (.int .i64 0) (.slice none 0 0) (.slice none 0 0) (.slice none 0 0)
    revert gg1 gg2 gg3
    generalize ((((w1.setCell ⟨w.heap.size + 1, 0, none⟩ (.int .i64 0)).setCell ⟨w.heap.size + 1, 1, none⟩ (.slice none 0 0)).setCell ⟨w.heap.size + 1, 2, none⟩ (.slice none 0 0)).setCell ⟨w.heap.size + 1, 3, none⟩ (.slice none 0 0)) = w9
    intro gg1 gg2 gg3
    obtain ⟨z0, z1, z2, z3⟩ := gg2.cell
    refine bodyPost_ret (v := .tuple #[.agg #[(.int .i64 0), (.slice none 0 0), (.slice none 0 0), (.slice none 0 0)], .int .i64 21]) ?_ rfl ⟨_, _, _, _, rfl, Arr.zero_at _ _, gg1⟩
    simp [results, Try.results73, go_sem, z0, z1, z2, z3]
  have hst' : shapeRight t = true := by simpa using hst
  rw [hst']
  have hR1 := HRES.out
  unfold rmovedV at hR1
  rw [if_neg hst] at hR1
  have hsz0 := shapeSize_lo t
  have hszh := shapeSize_hi t
  have hspt : shapeSize t = prodA 1 t := by
    unfold shapeSize
    rw [if_pos hst', prodA_volOf]
  have HSTR := Lib.hid hst'
  have HSPT := Lib.hid hspt
  have HTB := Lib.hid (rightGo_nonneg t 1 (shapeRight_go hst').1)
  have HB1 := Lib.hid hB1
  have HB2 := Lib.hid hB2
  have HSZ1 := Lib.hid hsz1
  clear hsz1
  generalize hszv : shapeSize t = sz at *
  have HSZ := Lib.hid hszv
  have HRES1 := Lib.hid hR1
  clear hszv hR1 HRES hst hst' x0 x1 x2 x3 y0 y1 y2 y3 hB1 hB2 hspt
  go_wp2_with fail
  go_loopw [10, 11] (fun fv i wr => ∃ (m : Nat), (m : Int) ≤ max sz 0 ∧ i = .int .i64 m ∧ Ext w1 wr ∧ OwnI w1.heap.size (fun _ => False) wr fv m (fromL s t b m)) (fun _ i _ => sz.toNat - (intOf i).toNat)
  case atStart => exact ⟨0, by omega, rfl, Ext.refl _, OwnI.nil _ _ _⟩
  case round =>
    obtain ⟨m, hm, rfl, hEm, hOm⟩ := hrel
    obtain ⟨pv, cv, rfl, hcv⟩ := hOm.form
    go_wp2_with fail
    refine (r2size_any _ pt ct t wr (HT.out.ext (hE0.trans hEm)) (by unfold lenMax; omega)).mono ?_
    rintro e w5 ⟨rfl, rfl⟩
    rw [HSZ.out]
    by_cases hms : (m : Int) < sz
    · have HOM := Lib.hid hOm
      clear hOm
      go_wp2_with fail
      refine (r2index_any _ pt ct t m wr (HT.out.ext (hE0.trans hEm)) (by unfold lenMax; omega) HSTR.out (by omega) (by rw [HSZ.out]; exact hms)).mono ?_
      rintro e w6 ⟨pi, ci, rfl, hOi, hE6⟩
      have hWi : Within t (idxOf t m) := idxOf_within t m (shapeRight_go HSTR.out).1 (by omega) (by rw [← HSPT.out]; exact hms)
      have HAT : Hid (fromAt s t b m = if (offV s (addL (idxOf t m) b)).2 = true then (offV s (addL (idxOf t m) b)).1 else -1) := rfl
      have hil : (idxOf t m).length = t.length := idxOf_length _ _
      have hib : ∀ x ∈ idxOf t m, 0 ≤ x ∧ x ≤ 65536 := fun x hx => by
        obtain ⟨j, hj, e⟩ := List.mem_iff_getElem.1 hx
        have h1 := hWi.2 j (by omega)
        have h2 := HTB.out (t.getD j 0) (by simp [List.getD, show j < t.length by omega])
        simp only [List.getD, hj, List.getElem?_eq_getElem, Option.getD_some] at h1 h2
        rw [← e]; omega
      have hFA := fromAt_lt (t := t) (b := b) HSHR.out m
      have HFS := Lib.hid (fromL_succ s t b m)
      generalize fromAt s t b m = fa at *
      generalize idxOf t m = u at *
      have HIL := Lib.hid hil
      have HIB := Lib.hid hib
      have hO0 : OwnI wr.heap.size (fun _ => False) w6 (.slice pi t.length ci) t.length (addN 0 u b) := by unfold addN; exact hOi
      have HO0 := Lib.hid hO0
      have HBL : Hid (b.length = u.length) := by
        show _ = _
        rw [HLB.out, HIL.out, HLT.out]
      clear hWi hil hib hOi hO0
      go_wp2_with fail
      obtain ⟨wo, rfl⟩ : ∃ wo : World, wo = wr := ⟨_, rfl⟩
      go_loopw [14] (fun i wq => ∃ (q : Nat), q ≤ t.length ∧ i = .int .i64 q ∧ Ext wo wq ∧ OwnI wo.heap.size (fun _ => False) wq (.slice pi t.length ci) t.length (addN q u b)) (fun i _ => t.length - (intOf i).toNat)
      case atStart => exact ⟨0, Nat.zero_le _, rfl, hE6, HO0.out⟩
      case round =>
        obtain ⟨q, hq, rfl, hEq, hOq⟩ := hrel
        clear HO0 hE6
        by_cases hlq : q < t.length
        · obtain ⟨g, rfl, hgB, hglt, c1, c2, hset⟩ := hOq.at' hlq
          rw [addN_at] at c1
          obtain ⟨bb, ob, rfl, ab, _, _⟩ := ((HB.out.ext (hE0.trans hEm)).ext hEq).get (i := q) (by have := HBL.out; have := HIL.out; omega)
          have hu1 := HIB.out (u.getD q 0) (getD_mem (P := fun x => x ∈ u) (fun x hx => hx) (by rw [HIL.out]; exact hlq))
          have hb1 := HBB.out (b.getD q 0) (getD_mem (P := fun x => x ∈ b) (fun x hx => hx) (by rw [HBL.out, HIL.out]; exact hlq))
          have hsn := addN_set q u b (by rw [HIL.out]; exact hlq) HBL.out
          have hO7 := (hset (u.getD q 0 + b.getD q 0) (by omega)).ext ((Ext.refl _).drew)
          rw [hsn] at hO7
          have hE7 : Ext wo (wr.setCell ⟨g, q, none⟩ (.int .i64 (u.getD q 0 + b.getD q 0))).drew := (hEq.setCell (p := ⟨g, q, none⟩) hgB _).drew
          have hlq1 : (q : Int) < t.length := by omega
          have hlq2 : (q : Int) < b.length := by have := HBL.out; have := HIL.out; omega
          clear hset hOq hsn
          generalize u.getD q 0 = uq at *
          generalize b.getD q 0 = bq at *
          have hsum : IntKind.i64.wrap (uq + bq) = uq + bq := IntWalk.i64_in _ (by omega)
          go_wp2_with fail
          go_still_tail 12, (by kernel_rfl)
          change wpList _ _ _ _ _ wr.drew
          go_wp2_with fail
          generalize (wr.setCell ⟨g, q, none⟩ (.int .i64 (uq + bq))).drew = w7 at hO7 hE7 ⊢
          clear c1 c2 ab
          go_roundw
          case rel => exact ⟨q + 1, by omega, by go_num, hE7, hO7⟩
          case measure => simp [intOf]; omega
        · obtain rfl : q = t.length := by omega
          have hal : addN t.length u b = addL u b := by rw [← HIL.out]; exact addN_all u b HBL.out
          rw [hal] at hOq
          have hull : (addL u b).length = t.length := by rw [addL_length, HIL.out]
          obtain ⟨p', c', hpt, hkt, hit⟩ := hOq.ints
          simp only [Value.slice.injEq] at hpt
          obtain ⟨rfl, hjunk, rfl⟩ := hpt
          clear hjunk hal hOq
          generalize addL u b = uu at *
          have HUL := Lib.hid hull
          have hE8 := (hE0.trans hEm).trans hEq
          have HOC := r2offset_any _ _ ps pi cs ci s uu wr (HS.out.ext hE8) hit (by unfold lenMax; omega) (by unfold lenMax; rw [HUL.out]; omega)
          rw [HUL.out] at HOC
          have HE := Lib.hid (hEm.trans hEq)
          have HOM2 := Lib.hid (HOM.out.ext hEq)
          clear hull hit hkt HBL HIB HIL hE8
          by_cases hok : (offV s uu).2 = true
          · have hfa := HAT.out
            rw [if_pos hok] at hfa
            rw [hok, ← hfa] at HOC
            have HOC := Lib.hid HOC
            clear hok hfa HAT
            go_wp2_with fail
            refine HOC.out.mono ?_
            rintro e w8 ⟨rfl, hE9⟩
            have hEa := (HE.out.trans hE9).alloc (.cells #[.int .i64 fa] 3)
            have hOa := HOM2.out.ext (hE9.alloc (.cells #[.int .i64 fa] 3))
            have hnc : (w8.alloc (.cells #[.int .i64 fa] 3)).cell? ⟨w8.heap.size, 0, none⟩ = some (.int .i64 fa) := by simp
            have hlw := hEa.lt
            clear HOC
            go_wp2_with (at_builtin; refine wpList_append_int rfl _ _ rfl w1.heap.size (fun _ => False) (.slice pv m cv) m (fromL s t b m) fa rfl hOa ⟨w8.heap.size, 0, none⟩ 1 rfl hnc (fun _ h => h.elim) (by omega) (by omega) hlw ?_)
            intro g9 cap9 w9 hon9 hgrow9 _ _ _
            have hEx := hEa.grown hgrow9 hlw (fun q e => (hOa.2.2.1.lt q e).1)
            go_wp2_with fail
            go_roundw
            case rel => exact ⟨m + 1, by omega, by go_num, hEx, by rw [HFS.out]; exact hon9⟩
            case measure => simp [intOf]; omega
          · have hfa := HAT.out
            rw [if_neg hok] at hfa
            have hok2 : (offV s uu).2 = false := Bool.eq_false_iff.2 hok
            rw [hok2] at HOC
            generalize (offV s uu).1 = ov at *
            have HOC := Lib.hid HOC
            clear hok hok2 HAT
            subst hfa
            go_wp2_with fail
            refine HOC.out.mono ?_
            rintro e w8 ⟨rfl, hE9⟩
            have hEa := (HE.out.trans hE9).alloc (.cells #[.int .i64 (-1)] 3)
            have hOa := HOM2.out.ext (hE9.alloc (.cells #[.int .i64 (-1)] 3))
            have hnc : (w8.alloc (.cells #[.int .i64 (-1)] 3)).cell? ⟨w8.heap.size, 0, none⟩ = some (.int .i64 (-1)) := by simp
            have hlw := hEa.lt
            clear HOC
            go_wp2_with (at_builtin; refine wpList_append_int rfl _ _ rfl w1.heap.size (fun _ => False) (.slice pv m cv) m (fromL s t b m) (-1) rfl hOa ⟨w8.heap.size, 0, none⟩ 1 rfl hnc (fun _ h => h.elim) (by omega) (by omega) hlw ?_)
            intro g9 cap9 w9 hon9 hgrow9 _ _ _
            have hEx := hEa.grown hgrow9 hlw (fun q e => (hOa.2.2.1.lt q e).1)
            go_wp2_with fail
            go_roundw
            case rel => exact ⟨m + 1, by omega, by go_num, hEx, by rw [HFS.out]; exact hon9⟩
            case measure => simp [intOf]; omega
    · have hmz : sz.toNat = m := by omega
      have hR2 := HRES1.out
      rw [hmz] at hR2
      have hfl := fromL_length s t b m
      have hmem : ∀ f ∈ fromL s t b m, f = -1 ∨ f < prodA 1 s := fun f hf => by
        unfold fromL at hf
        obtain ⟨i, _, rfl⟩ := List.mem_map.1 hf
        have := fromAt_lt (t := t) (b := b) HSHR.out i
        omega
      generalize fromL s t b m = fl at *
      obtain rfl : m = fl.length := hfl.symm
      have HMEM := Lib.hid hmem
      have HR2 := Lib.hid hR2
      obtain ⟨p', c', hpt, hkt, hit⟩ := hOm.ints
      simp only [Value.slice.injEq] at hpt
      obtain ⟨rfl, hjunk, rfl⟩ := hpt
      have hE2 := hE0.trans hEm
      have HG := gather_any (fun b => F b ∧ b < w.heap.size) _ _ pt pv ct cv t fl ys k n it _ _ _ _ wr (HT.out.ext hE2) hit (HY.out.ext hE2) (by omega) (by omega) HK3.out (fun h f hf => by
        have h1 := HN.out h
        have h2 := HMEM.out f hf
        omega) (fun h f hf => by
        have h1 := HI.out h
        have h2 := HMEM.out f hf
        omega)
      have HG := Lib.hid HG
      have hBy := HB1.out.ext hEm
      have hBz := HB2.out.ext hEm
      obtain ⟨s0, s1, s2, s3⟩ := hBy.cell
      clear hjunk hOm hit hmem hR2 HRES1 hfl hmz HMEM
      go_wp2_with fail
      refine HG.out.mono ?_
      rintro e w6 ⟨e0, e1, e2, e3, rfl, hA, hE6⟩
      obtain ⟨ka, ua, va, za, ub, vb, zb, uc, vc, zc, rfl, rfl, rfl, rfl⟩ := hA.form
      have hE7 := (hE2.trans hE6).alloc (.cells #[.int .i64 ka, .slice ua va za, .slice ub vb zb, .slice uc vc zc] 26)
      have hA7 := hA.ext ((Ext.refl _).alloc (.cells #[.int .i64 ka, .slice ua va za, .slice ub vb zb, .slice uc vc zc] 26))
      have hBz7 := hBz.ext (hE6.alloc (.cells #[.int .i64 ka, .slice ua va za, .slice ub vb zb, .slice uc vc zc] 26))
      have hBA := box_new w6 (.int .i64 ka) (.slice ua va za) (.slice ub vb zb) (.slice uc vc zc)
      have hwr : w.heap.size ≤ wr.heap.size := hE2.lt
      have HLZ : Hid (w.heap.size + 1 < wr.heap.size) := hBz.lt
      have HA7 := Lib.hid hA7
      clear s0 s1 s2 s3 hA hBy hBz hEm
      go_wp2_with fail
      generalize hba : w6.heap.size = ba at *
      clear hba
      generalize w6.alloc (.cells #[.int .i64 ka, .slice ua va za, .slice ub vb zb, .slice uc vc zc] 26) = w7 at hE7 HA7 hBz7 hBA ⊢
      refine (r3right_any _ _ _ _ _ _ w7 HA7.out).mono ?_
      rintro e w8 ⟨rfl, hE8⟩
      rw [rright_eq]
      have hE9 := hE7.trans hE8
      have hbz8 := hBz7.ext hE8
      have HA8 := Lib.hid (HA7.out.ext hE8)
      obtain ⟨s0, s1, s2, s3⟩ := (hBA.ext hE8).cell
      have hlA := (hBA.ext hE8).lt
      obtain ⟨x0, x1, x2, x3⟩ := hbz8.cell
      have y0 := hbz8.free 0
      have y1 := hbz8.free 1
      have y2 := hbz8.free 2
      have y3 := hbz8.free 3
      have hl8 := hbz8.lt
      clear HA7 hBA hBz7 hE7 hE6 hE8
      generalize hgv : gatherV t fl (.mk k ys n it) = gv at *
      generalize hrv : rightV gv = rv at *
      have HRV := Lib.hid hrv
      have HGV := Lib.hid hgv
      clear hrv hgv
      by_cases hz0 : rv = 0
      · have HR3 := HR2.out
        rw [if_neg (by simp [hz0])] at HR3
        have HR4 := Lib.hid HR3
        subst hz0
        clear HR2 HR3
        go_wp2_with fail
        obtain ⟨gg1, gg2, gg3⟩ := hbz8.put4 hE9 (by omega) (.int .i64 ka) (.slice ua va za) (.slice ub vb zb) (.slice uc vc zc)
        revert gg1 gg2 gg3
        generalize ((((w8.setCell ⟨w.heap.size + 1, 0, none⟩ (.int .i64 ka)).setCell ⟨w.heap.size + 1, 1, none⟩ (.slice ua va za)).setCell ⟨w.heap.size + 1, 2, none⟩ (.slice ub vb zb)).setCell ⟨w.heap.size + 1, 3, none⟩ (.slice uc vc zc)) = w9
        intro gg1 gg2 gg3
        obtain ⟨z0, z1, z2, z3⟩ := gg2.cell
        have hA9 := ArrAt.mono (G := fun b => w.heap.size ≤ b ∨ F b) (w' := w9) (fun b hb _ => ⟨by rcases hb with hb | hb; exact .inl (by omega); exact .inr hb.1.1, gg3 b (by rcases hb with hb | hb; exact (by have := HLZ.out; omega); exact (by have := hb.1.2; omega))⟩) _ _ _ _ _ HA8.out
        refine bodyPost_ret (v := .tuple #[.agg #[(.int .i64 ka), (.slice ua va za), (.slice ub vb zb), (.slice uc vc zc)], .int .i64 0]) ?_ rfl ⟨_, _, _, _, by rw [← HR4.out], by rw [← HR4.out]; exact hA9, gg1⟩
        simp [results, Try.results73, go_sem, z0, z1, z2, z3]
      · have HR3 := HR2.out
        rw [if_pos hz0] at HR3
        have HR4 := Lib.hid HR3
        clear HR2 HR3
        go_wp2_with fail
        obtain ⟨gg1, gg2, gg3⟩ := hbz8.put4 hE9 (by omega) (.int .i64 0) (.slice none 0 0) (.slice none 0 0) (.slice none 0 0)
        revert gg1 gg2 gg3
        generalize ((((w8.setCell ⟨w.heap.size + 1, 0, none⟩ (.int .i64 0)).setCell ⟨w.heap.size + 1, 1, none⟩ (.slice none 0 0)).setCell ⟨w.heap.size + 1, 2, none⟩ (.slice none 0 0)).setCell ⟨w.heap.size + 1, 3, none⟩ (.slice none 0 0)) = w9
        intro gg1 gg2 gg3
        obtain ⟨z0, z1, z2, z3⟩ := gg2.cell
        refine bodyPost_ret (v := .tuple #[.agg #[(.int .i64 0), (.slice none 0 0), (.slice none 0 0), (.slice none 0 0)], .int .i64 21]) ?_ rfl ⟨_, _, _, _, by rw [← HR4.out], by rw [← HR4.out]; exact Arr.zero_at _ _, gg1⟩
        simp [results, Try.results73, go_sem, z0, z1, z2, z3]
end Go.Proofs.Ytcmnlnamgnbemaa
