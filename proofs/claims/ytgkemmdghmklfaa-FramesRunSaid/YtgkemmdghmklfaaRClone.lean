/-
  THE WALK of the reference's Clone. (Printed by gen_rclone.py.)
-/
import Derived.Test.YtgkemmdghmklfaaInv
import Derived.Deep.DeepCutAuto
namespace Go.Proofs.Ytgkemmdghmklfaa
set_option linter.unusedSimpArgs false
set_option linter.unusedVariables false
open Go.RowKit

/-- What a function leaves that hands back a new array. -/
def GivesArr (t : Arr) (w : World) (e : Ending) (w' : World) : Prop :=
  ∃ c0 c1 c2 c3, e = .returned (.agg #[c0, c1, c2, c3]) ∧ ArrAt (fun b => w.heap.size ≤ b) w' t c0 c1 c2 c3 ∧ Ext w w'

theorem Mk.fresh {w0 w : World} {b : Nat} {k : Int} {v1 v2 : Value} {s n : List Int} (hle : w0.heap.size ≤ b) (hE : Ext w0 w)
    (bx : Box4 w b (.int .i64 0) (.slice none 0 0) (.slice none 0 0) (.slice none 0 0)) (o1 : OwnI w0.heap.size (fun x => x = b) w v1 s.length s) (o2 : OwnI w0.heap.size (fun x => x = b) w v2 n.length n) :
    Mk w0 ((((w.setCell ⟨b, 0, none⟩ (.int .i64 k)).setCell ⟨b, 1, none⟩ v1).setCell ⟨b, 2, none⟩ v2).setCell ⟨b, 3, none⟩ (.slice none 0 0)) b k v1 v2 (.slice none 0 0) s n [] := by
  refine ⟨(((hE.setCell (p := ⟨b, 0, none⟩) hle _).setCell (p := ⟨b, 1, none⟩) hle _).setCell (p := ⟨b, 2, none⟩) hle _).setCell (p := ⟨b, 3, none⟩) hle _, hle, (((bx.set0 _).set1 _).set2 _).set3 _, ?_, ?_, OwnA.nil _ _ _⟩
  all_goals
    refine OwnI.same (by assumption) fun g _ _ hne => ⟨?_, hne⟩
    have h : g ≠ b := hne
    rw [Below.heap_setCell _ _ _ _ h, Below.heap_setCell _ _ _ _ h, Below.heap_setCell _ _ _ _ h, Below.heap_setCell _ _ _ _ h]

set_option maxRecDepth 100000 in
set_option maxHeartbeats 4000000 in
theorem rclone_any : ∀ (m : Nat) (F : Nat → Prop) (t : Arr) (c0 c1 c2 c3 : Value) (w : World), SizeOf.sizeOf t < m → ArrAt F w t c0 c1 c2 c3 →
    Calls Try.prog 20 #[.agg #[c0, c1, c2, c3]] w (GivesArr t w) := by
  intro m
  induction m with
  | zero => intro F t c0 c1 c2 c3 w hm; omega
  | succ m ih =>
    intro F t c0 c1 c2 c3 w hm h
    have IH := Lib.hid ih
    clear ih
    obtain ⟨k, s, n, it⟩ := t
    unfold ArrAt at h
    obtain ⟨rfl, hk, ⟨p1, k1, rfl, ⟨o1, o1', o1''⟩, i1⟩, ⟨p2, k2, rfl, ⟨o2, o2', o2''⟩, i2⟩, ⟨p3, k3, rfl, ⟨o3, o3', o3''⟩, i3⟩⟩ := h
    have hb1 : s.length ≤ lenMax := by unfold lenMax; omega
    have hb2 : n.length ≤ lenMax := by unfold lenMax; omega
    have hB1 := box_new w (.int .i64 k) (.slice p1 s.length k1) (.slice p2 n.length k2) (.slice p3 it.length k3)
    have hB2 := box_new (w.alloc (.cells #[.int .i64 k, .slice p1 s.length k1, .slice p2 n.length k2, .slice p3 it.length k3] 26)) (.int .i64 0) (.slice none 0 0) (.slice none 0 0) (.slice none 0 0)
    have hE1 : Ext w ((w.alloc (.cells #[.int .i64 k, .slice p1 s.length k1, .slice p2 n.length k2, .slice p3 it.length k3] 26)).alloc (.cells #[.int .i64 0, .slice none 0 0, .slice none 0 0, .slice none 0 0] 26)) := ((Ext.refl _).alloc _).alloc _
    replace hB1 := hB1.ext ((Ext.refl _).alloc (.cells #[.int .i64 0, .slice none 0 0, .slice none 0 0, .slice none 0 0] 26))
    rw [World.size_alloc] at hB2
    go_enter Try.func20, Try.ntmps20
    go_wp2_with fail
    generalize hw1 : (w.alloc (.cells #[.int .i64 k, .slice p1 s.length k1, .slice p2 n.length k2, .slice p3 it.length k3] 26)).alloc (.cells #[.int .i64 0, .slice none 0 0, .slice none 0 0, .slice none 0 0] 26) = w1 at hB1 hB2 hE1 ⊢
    have hsz : w1.heap.size = w.heap.size + 2 := by rw [← hw1]; simp
    have HSZ := Lib.hid hsz
    clear hw1 hsz
    go_cut [3] (fun s3 wx => ∃ (b : Nat) (v1 v2 : Value), s3 = .pointer (some ⟨b, 0, none⟩) ∧ Mk w1 wx b k v1 v2 (.slice none 0 0) s n [])
    case first =>
      obtain ⟨f0, f1, f2, f3⟩ := hB1.cell
      refine wp_region_g0 [0, 1, 2, 3, 5, 6] 5 #[true, true, true, true, false, true, true, false, false, false, false] (fun w' => Ext w1 w') (by kernel_rfl) (by kernel_rfl) ((Ext.refl _).drew) ?_
      iterate 6
        refine wpHead_cons (v := ?_) rfl (by rfl) (fun w' hS => ?_) ?_
        rotate_left
        · have g0 := hS.cell f0
          have g1 := hS.cell f1
          have g2 := hS.cell f2
          go_simp
          try with_reducible rfl
        simp only [Act.put, List.setIfInBounds_toArray, List.set]
      unfold wpHead
      have e0 : Ext w1 w1.drew := (Ext.refl _).drew
      generalize w1.drew = w2 at e0 ⊢
      refine wpAnyG_two (i := 4) (j := 9) (by kernel_rfl) ⟨_, rfl, fun K hK => ?_⟩ ⟨_, rfl, fun K hK => ?_⟩
      · refine wpList_append_nil rfl _ _ rfl F w1.heap.size (fun _ => False) p1 k1 s rfl rfl (i1.ext (hE1.trans e0)) (fun _ hx => hx.elim) hb1 e0.lt ?_
        intro v1 w3 own1 hs0
        have e1 := e0.trans hs0
        refine hK _ _ e1 ?_
        simp only [Act.put, List.setIfInBounds_toArray, List.set]
        refine wpAnyG_two (i := 7) (j := 9) (by kernel_rfl) ⟨_, rfl, fun K hK => ?_⟩ ⟨_, rfl, fun K hK => ?_⟩
        · refine wpList_append_nil rfl _ _ rfl F w1.heap.size (fun _ => False) p2 k2 n rfl rfl (i2.ext (hE1.trans e1)) (fun _ hx => hx.elim) hb2 e1.lt ?_
          intro v2 w4 own2 hs1
          have e2 := e1.trans hs1
          replace own1 := own1.ext hs1
          refine hK _ _ e2 ?_
          simp only [Act.put, List.setIfInBounds_toArray, List.set]
          refine wpAnyG_two (i := 8) (j := 9) (by kernel_rfl) ⟨_, rfl, fun K hK => ?_⟩ ⟨_, rfl, fun K hK => ?_⟩
          · obtain ⟨q1, d1, rfl, _⟩ := own1.ints
            obtain ⟨q2, d2, rfl, _⟩ := own2.ints
            go_wp2_with fail
            refine hK _ _ e2 ?_
            simp only [Act.put, List.setIfInBounds_toArray, List.set]
            refine wpAnyG_one (i := 9) (by kernel_rfl) ⟨_, rfl, fun K hK => ?_⟩
            go_wp2_with fail
            refine hK _ _ (e2.trans ((Ext.refl _).alloc _)) ?_
            simp only [Act.put, List.setIfInBounds_toArray, List.set]
            have bx := box_new w4 (.int .i64 0) (.slice none 0 0) (.slice none 0 0) (.slice none 0 0)
            have e3 := e2.trans ((Ext.refl _).alloc (.cells #[.int .i64 0, .slice none 0 0, .slice none 0 0, .slice none 0 0] 26))
            have hle := e2.lt
            replace own1 := OwnI.same (Y := fun x => x = w4.heap.size) (w' := w4.alloc (.cells #[.int .i64 0, .slice none 0 0, .slice none 0 0, .slice none 0 0] 26)) own1 (fun g _ hlt _ => ⟨Below.heap_alloc _ _ _ hlt, by omega⟩)
            replace own2 := OwnI.same (Y := fun x => x = w4.heap.size) (w' := w4.alloc (.cells #[.int .i64 0, .slice none 0 0, .slice none 0 0, .slice none 0 0] 26)) own2 (fun g _ hlt _ => ⟨Below.heap_alloc _ _ _ hlt, by omega⟩)
            generalize w4.alloc (.cells #[.int .i64 0, .slice none 0 0, .slice none 0 0, .slice none 0 0] 26) = w5 at *
            refine wpAnyG_tail [10] 1 _ _ _ (by decide) (by kernel_rfl) ?_
            refine wpTail_free1 rfl (by kernel_rfl) ?_
            obtain ⟨z0, z1, z2, z3⟩ := bx.cell
            have y0 := bx.free 0
            have y1 := bx.free 1
            have y2 := bx.free 2
            have y3 := bx.free 3
            go_wp2_with fail
            refine OnlyN.mk ?_
            go_wp2_with fail
            go_meet
            case rel => exact ⟨w4.heap.size, _, _, rfl, Mk.fresh hle e3 bx own1 own2⟩
          · go_wp2_with fail
            refine hK _ _ (e2.trans ((Ext.refl _).alloc _)) ?_
            simp only [Act.put, List.setIfInBounds_toArray, List.set]
            have bx := box_new w4 (.int .i64 0) (.slice none 0 0) (.slice none 0 0) (.slice none 0 0)
            have e3 := e2.trans ((Ext.refl _).alloc (.cells #[.int .i64 0, .slice none 0 0, .slice none 0 0, .slice none 0 0] 26))
            have hle := e2.lt
            replace own1 := OwnI.same (Y := fun x => x = w4.heap.size) (w' := w4.alloc (.cells #[.int .i64 0, .slice none 0 0, .slice none 0 0, .slice none 0 0] 26)) own1 (fun g _ hlt _ => ⟨Below.heap_alloc _ _ _ hlt, by omega⟩)
            replace own2 := OwnI.same (Y := fun x => x = w4.heap.size) (w' := w4.alloc (.cells #[.int .i64 0, .slice none 0 0, .slice none 0 0, .slice none 0 0] 26)) own2 (fun g _ hlt _ => ⟨Below.heap_alloc _ _ _ hlt, by omega⟩)
            generalize w4.alloc (.cells #[.int .i64 0, .slice none 0 0, .slice none 0 0, .slice none 0 0] 26) = w5 at *
            refine wpAnyG_one (i := 8) (by kernel_rfl) ⟨_, rfl, fun K hK => ?_⟩
            obtain ⟨q1, d1, rfl, _⟩ := own1.ints
            obtain ⟨q2, d2, rfl, _⟩ := own2.ints
            go_wp2_with fail
            refine hK _ _ e3 ?_
            simp only [Act.put, List.setIfInBounds_toArray, List.set]
            refine wpAnyG_tail [10] 1 _ _ _ (by decide) (by kernel_rfl) ?_
            refine wpTail_free1 rfl (by kernel_rfl) ?_
            obtain ⟨z0, z1, z2, z3⟩ := bx.cell
            have y0 := bx.free 0
            have y1 := bx.free 1
            have y2 := bx.free 2
            have y3 := bx.free 3
            go_wp2_with fail
            refine OnlyN.mk ?_
            go_wp2_with fail
            go_meet
            case rel => exact ⟨w4.heap.size, _, _, rfl, Mk.fresh hle e3 bx own1 own2⟩
        · go_wp2_with fail
          refine hK _ _ (e1.trans ((Ext.refl _).alloc _)) ?_
          simp only [Act.put, List.setIfInBounds_toArray, List.set]
          have bx := box_new w3 (.int .i64 0) (.slice none 0 0) (.slice none 0 0) (.slice none 0 0)
          have e2 := e1.trans ((Ext.refl _).alloc (.cells #[.int .i64 0, .slice none 0 0, .slice none 0 0, .slice none 0 0] 26))
          have hle := e1.lt
          replace own1 := OwnI.same (Y := fun x => x = w3.heap.size) (w' := w3.alloc (.cells #[.int .i64 0, .slice none 0 0, .slice none 0 0, .slice none 0 0] 26)) own1 (fun g _ hlt _ => ⟨Below.heap_alloc _ _ _ hlt, by omega⟩)
          generalize w3.alloc (.cells #[.int .i64 0, .slice none 0 0, .slice none 0 0, .slice none 0 0] 26) = w4 at *
          refine wpAnyG_one (i := 7) (by kernel_rfl) ⟨_, rfl, fun K hK => ?_⟩
          refine wpList_append_nil rfl _ _ rfl F w1.heap.size (fun x => x = w3.heap.size) p2 k2 n rfl rfl (i2.ext (hE1.trans e2)) (fun x hx => by rw [hx]; exact bx.lt) hb2 e2.lt ?_
          intro v2 w5 own2 hs2
          have e3 := e2.trans hs2
          replace own1 := own1.ext hs2
          replace bx := bx.ext hs2
          refine hK _ _ e3 ?_
          simp only [Act.put, List.setIfInBounds_toArray, List.set]
          refine wpAnyG_one (i := 8) (by kernel_rfl) ⟨_, rfl, fun K hK => ?_⟩
          obtain ⟨q1, d1, rfl, _⟩ := own1.ints
          obtain ⟨q2, d2, rfl, _⟩ := own2.ints
          go_wp2_with fail
          refine hK _ _ e3 ?_
          simp only [Act.put, List.setIfInBounds_toArray, List.set]
          refine wpAnyG_tail [10] 1 _ _ _ (by decide) (by kernel_rfl) ?_
          refine wpTail_free1 rfl (by kernel_rfl) ?_
          obtain ⟨z0, z1, z2, z3⟩ := bx.cell
          have y0 := bx.free 0
          have y1 := bx.free 1
          have y2 := bx.free 2
          have y3 := bx.free 3
          go_wp2_with fail
          refine OnlyN.mk ?_
          go_wp2_with fail
          go_meet
          case rel => exact ⟨w3.heap.size, _, _, rfl, Mk.fresh hle e3 bx own1 own2⟩
      · go_wp2_with fail
        refine hK _ _ (e0.trans ((Ext.refl _).alloc _)) ?_
        simp only [Act.put, List.setIfInBounds_toArray, List.set]
        have bx := box_new w2 (.int .i64 0) (.slice none 0 0) (.slice none 0 0) (.slice none 0 0)
        have e1 := e0.trans ((Ext.refl _).alloc (.cells #[.int .i64 0, .slice none 0 0, .slice none 0 0, .slice none 0 0] 26))
        have hle := e0.lt
        generalize w2.alloc (.cells #[.int .i64 0, .slice none 0 0, .slice none 0 0, .slice none 0 0] 26) = w3 at *
        refine wpAnyG_one (i := 4) (by kernel_rfl) ⟨_, rfl, fun K hK => ?_⟩
        refine wpList_append_nil rfl _ _ rfl F w1.heap.size (fun x => x = w2.heap.size) p1 k1 s rfl rfl (i1.ext (hE1.trans e1)) (fun x hx => by rw [hx]; exact bx.lt) hb1 e1.lt ?_
        intro v1 w4 own1 hs1
        have e2 := e1.trans hs1
        replace bx := bx.ext hs1
        refine hK _ _ e2 ?_
        simp only [Act.put, List.setIfInBounds_toArray, List.set]
        refine wpAnyG_one (i := 7) (by kernel_rfl) ⟨_, rfl, fun K hK => ?_⟩
        refine wpList_append_nil rfl _ _ rfl F w1.heap.size (fun x => x = w2.heap.size) p2 k2 n rfl rfl (i2.ext (hE1.trans e2)) (fun x hx => by rw [hx]; exact bx.lt) hb2 e2.lt ?_
        intro v2 w5 own2 hs2
        have e3 := e2.trans hs2
        replace own1 := own1.ext hs2
        replace bx := bx.ext hs2
        refine hK _ _ e3 ?_
        simp only [Act.put, List.setIfInBounds_toArray, List.set]
        refine wpAnyG_one (i := 8) (by kernel_rfl) ⟨_, rfl, fun K hK => ?_⟩
        obtain ⟨q1, d1, rfl, _⟩ := own1.ints
        obtain ⟨q2, d2, rfl, _⟩ := own2.ints
        go_wp2_with fail
        refine hK _ _ e3 ?_
        simp only [Act.put, List.setIfInBounds_toArray, List.set]
        refine wpAnyG_tail [10] 1 _ _ _ (by decide) (by kernel_rfl) ?_
        refine wpTail_free1 rfl (by kernel_rfl) ?_
        obtain ⟨z0, z1, z2, z3⟩ := bx.cell
        have y0 := bx.free 0
        have y1 := bx.free 1
        have y2 := bx.free 2
        have y3 := bx.free 3
        go_wp2_with fail
        refine OnlyN.mk ?_
        go_wp2_with fail
        go_meet
        case rel => exact ⟨w2.heap.size, _, _, rfl, Mk.fresh hle e3 bx own1 own2⟩
    case rest =>
      obtain ⟨b, v1, v2, rfl, hM⟩ := hcut
      have HB1 := Lib.hid hB1
      have HB2 := Lib.hid hB2
      clear hB1 hB2 i1 i2
      go_wp2_with fail
      go_loopw [4] (fun i wr => ∃ (j : Nat) (v : Value), j ≤ it.length ∧ i = .int .i64 j ∧ Mk w1 wr b k v1 v2 v s n (it.take j)) (fun i _ => it.length - (intOf i).toNat)
      case atStart => exact ⟨0, _, Nat.zero_le _, rfl, hM⟩
      case round =>
        obtain ⟨j, v, hj, rfl, hMr⟩ := hrel
        clear hM
        obtain ⟨z0, z1, z2, z3⟩ := hMr.box.cell
        have hbx := HB1.out.ext hMr.ext
        obtain ⟨_, _, _, f3⟩ := hbx.cell
        by_cases hlt : j < it.length
        · have I3 := i3.ext hE1
          obtain ⟨bi, off, x0, x1, x2, x3, rfl, _, g0, g1, g2, g3, hx⟩ := ItemsAt.get it _ 0 j I3 hlt
          rw [Nat.zero_add] at g0 g1 g2 g3
          have HS : Hid (SizeOf.sizeOf it[j] < m) := by
            show _ < m
            have := List.sizeOf_lt_of_mem (List.getElem_mem hlt)
            simp at hm
            omega
          have HT : Hid (it.take (j + 1) = it.take j ++ [it[j]]) := List.take_succ_eq_append_getElem hlt
          clear I3
          generalize it[j] = x at *
          obtain ⟨y0, pp1, l1, u1, pp2, l2, u2, pp3, l3, u3, rfl, rfl, rfl, rfl⟩ := hx.form
          obtain ⟨_, _, _, f3'⟩ := HB1.out.cell
          clear hbx
          go_wp2_with fail
          clear f3
          have hS0 : Ext w1 wr.drew ∧ wr.drew.cell? ⟨b, 3, none⟩ = some v := ⟨hMr.ext.drew, z3⟩
          refine wp_region_g [0, 1, 2, 3, 4, 5, 6] [7, 8, 9, 10, 11] (fun w' => Ext w1 w' ∧ w'.cell? ⟨b, 3, none⟩ = some v) (by kernel_rfl) (by kernel_rfl) hS0 ?_
          iterate 7
            refine wpHead_cons (v := ?_) rfl (by rfl) (fun w' hS => ?_) ?_
            rotate_left
            · obtain ⟨hS1, hS2⟩ := hS
              have e0 := hS1.cell f3'
              have e1 := hS1.cell g0
              have e2 := hS1.cell g1
              have e3 := hS1.cell g2
              have e4 := hS1.cell g3
              go_simp
              try with_reducible rfl
            try simp only [Act.put, List.setIfInBounds_toArray, List.set]
          unfold wpHead
          refine wpTail_cons rfl (fun K hK => ?_)
          clear z0 z1 z2 z3 f3' g0 g1 g2 g3
          go_wp2_with fail
          refine (IH.out F x _ _ _ _ _ HS.out (hx.ext hS0.1)).mono ?_
          rintro e w3 ⟨y0, y1, y2, y3, rfl, hy, hE3⟩
          have hEr : Ext wr w3 := Ext.trans ((Ext.refl _).drew) hE3
          have hM3 := hMr.next hEr
          have hS3 : Ext w1 w3 ∧ w3.cell? ⟨b, 3, none⟩ = some v := ⟨hM3.ext, hM3.box.cell.2.2.2⟩
          go_wp2_with fail
          refine hK _ _ hS3 ?_
          try simp only [Act.put, List.setIfInBounds_toArray, List.set]
          refine wpTail_cons rfl (fun K hK => ?_)
          have hY : ArrAt (Apart w1.heap.size (XOf b v1 v2) v) w3 x y0 y1 y2 y3 := by
            obtain ⟨_, _, cells, hr, _⟩ := hMr.oa
            have hl := hr.lt
            have hX := XOf.lt hMr
            have h0 := hMr.ext.lt
            refine ArrAt.mono (fun q hq _ => ⟨⟨?_, fun hxx => ?_, fun hvv => ?_⟩, rfl⟩) x _ _ _ _ hy
            · exact Nat.le_trans h0 hq
            · exact absurd (hX q hxx) (Nat.not_lt.2 hq)
            · exact absurd (hl q hvv).2 (Nat.not_lt.2 hq)
          obtain ⟨yk, pq1, m1, n1, pq2, m2, n2, pq3, m3, n3, rfl, rfl, rfl, rfl⟩ := hY.form
          clear hx hy hE3
          go_wp2_with fail
          have hM4 := hM3.next ((Ext.refl _).alloc (.cells #[.int .i64 yk, .slice pq1 m1 n1, .slice pq2 m2 n2, .slice pq3 m3 n3] 26))
          have hbx4 := box_new w3 (.int .i64 yk) (.slice pq1 m1 n1) (.slice pq2 m2 n2) (.slice pq3 m3 n3)
          have hY4 := hY.ext ((Ext.refl _).alloc (.cells #[.int .i64 yk, .slice pq1 m1 n1, .slice pq2 m2 n2, .slice pq3 m3 n3] 26))
          generalize w3.alloc (.cells #[.int .i64 yk, .slice pq1 m1 n1, .slice pq2 m2 n2, .slice pq3 m3 n3] 26) = w4 at *
          refine hK _ _ ⟨hM4.ext, hM4.box.cell.2.2.2⟩ ?_
          try simp only [Act.put, List.setIfInBounds_toArray, List.set]
          refine wpTail_cons rfl (fun K hK => ?_)
          have hoa : OwnA w1.heap.size (XOf b v1 v2) w4 v j (it.take j) := by
            have := hM4.oa
            rwa [List.length_take, Nat.min_eq_left hj] at this
          refine wpList_append_arr rfl _ _ rfl w1.heap.size (XOf b v1 v2) v j (it.take j) x _ _ _ _ rfl hoa _ _ rfl hbx4 (XOf.lt hM4) hY4 (by omega) hM4.ext.lt ?_
          intro g cap w5 hoa5 hgrow _ _ _
          obtain ⟨q1, q2, q3, q4⟩ := hM4.grown hgrow
          obtain ⟨_, _, _, t3⟩ := q2.cell
          have tf := q2.free 3
          have hM5 := Mk.stored (v' := .slice (some ⟨g, 0, none⟩) (j + 1) cap) (l' := it.take (j + 1)) hM4.le q1 q2 q3 q4 (by
            rw [HT.out]
            have hlen : (it.take j ++ [x]).length = j + 1 := by simp; omega
            rw [hlen]; exact hoa5)
          refine hK _ _ ⟨q1, t3⟩ ?_
          try simp only [Act.put, List.setIfInBounds_toArray, List.set]
          refine wpTail_free2 rfl rfl (by kernel_rfl) ?_
          clear hM3 hM4 hbx4 hY4 hY hoa hoa5 hgrow q1 q2 q3 q4 hS0 hS3 hMr
          go_wp2_with fail
          refine OnlyN.mk ?_
          go_wp2_with fail
          go_roundw
          case rel => exact ⟨j + 1, _, by omega, by go_num, hM5⟩
          case measure => simp [intOf]; omega
        · have hfin : it.take j = it := List.take_of_length_le (by omega)
          rw [hfin] at hMr
          obtain ⟨⟨r1, d1, rfl⟩, ⟨r2, d2, rfl⟩, ⟨r3, d3, rfl⟩⟩ := hMr.forms
          have hbx2 := HB2.out.ext hMr.ext
          obtain ⟨s0, s1, s2, s3⟩ := hbx2.cell
          have y0 := hbx2.free 0
          have y1 := hbx2.free 1
          have y2 := hbx2.free 2
          have y3 := hbx2.free 3
          have hA := hMr.arr' hk (by omega)
          have hEw := hE1.trans hMr.ext
          have hne : b ≠ w.heap.size + 1 := by have := hMr.le; have := HSZ.out; omega
          clear hfin hbx i3
          have hR := (((hbx2.set0 (.int .i64 k)).set1 (.slice r1 s.length d1)).set2 (.slice r2 n.length d2)).set3 (.slice r3 it.length d3)
          have hA2 := ArrAt.mono (G := fun x => w.heap.size ≤ x) (w' := (((wr.setCell ⟨w.heap.size + 1, 0, none⟩ (.int .i64 k)).setCell ⟨w.heap.size + 1, 1, none⟩ (.slice r1 s.length d1)).setCell ⟨w.heap.size + 1, 2, none⟩ (.slice r2 n.length d2)).setCell ⟨w.heap.size + 1, 3, none⟩ (.slice r3 it.length d3)) (fun x hx _ => by
            have h1 := HSZ.out
            have h2 : x ≠ w.heap.size + 1 := by omega
            exact ⟨by omega, by rw [Below.heap_setCell _ _ _ _ h2, Below.heap_setCell _ _ _ _ h2, Below.heap_setCell _ _ _ _ h2, Below.heap_setCell _ _ _ _ h2]⟩) _ _ _ _ _ hA
          have hE9 : Ext w ((((wr.setCell ⟨w.heap.size + 1, 0, none⟩ (.int .i64 k)).setCell ⟨w.heap.size + 1, 1, none⟩ (.slice r1 s.length d1)).setCell ⟨w.heap.size + 1, 2, none⟩ (.slice r2 n.length d2)).setCell ⟨w.heap.size + 1, 3, none⟩ (.slice r3 it.length d3)) :=
            (((hEw.setCell (p := ⟨w.heap.size + 1, 0, none⟩) (by simp) _).setCell (p := ⟨w.heap.size + 1, 1, none⟩) (by simp) _).setCell (p := ⟨w.heap.size + 1, 2, none⟩) (by simp) _).setCell (p := ⟨w.heap.size + 1, 3, none⟩) (by simp) _
          go_wp2_with fail
          generalize (((wr.setCell ⟨w.heap.size + 1, 0, none⟩ (.int .i64 k)).setCell ⟨w.heap.size + 1, 1, none⟩ (.slice r1 s.length d1)).setCell ⟨w.heap.size + 1, 2, none⟩ (.slice r2 n.length d2)).setCell ⟨w.heap.size + 1, 3, none⟩ (.slice r3 it.length d3) = w9 at *
          obtain ⟨t0, t1, t2, t3⟩ := hR.cell
          refine bodyPost_ret (v := .agg #[.int .i64 k, .slice r1 s.length d1, .slice r2 n.length d2, .slice r3 it.length d3]) ?_ rfl ⟨_, _, _, _, rfl, hA2, hE9⟩
          simp [results, Try.results20, go_sem, t0, t1, t2, t3]
end Go.Proofs.Ytgkemmdghmklfaa

