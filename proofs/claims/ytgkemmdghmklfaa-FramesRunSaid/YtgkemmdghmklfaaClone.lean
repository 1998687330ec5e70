/-
  THE WALK of array.Clone.
-/
import Derived.Test.YtgkemmdghmklfaaRClone
import Derived.Deep.RegionHeld3
namespace Go.Proofs.Ytgkemmdghmklfaa
set_option linter.unusedSimpArgs false
set_option linter.unusedVariables false
open Go.RowKit

/-- Four new blocks, in whatever order: a box over three made rows. -/
structure Made3 (w0 w : World) (b g1 g2 g3 : Nat) (n1 n2 n3 : Nat) : Prop where
  ext : Ext w0 w
  lb : w0.heap.size ≤ b
  l1 : w0.heap.size ≤ g1
  l2 : w0.heap.size ≤ g2
  l3 : w0.heap.size ≤ g3
  db : b ≠ g1 ∧ b ≠ g2 ∧ b ≠ g3
  d1 : g1 ≠ g2 ∧ g1 ≠ g3 ∧ g2 ≠ g3
  r1 : w.heap[g1]? = some (.cells (madeCells #[.int .i64 0] n1) 3 (0, 0))
  r2 : w.heap[g2]? = some (.cells (madeCells #[.int .i64 0] n2) 3 (0, 0))
  r3 : w.heap[g3]? = some (.cells (madeCells #[.int .i64 0, .slice none 0 0, .slice none 0 0, .slice none 0 0] (n3 * 4)) 26 (0, 0))

theorem made3 {w1 w : World} {k : Int} {b g1 g2 g3 n1 n2 n3 : Nat} (hE : Ext w1 w) (hb : w.heap[b]? = some (.cells #[.int .i64 k, .slice (some ⟨g1, 0, none⟩) n1 n1, .slice (some ⟨g2, 0, none⟩) n2 n2, .slice (some ⟨g3, 0, none⟩) n3 n3] 26 (0, 0)))
    (r1 : w.heap[g1]? = some (.cells (madeCells #[.int .i64 0] n1) 3 (0, 0))) (r2 : w.heap[g2]? = some (.cells (madeCells #[.int .i64 0] n2) 3 (0, 0)))
    (r3 : w.heap[g3]? = some (.cells (madeCells #[.int .i64 0, .slice none 0 0, .slice none 0 0, .slice none 0 0] (n3 * 4)) 26 (0, 0)))
    (hl : w1.heap.size ≤ b ∧ w1.heap.size ≤ g1 ∧ w1.heap.size ≤ g2 ∧ w1.heap.size ≤ g3) (hd : b ≠ g1 ∧ b ≠ g2 ∧ b ≠ g3 ∧ g1 ≠ g2 ∧ g1 ≠ g3 ∧ g2 ≠ g3) :
    ∃ (b' g1' g2' g3' : Nat), Value.pointer (some ⟨b, 0, none⟩) = .pointer (some ⟨b', 0, none⟩) ∧ Made3 w1 w b' g1' g2' g3' n1 n2 n3 ∧ Box4 w b' (.int .i64 k) (.slice (some ⟨g1', 0, none⟩) n1 n1) (.slice (some ⟨g2', 0, none⟩) n2 n2) (.slice (some ⟨g3', 0, none⟩) n3 n3) :=
  ⟨b, g1, g2, g3, rfl, ⟨hE, hl.1, hl.2.1, hl.2.2.1, hl.2.2.2, ⟨hd.1, hd.2.1, hd.2.2.1⟩, hd.2.2.2, r1, r2, r3⟩, hb⟩

theorem Made3.copied1 {w0 w w' : World} {b g1 g2 g3 n1 n2 n3 : Nat} {c0 c1 c2 c3 : Value} (h : Made3 w0 w b g1 g2 g3 n1 n2 n3) (hb : Box4 w b c0 c1 c2 c3) (hg : w.grownBy w' (some g1)) :
    Ext w0 w' ∧ Box4 w' b c0 c1 c2 c3 ∧ w'.heap[g2]? = some (.cells (madeCells #[.int .i64 0] n2) 3 (0, 0)) ∧ w'.heap[g3]? = some (.cells (madeCells #[.int .i64 0, .slice none 0 0, .slice none 0 0, .slice none 0 0] (n3 * 4)) 26 (0, 0)) := by
  have lt2 : g2 < w.heap.size := (Array.getElem?_eq_some_iff.1 h.r2).1
  have lt3 : g3 < w.heap.size := (Array.getElem?_eq_some_iff.1 h.r3).1
  have bl : ∀ q, q < w.heap.size → q ≠ g1 → w'.heap[q]? = w.heap[q]? := fun q hq hne => hg.block q hq (fun e => hne (by simpa using e))
  exact ⟨h.ext.grown hg h.ext.lt (fun q e => by cases e; exact h.l1), hb.kept (bl b hb.lt h.db.1), (bl g2 lt2 h.d1.1.symm).trans h.r2, (bl g3 lt3 h.d1.2.1.symm).trans h.r3⟩

/-- Behind both copies. -/
theorem Made3.copied2 {w0 w w2 w3 : World} {b g1 g2 g3 n3 : Nat} {k : Int} {s n : List Int} (h : Made3 w0 w b g1 g2 g3 s.length n.length n3)
    (hb : Box4 w2 b (.int .i64 k) (.slice (some ⟨g1, 0, none⟩) s.length s.length) (.slice (some ⟨g2, 0, none⟩) n.length n.length) (.slice (some ⟨g3, 0, none⟩) n3 n3)) (hE : Ext w0 w2)
    (row1 : w2.heap[g1]? = some (.cells (s.map (Value.int .i64)).toArray 3 (0, 0))) (row3 : w2.heap[g3]? = some (.cells (madeCells #[.int .i64 0, .slice none 0 0, .slice none 0 0, .slice none 0 0] (n3 * 4)) 26 (0, 0)))
    (row2 : w3.heap[g2]? = some (.cells (n.map (Value.int .i64)).toArray 3 (0, 0))) (hg : w2.grownBy w3 (some g2)) (hn3 : n3 ≤ 9223372036854775807)
    (hs : ∀ x ∈ s, -9223372036854775808 ≤ x ∧ x ≤ 9223372036854775807) (hn : ∀ x ∈ n, -9223372036854775808 ≤ x ∧ x ≤ 9223372036854775807) (ls : s.length ≤ 17592186044416) (ln : n.length ≤ 17592186044416) :
    MkA w0 w3 b k (.slice (some ⟨g1, 0, none⟩) s.length s.length) (.slice (some ⟨g2, 0, none⟩) n.length n.length) g3 n3 s n [] := by
  have lt1 : g1 < w2.heap.size := (Array.getElem?_eq_some_iff.1 row1).1
  have lt3 : g3 < w2.heap.size := (Array.getElem?_eq_some_iff.1 row3).1
  have bl : ∀ q, q < w2.heap.size → q ≠ g2 → w3.heap[q]? = w2.heap[q]? := fun q hq hne => hg.block q hq (fun e => hne (by simpa using e))
  have q3 := (bl g3 lt3 h.d1.2.2.symm).trans row3
  refine ⟨hE.grown hg hE.lt (fun q e => by cases e; exact h.l2), h.lb, hb.kept (bl b hb.lt h.db.2.1), OwnI.of_row ((bl g1 lt1 h.d1.1).trans row1) rfl ls h.l1 (fun e => h.db.1 e.symm) hs, OwnI.of_row row2 rfl ln h.l2 (fun e => h.db.2.1 e.symm) hn, ?_, by simp, _, ⟨?_, .inr ⟨g3, n3, _, rfl, h.l3, q3, Nat.le_refl _, by unfold maxLen; omega, by rw [madeCells_size], List.take_of_length_le (by rw [Array.length_toList, madeCells_size]; exact Nat.le_refl _)⟩⟩, ?_⟩
  · rintro (e | e | e)
    · exact h.db.2.2 e.symm
    · simp only [Value.ownBlock, Option.some.injEq] at e
      exact h.d1.2.1 e
    · simp only [Value.ownBlock, Option.some.injEq] at e
      exact h.d1.2.2 e
  · rw [Array.length_toList, madeCells_size]
  · simp only [List.length_nil, Nat.zero_mul, List.take_zero]
    unfold CellsRead
    trivial

theorem heap4 (w : World) (A B C D : Obj) : ((((w.alloc A).alloc B).alloc C).alloc D).drew.heap[w.heap.size]? = some A ∧ ((((w.alloc A).alloc B).alloc C).alloc D).drew.heap[w.heap.size + 1]? = some B ∧
    ((((w.alloc A).alloc B).alloc C).alloc D).drew.heap[w.heap.size + 1 + 1]? = some C ∧ ((((w.alloc A).alloc B).alloc C).alloc D).drew.heap[w.heap.size + 1 + 1 + 1]? = some D ∧ Ext w ((((w.alloc A).alloc B).alloc C).alloc D).drew := by
  refine ⟨?_, ?_, ?_, ?_, ((((Ext.refl _).alloc _).alloc _).alloc _).alloc _ |>.drew⟩
  · show ((((w.alloc A).alloc B).alloc C).alloc D).heap[w.heap.size]? = some A
    rw [Below.heap_alloc _ _ _ (by simp <;> omega), Below.heap_alloc _ _ _ (by simp <;> omega), Below.heap_alloc _ _ _ (by simp), heap_alloc_new]
  · show ((((w.alloc A).alloc B).alloc C).alloc D).heap[w.heap.size + 1]? = some B
    have h := heap_alloc_new (w.alloc A) B
    rw [World.size_alloc] at h
    rw [Below.heap_alloc _ _ _ (by simp <;> omega), Below.heap_alloc _ _ _ (by simp), h]
  · show ((((w.alloc A).alloc B).alloc C).alloc D).heap[w.heap.size + 1 + 1]? = some C
    have h := heap_alloc_new ((w.alloc A).alloc B) C
    rw [World.size_alloc, World.size_alloc] at h
    rw [Below.heap_alloc _ _ _ (by simp), h]
  · show ((((w.alloc A).alloc B).alloc C).alloc D).heap[w.heap.size + 1 + 1 + 1]? = some D
    have h := heap_alloc_new (((w.alloc A).alloc B).alloc C) D
    rw [World.size_alloc, World.size_alloc, World.size_alloc] at h
    exact h

set_option maxRecDepth 100000 in
set_option maxHeartbeats 8000000 in
theorem clone_any : ∀ (m : Nat) (F : Nat → Prop) (t : Arr) (c0 c1 c2 c3 : Value) (w : World), SizeOf.sizeOf t < m → ArrAt F w t c0 c1 c2 c3 →
    Calls Try.prog 74 #[.agg #[c0, c1, c2, c3]] w (GivesArr t w) := by
  intro m
  induction m with
  | zero => intro F t c0 c1 c2 c3 w hm; omega
  | succ m ih =>
    intro F t c0 c1 c2 c3 w hm h
    have IH := Lib.hid ih
    clear ih
    obtain ⟨k, s, n, it⟩ := t
    unfold ArrAt at h
    obtain ⟨rfl, hk, ⟨p1, k1, rfl, ⟨o1, o1', o1''⟩, i1⟩, ⟨p2, k2, rfl, ⟨o2, o2', o2''⟩, i2⟩, ⟨p3, k3, rfl, ⟨o3, o3', o3''⟩, i3⟩⟩ := h
    have hb1 : s.length ≤ lenMax := by unfold lenMax; omega
    have hb2 : n.length ≤ lenMax := by unfold lenMax; omega
    have hB1 := box_new w (.int .i64 k) (.slice p1 s.length k1) (.slice p2 n.length k2) (.slice p3 it.length k3)
    have hB2 := box_new (w.alloc (.cells #[.int .i64 k, .slice p1 s.length k1, .slice p2 n.length k2, .slice p3 it.length k3] 26)) (.int .i64 0) (.slice none 0 0) (.slice none 0 0) (.slice none 0 0)
    have hE1 : Ext w ((w.alloc (.cells #[.int .i64 k, .slice p1 s.length k1, .slice p2 n.length k2, .slice p3 it.length k3] 26)).alloc (.cells #[.int .i64 0, .slice none 0 0, .slice none 0 0, .slice none 0 0] 26)) := ((Ext.refl _).alloc _).alloc _
    replace hB1 := hB1.ext ((Ext.refl _).alloc (.cells #[.int .i64 0, .slice none 0 0, .slice none 0 0, .slice none 0 0] 26))
    rw [World.size_alloc] at hB2
    have hmk : ∀ (q : Nat), q ≤ 17592186044416 → ∀ (w : World), (Instr.makeSlice 23 (.int .i64 (q : Int)) (.int .i64 (q : Int))).run Try.prog w = .ok (.slice (some ⟨w.heap.size, 0, none⟩) q q) (w.alloc (.cells (madeCells #[.int .i64 0] q) 3)) := by
      intro q hq w
      obtain ⟨i0, hi, hz0, hz1, hz2⟩ := info_parts infoI
      have := run_make (P := Try.prog) w 23 3 i0 (.int .i64 0) Try.underlying23 hi hz0 .i64 .i64 q q (by omega) (by omega) (by rw [hz2]; omega) (by omega)
      rw [hz1] at this
      simpa [Value.cells] using this
    have hmk3 : ∀ (w : World), (Instr.makeSlice 24 (.int .i64 (it.length : Int)) (.int .i64 (it.length : Int))).run Try.prog w = .ok (.slice (some ⟨w.heap.size, 0, none⟩) it.length it.length) (w.alloc (.cells (madeCells #[.int .i64 0, .slice none 0 0, .slice none 0 0, .slice none 0 0] (it.length * 4)) 26)) := by
      intro w
      obtain ⟨i0, hi, hz0, hz1, hz2⟩ := info_parts infoA
      have := run_make (P := Try.prog) w 24 26 i0 _ Try.underlying24 hi hz0 .i64 .i64 it.length it.length (by omega) (by omega) (by rw [hz2]; omega) (by omega)
      rw [hz1] at this
      simpa [Value.cells] using this
    have hmk1 := hmk s.length (by omega)
    have hmk2 := hmk n.length (by omega)
    clear hmk
    go_enter Try.func74, Try.ntmps74
    go_wp2_with fail
    generalize hw1 : (w.alloc (.cells #[.int .i64 k, .slice p1 s.length k1, .slice p2 n.length k2, .slice p3 it.length k3] 26)).alloc (.cells #[.int .i64 0, .slice none 0 0, .slice none 0 0, .slice none 0 0] 26) = w1 at hB1 hB2 hE1 ⊢
    have hsz : w1.heap.size = w.heap.size + 2 := by rw [← hw1]; simp
    have HSZ := Lib.hid hsz
    clear hw1 hsz
    go_cut [3] (fun s3 wx => ∃ (b g1 g2 g3 : Nat), s3 = .pointer (some ⟨b, 0, none⟩) ∧ Made3 w1 wx b g1 g2 g3 s.length n.length it.length ∧ Box4 wx b (.int .i64 k) (.slice (some ⟨g1, 0, none⟩) s.length s.length) (.slice (some ⟨g2, 0, none⟩) n.length n.length) (.slice (some ⟨g3, 0, none⟩) it.length it.length))
    case first =>
      obtain ⟨f0, f1, f2, f3⟩ := hB1.cell
      clear hB1 hB2 IH i1 i2 i3
      go_region_held3 (fun w' => w'.cell? ⟨w.heap.size, 0, none⟩ = some (.int .i64 k) ∧ w'.cell? ⟨w.heap.size, 1, none⟩ = some (.slice p1 s.length k1) ∧ w'.cell? ⟨w.heap.size, 2, none⟩ = some (.slice p2 n.length k2) ∧ w'.cell? ⟨w.heap.size, 3, none⟩ = some (.slice p3 it.length k3)) (refine ⟨Ext.cell (w := w1) ?_ f0, Ext.cell (w := w1) ?_ f1, Ext.cell (w := w1) ?_ f2, Ext.cell (w := w1) ?_ f3⟩ <;> (repeat (first | exact Ext.refl _ | apply Ext.drew | apply Ext.alloc | (refine Below.setCell (B := w1.heap.size) ?_ (by simp; done) _) | (refine Below.setCell (B := w1.heap.size) ?_ (by simp; omega) _)))) (fail)
      all_goals go_wp2_with fail
      all_goals go_meet
      all_goals
        obtain ⟨q0, q1, q2, q3, hE⟩ := heap4 w1 _ _ _ _
        refine @made3 _ _ _ _ ?_ ?_ ?_ _ _ _ hE ?_ ?_ ?_ ?_ ?_ ?_
        rotate_left 3
        · first | (with_reducible exact q0) | (with_reducible exact q1) | (with_reducible exact q2) | (with_reducible exact q3)
        · first | (with_reducible exact q0) | (with_reducible exact q1) | (with_reducible exact q2) | (with_reducible exact q3)
        · first | (with_reducible exact q0) | (with_reducible exact q1) | (with_reducible exact q2) | (with_reducible exact q3)
        · first | (with_reducible exact q0) | (with_reducible exact q1) | (with_reducible exact q2) | (with_reducible exact q3)
        · omega
        · omega
    case rest =>
      obtain ⟨b, g1, g2, g3, rfl, hM, hbx⟩ := hcut
      have HB1 := Lib.hid hB1
      have HB2 := Lib.hid hB2
      obtain ⟨_, e1, _, _⟩ := (hB1.ext hM.ext).cell
      obtain ⟨_, z1, _, _⟩ := hbx.cell
      have D1 := Lib.hid (IntsAt.wf i1)
      have D2 := Lib.hid (IntsAt.wf i2)
      have R1 := Lib.hid hM.r1
      clear hB1 hB2 hmk1 hmk2 hmk3
      go_wp2_with (first | (refine wpList_copy_ints (o := ⟨some 25, _, _, _, _, _⟩) rfl _ _ rfl F p1 k1 g1 s rfl rfl (i1.ext (hE1.trans hM.ext)) R1.out ?_; intro w2 row1 gr1; obtain ⟨hX2, hbx2, R2', R3'⟩ := Made3.copied1 hM hbx gr1; obtain ⟨_, _, e2, _⟩ := (HB1.out.ext hX2).cell; obtain ⟨_, _, z2, _⟩ := hbx2.cell; replace row1 := Lib.hid row1; replace R2' := Lib.hid R2'; replace R3' := Lib.hid R3') | (refine wpList_copy_ints (o := ⟨some 30, _, _, _, _, _⟩) rfl _ _ rfl F p2 k2 g2 n rfl rfl (i2.ext (hE1.trans hX2)) R2'.out ?_; intro w3 row2 gr2; have hA := Made3.copied2 hM hbx2 hX2 row1.out R3'.out row2 gr2 (by omega) D1.out D2.out hb1 hb2; clear row2; obtain ⟨_, _, _, e3⟩ := (HB1.out.ext hA.ext).cell))
      have HA := Lib.hid hA
      clear e1 e2 e3 z1 z2 hbx hbx2 hM row1 R1 R2' R3' hA D1 D2 i1 i2 gr1 gr2 hX2
      go_loopw [34] (fun i wr => ∃ j : Nat, j ≤ it.length ∧ i = .int .i64 j ∧ MkA w1 wr b k (.slice (some ⟨g1, 0, none⟩) s.length s.length) (.slice (some ⟨g2, 0, none⟩) n.length n.length) g3 it.length s n (it.take j)) (fun i _ => it.length - (intOf i).toNat)
      case atStart => exact ⟨0, Nat.zero_le _, rfl, HA.out⟩
      case round =>
        obtain ⟨j, hj, rfl, hMr⟩ := hrel
        clear HA
        by_cases hlt : j < it.length
        · have I3 := i3.ext (hE1.trans hMr.ext)
          obtain ⟨bi, off, x0, x1, x2, x3, rfl, _, q0, q1, q2, q3, hx⟩ := ItemsAt.get it _ 0 j I3 hlt
          rw [Nat.zero_add] at q0 q1 q2 q3
          have HS : Hid (SizeOf.sizeOf it[j] < m) := by
            show _ < m
            have := List.sizeOf_lt_of_mem (List.getElem_mem hlt)
            simp at hm
            omega
          have HT : Hid (it.take (j + 1) = it.take j ++ [it[j]]) := List.take_succ_eq_append_getElem hlt
          clear I3
          generalize it[j] = x at *
          obtain ⟨y0, pp1, l1, u1, pp2, l2, u2, pp3, l3, u3, rfl, rfl, rfl, rfl⟩ := hx.form
          go_wp2_with fail
          have hbn := box_new wr (.int .i64 y0) (.slice pp1 l1 u1) (.slice pp2 l2 u2) (.slice pp3 l3 u3)
          have hE4 : Ext wr (wr.alloc (.cells #[.int .i64 y0, .slice pp1 l1 u1, .slice pp2 l2 u2, .slice pp3 l3 u3] 26)) := (Ext.refl _).alloc _
          generalize wr.alloc (.cells #[.int .i64 y0, .slice pp1 l1 u1, .slice pp2 l2 u2, .slice pp3 l3 u3] 26) = w4 at *
          have hM4 := hMr.next hE4
          obtain ⟨t0, t1, t2, t3⟩ := hbn.cell
          obtain ⟨_, _, _, z3⟩ := hM4.box.cell
          have hx4 := hx.ext hE4
          refine wp_region_g [0, 1, 2, 3] [4, 5, 6] (fun w' => Ext w4 w') (by kernel_rfl) (by kernel_rfl) ((Ext.refl _).drew) ?_
          iterate 4
            refine wpHead_cons (v := ?_) rfl (by rfl) (fun w' hS => ?_) ?_
            rotate_left
            · have e0 := hS.cell t0
              have e1 := hS.cell t1
              have e2 := hS.cell t2
              have e3 := hS.cell t3
              have e4 := hS.cell z3
              go_simp
              try with_reducible rfl
            try simp only [Act.put, List.setIfInBounds_toArray, List.set]
          unfold wpHead
          refine wpTail_cons rfl (fun K hK => ?_)
          clear q0 q1 q2 q3 t0 t1 t2 t3 z3 hbn
          go_wp2_with fail
          refine (IH.out F x _ _ _ _ _ HS.out (hx4.ext ((Ext.refl _).drew))).mono ?_
          rintro e w5 ⟨c0, c1, c2, c3, rfl, hy, hE5⟩
          have hE6 : Ext w4 w5 := Ext.trans ((Ext.refl _).drew) hE5
          have hM5 := hM4.next hE6
          go_wp2_with fail
          refine hK _ _ hE6 ?_
          try simp only [Act.put, List.setIfInBounds_toArray, List.set]
          have hlen : (it.take j).length = j := by simp; omega
          have hY : ArrAt (Apart w1.heap.size (XOf b (.slice (some ⟨g1, 0, none⟩) s.length s.length) (.slice (some ⟨g2, 0, none⟩) n.length n.length)) (.slice (some ⟨g3, 0, none⟩) it.length it.length)) w5 x c0 c1 c2 c3 := by
            have hd := hM4.apart
            refine ArrAt.mono (fun q hq _ => ⟨hd q hq, rfl⟩) x _ _ _ _ hy
          have hM6 := hM5.stored (by omega) hY
          rw [hlen, ← HT.out] at hM6
          obtain ⟨yk, pq1, m1, n1, pq2, m2, n2, pq3, m3, n3, rfl, rfl, rfl, rfl⟩ := hY.form
          obtain ⟨⟨u0, f0⟩, ⟨u1, f1⟩, ⟨u2, f2⟩, ⟨u3, f3⟩, ff⟩ := hM5.slot (j := j) (by omega)
          have fr0 := ff (j * 4)
          have fr1 := ff (j * 4 + 1)
          have fr2 := ff (j * 4 + 2)
          have fr3 := ff (j * 4 + 3)
          clear ff
          have HM6 := Lib.hid hM6
          clear hM4 hM5 hM6 hY hy hx4 hx hMr hE4 hE5 hE6 hlen HT HS IH
          refine wpTail_free2 rfl rfl (by kernel_rfl) ?_
          go_wp2_with fail
          refine OnlyN.mk ?_
          go_wp2_with fail
          go_roundw
          case rel => exact ⟨j + 1, by omega, by go_num, HM6.out⟩
          case measure => simp [intOf]; omega
        · have hfin : it.take j = it := List.take_of_length_le (by omega)
          rw [hfin] at hMr
          replace hMr := hMr.done rfl
          obtain ⟨z0, z1, z2, z3⟩ := hMr.box.cell
          obtain ⟨_, _, _, f3⟩ := (HB1.out.ext hMr.ext).cell
          have hbx2 := HB2.out.ext hMr.ext
          obtain ⟨s0, s1, s2, s3⟩ := hbx2.cell
          have y0 := hbx2.free 0
          have y1 := hbx2.free 1
          have y2 := hbx2.free 2
          have y3 := hbx2.free 3
          have hA := hMr.arr' hk (by omega)
          have hEw := hE1.trans hMr.ext
          have hne : b ≠ w.heap.size + 1 := by have := hMr.le; have := HSZ.out; omega
          clear hfin i3
          have hR := (((hbx2.set0 (.int .i64 k)).set1 (.slice (some ⟨g1, 0, none⟩) s.length s.length)).set2 (.slice (some ⟨g2, 0, none⟩) n.length n.length)).set3 (.slice (some ⟨g3, 0, none⟩) it.length it.length)
          have hA2 := ArrAt.mono (G := fun x => w.heap.size ≤ x) (w' := (((wr.setCell ⟨w.heap.size + 1, 0, none⟩ (.int .i64 k)).setCell ⟨w.heap.size + 1, 1, none⟩ (.slice (some ⟨g1, 0, none⟩) s.length s.length)).setCell ⟨w.heap.size + 1, 2, none⟩ (.slice (some ⟨g2, 0, none⟩) n.length n.length)).setCell ⟨w.heap.size + 1, 3, none⟩ (.slice (some ⟨g3, 0, none⟩) it.length it.length)) (fun x hx _ => by
            have h1 := HSZ.out
            have h2 : x ≠ w.heap.size + 1 := by omega
            exact ⟨by omega, by rw [Below.heap_setCell _ _ _ _ h2, Below.heap_setCell _ _ _ _ h2, Below.heap_setCell _ _ _ _ h2, Below.heap_setCell _ _ _ _ h2]⟩) _ _ _ _ _ hA
          have hE9 : Ext w ((((wr.setCell ⟨w.heap.size + 1, 0, none⟩ (.int .i64 k)).setCell ⟨w.heap.size + 1, 1, none⟩ (.slice (some ⟨g1, 0, none⟩) s.length s.length)).setCell ⟨w.heap.size + 1, 2, none⟩ (.slice (some ⟨g2, 0, none⟩) n.length n.length)).setCell ⟨w.heap.size + 1, 3, none⟩ (.slice (some ⟨g3, 0, none⟩) it.length it.length)) :=
            (((hEw.setCell (p := ⟨w.heap.size + 1, 0, none⟩) (by simp) _).setCell (p := ⟨w.heap.size + 1, 1, none⟩) (by simp) _).setCell (p := ⟨w.heap.size + 1, 2, none⟩) (by simp) _).setCell (p := ⟨w.heap.size + 1, 3, none⟩) (by simp) _
          go_wp2_with fail
          generalize (((wr.setCell ⟨w.heap.size + 1, 0, none⟩ (.int .i64 k)).setCell ⟨w.heap.size + 1, 1, none⟩ (.slice (some ⟨g1, 0, none⟩) s.length s.length)).setCell ⟨w.heap.size + 1, 2, none⟩ (.slice (some ⟨g2, 0, none⟩) n.length n.length)).setCell ⟨w.heap.size + 1, 3, none⟩ (.slice (some ⟨g3, 0, none⟩) it.length it.length) = w9 at *
          obtain ⟨t0, t1, t2, t3⟩ := hR.cell
          refine bodyPost_ret (v := .agg #[.int .i64 k, .slice (some ⟨g1, 0, none⟩) s.length s.length, .slice (some ⟨g2, 0, none⟩) n.length n.length, .slice (some ⟨g3, 0, none⟩) it.length it.length]) ?_ rfl ⟨_, _, _, _, rfl, hA2, hE9⟩
          simp [results, Try.results74, go_sem, t0, t1, t2, t3]
end Go.Proofs.Ytgkemmdghmklfaa

