/-
  frames.Arrays. (Printed by gen_farrs.py.)
-/
import Derived.Test.YtgkemmdghmklfaaFArrL
namespace Go.Proofs.Ytgkemmdghmklfaa
set_option linter.unusedSimpArgs false
set_option linter.unusedVariables false
open Go.RowKit Go.Shelf
attribute [local go_sem] Oper.semAt_some

theorem frozen_of_block2 {w w' : World} {b o : Nat} (h : w'.heap[b]? = w.heap[b]?) : w'.frozen? ⟨b, o, none⟩ = w.frozen? ⟨b, o, none⟩ := by
  simp only [World.frozen?, h]
theorem own_cells {B : Nat} {X : Nat → Prop} {w : World} {v : Value} {n : Nat} {l : List Arr} {g : Nat} {o : Obj} (h : Fz.OwnA B X w v n l) (e : v.ownBlock = some g) (ho : w.heap[g]? = some o) : o.isCells = true := by
  obtain ⟨_, _, cells, h3, _⟩ := h
  rcases h3.2 with ⟨rfl, _⟩ | ⟨g', cap, cur, rfl, hb, hgg, _⟩
  · simp [Value.ownBlock] at e
  · simp only [Value.ownBlock, Option.some.injEq] at e
    subst e
    rw [hgg] at ho
    cases ho
    rfl
theorem below_two {B : Nat} {w W W' : World} (h1 : Below B w W) (h2 : Below B w W') (hs : W.heap.size ≤ W'.heap.size) : Below B W W' :=
  ⟨h2.1.trans h1.1.symm, h2.2.trans h1.2.symm, h2.3.trans h1.3.symm, hs, fun k hk => (h2.block k hk).trans (h1.block k hk).symm⟩

set_option maxRecDepth 100000 in
set_option maxHeartbeats 4000000 in
theorem arrs_anyF (F : Nat → Prop) (p0 : Option Addr) (l : List (Nat × List Slot)) (hl : l.length ≤ 1000) (w : World) (hL : IsFr F w p0 l) :
    Calls Try.prog 26 #[.pointer p0] w fun e W' => ∃ p c, e = .returned (.slice p (frArrs l).length c) ∧ ItOk (frArrs l).length c ∧ ItemsAt (fun b => w.heap.size ≤ b ∧ Fz.NoFz W' b) W' p 0 (frArrs l) ∧ Ext w W' := by
  have hbl : (l.map Prod.fst).length ≤ 1000000 := by simp; omega
  refine (callsIn_wide (n := 5)).1 ?_
  refine callsIn_of_wp_marks Try.func26 rfl trivial ?_ rfl
  simp only [Try.ntmps26, List.size_toArray, List.length_cons, List.length_nil, Nat.reduceAdd, Nat.reduceSub, Array.replicate_succ, Array.replicate_zero, List.push_toArray, List.append_toArray, List.nil_append, List.cons_append]
  gi_wp2_with (refine ⟨trivial, ?_⟩; gi_at_call 72; refine (around_in _ _ _).mono ?_; rintro e w' ⟨rfl, rfl⟩)
  obtain ⟨w1, h1⟩ : ∃ wx : World, wx = w.alloc (.cells #[.slice none 0 0] 24) := ⟨_, rfl⟩
  rw [← h1]
  have z1 : w1.heap.size = w.heap.size + 1 := by rw [h1, World.size_alloc]
  have e1 : Ext w w1 := by rw [h1]; exact (Ext.refl _).alloc _
  have r1 : RowC 24 w1 (w.heap.size) [.slice none 0 0] := by rw [h1]; exact RowC.new _ _ _
  clear h1
  obtain ⟨w2, h2⟩ : ∃ wx : World, wx = w1.alloc (.cells #[.pointer p0] 32) := ⟨_, rfl⟩
  rw [← h2]
  have z2 : w2.heap.size = w.heap.size + 2 := by rw [h2, World.size_alloc, z1]
  have e2 : Ext w1 w2 := by rw [h2]; exact (Ext.refl _).alloc _
  have r2 : RowC 32 w2 (w.heap.size + 1) [.pointer p0] := by rw [h2]; rw [← z1]; exact RowC.new _ _ _
  replace r1 := r1.ext e2
  replace e2 := e1.trans e2
  clear e1 z1
  clear h2
  refine wpIn_rangeFunc_ownF rfl (by omega) (gf := 128) (lb := #[.pointer (some ⟨w.heap.size + 1, 0, none⟩)]) rfl trivial (enters_of Try.func128 (by kernel_rfl) rfl)
    (around_stops 4 (by omega) (w.heap.size + 1) w.heap.size p0 (l.map Prod.fst) hbl w2 (by omega) (by omega) (r2.cell (j := 0) (by simp)) (hL.chain.below e2)) belowK_t (belowK_b (by omega)) (Below.refl _ _) (fun _ => rfl)
    (fun pre W => (∃ v, RowC 24 W w.heap.size [v] ∧ Fz.OwnA w.heap.size (fun x => x = w.heap.size) W v (preArrs l (valsFr pre)).length (preArrs l (valsFr pre)) ∧ (preArrs l (valsFr pre)).length ≤ pre.length * 16384) ∧ Below w.heap.size w W)
    (fun _ _ _ => False)
    (OwnFrom.and (Own.from (fun s A B row hs hg hr => by
      obtain ⟨v, q1, q2, q3⟩ := hs
      exact ⟨v, rowC_own q1 hg hr, q2.own hg hr, q3⟩) _) (ownFrom_below (Nat.le_refl _) (by omega)))
    (fun _ _ _ _ _ hs _ _ => hs)
    ⟨⟨_, r1, Fz.OwnA.nil _ _ _, by simp [preArrs, valsFr]⟩, e2⟩
    (fun x => { tmps := #[.pointer p0, undef, .slice none 0 0, .pointer (some ⟨w.heap.size, 0, none⟩), undef, .pointer (some ⟨x.1.2, 0, none⟩), undef, undef, .pointer p0, .func (.func 128) #[] #[.pointer (some ⟨w.heap.size + 1, 0, none⟩)], .int .i64 (x.1.1 : Int), .pointer (some ⟨x.1.2, 0, none⟩), undef, undef, undef, undef, undef, undef, undef, undef, undef, undef, undef, undef, undef, undef, undef, undef, undef, undef, undef, undef, undef, undef, undef, undef, undef, undef, undef, undef, undef, undef, undef, undef], defers := [] }) ?assign ?body ?done ?stop
  case assign =>
    intro l x W K hK
    gi_wp2
    exact hK
  case body =>
    rintro lr pre x W ⟨⟨v, q1, q2, q3⟩, hB⟩ hlp
    obtain ⟨sl, qx, _, hlx, hfr⟩ := IsFr.get (i := 0) hL x.2
    have hps := preArrs_snoc (l := l) (pre := valsFr pre) hlx
    rw [← valsFr_snoc] at hps
    have hpl : pre.length < 1000 := by rw [numFrom_len, List.length_map] at hlp; omega
    have hOV : OutV w W w.heap.size v (preArrs l (valsFr pre)) := ⟨hB, Nat.le_refl _, q1, q2⟩
    have HPS := Lib.hid hps
    obtain ⟨gv, gu, cs, f1, f2, f3, _, _, _, _, _, _, hcl, h16, hsl⟩ := hfr
    generalize preArrs l (valsFr pre) = la at *
    have k5 := (f1.ext hB).cell (j := 0) (by simp)
    simp only [List.getElem_cons_zero, List.getElem_cons_succ] at k5
    have HF := Lib.hid (And.intro f1 (And.intro f2 (And.intro f3 hsl)))
    have HOV := Lib.hid hOV
    clear f1 f2 f3 hsl hps hlx q1 q2 hOV
    gi_wp2
    gi_loopw [17] (fun iv wr => ∃ (i : Nat) (v : Value), iv = .int .i64 (i : Int) ∧ i ≤ sl.length ∧ OutV w wr w.heap.size v (la ++ slotArrs (sl.take i)) ∧ KeepsOthers W wr ∧ (la ++ slotArrs (sl.take i)).length ≤ pre.length * 16384 + i) (fun iv _ => sl.length - (intOf iv).toNat)
    case atStart => exact ⟨0, v, rfl, Nat.zero_le _, by simpa [slotArrs] using HOV.out, KeepsOthers.refl _, by simpa [slotArrs] using q3⟩
    case round =>
      obtain ⟨i, v, rfl, hil, hO, hKO, hln⟩ := hrel
      clear HOV q3
      by_cases hlt : i < sl.length
      rotate_left
      · have hie : i = sl.length := by omega
        subst hie
        rw [List.take_of_length_le (Nat.le_refl _)] at hO hln
        have HO := Lib.hid hO
        gi_wp2
        refine ⟨hKO, below_two hB HO.out.ext hKO.size, ⟨v, HO.out.box, ?_, ?_⟩, HO.out.ext⟩
        · rw [HPS.out]; exact HO.out.oa
        · rw [HPS.out]; simp only [List.length_append, List.length_singleton] at hln ⊢; omega
      obtain ⟨c0, c1, c2, c3, cw, m0, m1, m2, m3, m4, hw, ha⟩ := HF.out.2.2.2 i hlt
      obtain ⟨ck, cp1, cl1, cc1, cp2, cl2, cc2, cp3, cl3, cc3, rfl, rfl, rfl, rfl⟩ := ha.form
      have hrv := HF.out.2.1.ext hO.ext
      have hru := HF.out.2.2.1.ext hO.ext
      have hr1 := HF.out.1.ext hO.ext
      have k5 := hr1.cell (j := 0) (by simp)
      have k6 := hr1.cell (j := 1) (by simp)
      simp only [List.getElem_cons_zero, List.getElem_cons_succ] at k5 k6
      have n0 := hrv.cell' m0
      have n1 := hrv.cell' m1
      have n2 := hrv.cell' m2
      have n3 := hrv.cell' m3
      have n4 := hrv.cell' m4
      have n5 := hru.cell (j := i) (by simpa using hlt)
      rw [List.getElem_map] at n5
      have hgu := hru.lt
      have hxl := hr1.lt
      have hgul : gu ≠ wr.heap.size := by omega
      have hxbl : x.1.2 ≠ wr.heap.size := by omega
      have eb : Ext wr (wr.alloc (.cells #[.int .i64 ck, .slice cp1 cl1 cc1, .slice cp2 cl2 cc2, .slice cp3 cl3 cc3, cw] 38)) := (Ext.refl _).alloc _
      have rb := RowC.new 38 wr [.int .i64 ck, .slice cp1 cl1 cc1, .slice cp2 cl2 cc2, .slice cp3 cl3 cc3, cw]
      change RowC _ (wr.alloc (.cells #[.int .i64 ck, .slice cp1 cl1 cc1, .slice cp2 cl2 cc2, .slice cp3 cl3 cc3, cw] 38)) _ _ at rb
      have k6' := eb.cell k6
      have n5' := eb.cell n5
      have b4 := rb.cell5.2.2.2.2
      have HO := Lib.hid hO
      have HEB := Lib.hid eb
      have HRB := Lib.hid rb
      have HA := Lib.hid (ha.ext (hO.ext.trans eb))
      have hwl : w.heap.size < wr.heap.size := hO.box.lt
      clear m0 m1 m2 m3 m4 hrv hru hr1 hgu hxl k6 n5 eb rb hO ha
      cases hsi : sl[i] with
      | no =>
        rw [hsi] at n5' hw
        obtain rfl : cw = .nilIface := hw
        simp only [Slot.used] at n5'
        have hsn := slotArrs_snoc hlt
        rw [hsi] at hsn
        have hsn2 : la ++ slotArrs (sl.take (i + 1)) = la ++ slotArrs (sl.take i) := by rw [hsn]; simp
        have HSN := Lib.hid hsn2
        clear hsn hsn2
        gi_wp2
        go_roundw
        case rel => exact ⟨i + 1, v, by go_num, by omega, by rw [HSN.out]; exact HO.out.next HEB.out, hKO.trans (KeepsOthers.of_ext HEB.out), by rw [HSN.out]; omega⟩
        case measure => simp [intOf]; omega
      | fn =>
        rw [hsi] at n5' hw
        obtain ⟨T9, y9, rfl⟩ : ∃ T x, cw = .iface T x := hw
        simp only [Slot.used] at n5'
        have hsn := slotArrs_snoc hlt
        rw [hsi] at hsn
        have hsn2 : la ++ slotArrs (sl.take (i + 1)) = la ++ slotArrs (sl.take i) := by rw [hsn]; simp
        have HSN := Lib.hid hsn2
        clear hsn hsn2
        gi_wp2
        go_roundw
        case rel => exact ⟨i + 1, v, by go_num, by omega, by rw [HSN.out]; exact HO.out.next HEB.out, hKO.trans (KeepsOthers.of_ext HEB.out), by rw [HSN.out]; omega⟩
        case measure => simp [intOf]; omega
      | arr t =>
        rw [hsi] at n5' hw
        obtain rfl : cw = .nilIface := hw
        simp only [Slot.used] at n5'
        have hsn := slotArrs_snoc hlt
        rw [hsi] at hsn
        have hsn2 : la ++ slotArrs (sl.take (i + 1)) = (la ++ slotArrs (sl.take i)) ++ [t] := by rw [hsn]; simp
        have HSN := Lib.hid hsn2
        have ha := HA.out
        rw [hsi] at ha
        simp only [Slot.tree] at ha
        replace HA := Lib.hid ha
        clear hsn hsn2 ha
        generalize la ++ slotArrs (sl.take i) = lc at *
        gi_wp2
        have hKb := hKO.trans (KeepsOthers.of_ext HEB.out)
        have hO6 := HO.out.next HEB.out
        have rb := HRB.out
        generalize wr.alloc (.cells #[.int .i64 ck, .slice cp1 cl1 cc1, .slice cp2 cl2 cc2, .slice cp3 cl3 cc3, .nilIface] 38) = w6 at *
        obtain ⟨pv, cv, rfl, _, _⟩ := hO6.oa.items (by omega)
        have s0 := hO6.box.cell (j := 0) (by simp)
        simp only [List.getElem_cons_zero] at s0
        obtain ⟨t0, t1, t2, t3, t4⟩ := rb.cell5
        refine wpIn_region_g0 [0, 1, 2, 4] 6 #[true, true, true, false, true, false, false, false, false, false] (fun w' => Ext w6 w') (by kernel_rfl) (by kernel_rfl) (by kernel_rfl) ((Ext.refl _).drew) ?_
        iterate 4
          refine wpHead_cons (v := ?_) rfl (by rfl) (fun w' hS => ?_) ?_
          rotate_left
          · have e0 := hS.cell s0
            have e1 := hS.cell t0
            have e2 := hS.cell t1
            have e3 := hS.cell t2
            have e4 := hS.cell t3
            go_simp
            try with_reducible rfl
          try simp only [Act.put, List.setIfInBounds_toArray, List.set]
        unfold wpHead
        have hw6 : wr.heap.size ≤ w6.heap.size := HEB.out.lt
        have HO6 := Lib.hid hO6
        have HKB := Lib.hid hKb
        clear s0 t0 t1 t2 t3 t4 rb k5 k6' n0 n1 n2 n3 n4 n5' b4 hO6 hKO hKb HO
        refine wpAnyG_two (i := 3) (j := 5) (by kernel_rfl) ?_ ?_
        · skip
          refine ⟨_, rfl, fun K hK => ?_⟩
          go_wp2_with fail
          refine (Fz.clone_any _ _ t _ _ _ _ _ (Nat.lt_succ_self _) (HA.out.ext ((Ext.refl w6).drew))).mono ?_
          rintro e w3 ⟨y0', y1', y2', y3', rfl, hy', hE3⟩
          obtain ⟨yk, pq1, mm1, n1, pq2, mm2, n2, pq3, mm3, n3, rfl, rfl, rfl, rfl⟩ := hy'.form
          go_wp2_with fail
          have e3 : Ext w6 w3 := ((Ext.refl w6).drew).trans hE3
          refine hK _ _ e3 ?_
          try simp only [Act.put, List.setIfInBounds_toArray, List.set]
          refine wpAnyG_one (i := 5) (by kernel_rfl) ⟨_, rfl, fun K hK => ?_⟩
          go_wp2_with fail
          have hz9 := box_new w3 (.int .i64 0) (.slice none 0 0) (.slice none 0 0) (.slice none 0 0)
          have e4 := e3.alloc (.cells #[.int .i64 0, .slice none 0 0, .slice none 0 0, .slice none 0 0] 26)
          have hy9 := ArrAt.mono (G := fun q => w6.heap.size ≤ q ∧ Fz.NoFz (w3.alloc (.cells #[.int .i64 0, .slice none 0 0, .slice none 0 0, .slice none 0 0] 26)) q) (w' := w3.alloc (.cells #[.int .i64 0, .slice none 0 0, .slice none 0 0, .slice none 0 0] 26)) (fun q hq hlt => ⟨⟨hq.1, hq.2.kept (Below.heap_alloc _ _ _ hlt)⟩, Below.heap_alloc _ _ _ hlt⟩) _ _ _ _ _ hy'
          generalize w3.alloc (.cells #[.int .i64 0, .slice none 0 0, .slice none 0 0, .slice none 0 0] 26) = w4 at *
          refine hK _ _ e4 ?_
          try simp only [Act.put, List.setIfInBounds_toArray, List.set]
          clear hy' hE3 e3
          refine wpAnyG_rest (by kernel_rfl) ?_
          have hO9 := HO6.out.next e4
          have hK9 := HKB.out.trans (KeepsOthers.of_ext e4)
          have hY4 := ArrAt.mono (G := fun q => Apart w.heap.size (fun x => x = w.heap.size) (.slice pv lc.length cv) q ∧ Fz.NoFz w4 q) (w' := w4) (fun q hq0 _ => ⟨⟨⟨by have hq := hq0.1; omega, by have hq := hq0.1; omega, fun e => by have hq := hq0.1; have := HO6.out.bl q e; omega⟩, hq0.2⟩, rfl⟩) _ _ _ _ _ hy9
          clear hy9
          refine wpAny_one (i := 6) (by kernel_rfl) ⟨_, rfl, fun K hK => ?_⟩
          refine Fz.wpList_append_arr rfl _ _ rfl w.heap.size (fun x => x = w.heap.size) (.slice pv lc.length cv) lc.length lc Arr.zero _ _ _ _ rfl hO9.oa _ _ rfl hz9 (fun q hq => by rw [hq]; exact hO9.box.lt) (Arr.zero_at _ _) (by omega) hO9.ext.lt ?_
          intro g cap w8 hon8 hgrow hat8 hg8 _
          obtain ⟨⟨u0, hu0⟩, ⟨u1, hu1⟩, ⟨u2, hu2⟩, ⟨u3, hu3⟩, hfz⟩ := hon8.weak.slot (j := lc.length) (by omega)
          have hz0 := hfz (lc.length * 4)
          have hz1 := hfz (lc.length * 4 + 1)
          have hz2 := hfz (lc.length * 4 + 2)
          have hz3 := hfz (lc.length * 4 + 3)
          have hb8 : RowC 24 w8 w.heap.size [.slice pv lc.length cv] := hO9.box.kept (hgrow.block _ hO9.box.lt (fun e => hO9.oa.2.1 _ e.symm rfl))
          have hE8 : Ext w w8 := hO9.ext.grown hgrow hO9.ext.lt (fun q e => by obtain ⟨_, _, cells, h1, _⟩ := hO9.oa; exact (h1.lt q e).1)
          have hK8 : KeepsOthers W w8 := hK9.trans (KeepsOthers.of_grownBy hgrow (fun q o e ho => own_cells hO9.oa e ho))
          have HA9 := Lib.hid (And.intro (hO9.storedA (c0 := (.int .i64 yk)) (c1 := (.slice pq1 mm1 n1)) (c2 := (.slice pq2 mm2 n2)) (c3 := (.slice pq3 mm3 n3)) hgrow hon8 hat8 hY4 hE8 hb8) (hK8.trans (((((KeepsOthers.setCell _ _ _).trans (KeepsOthers.setCell _ _ _)).trans (KeepsOthers.setCell _ _ _)).trans (KeepsOthers.setCell _ _ _)).trans (KeepsOthers.setCell ((((w8.setCell ⟨g, lc.length * 4, none⟩ (.int .i64 yk)).setCell ⟨g, lc.length * 4 + 1, none⟩ (.slice pq1 mm1 n1)).setCell ⟨g, lc.length * 4 + 2, none⟩ (.slice pq2 mm2 n2)).setCell ⟨g, lc.length * 4 + 3, none⟩ (.slice pq3 mm3 n3)) ⟨w.heap.size, 0, none⟩ (.slice (some ⟨g, 0, none⟩) (lc.length + 1) cap)))))
          have HB9 := Lib.hid (And.intro (hO9.storedB (c0 := (.int .i64 yk)) (c1 := (.slice pq1 mm1 n1)) (c2 := (.slice pq2 mm2 n2)) (c3 := (.slice pq3 mm3 n3)) hgrow hon8 hat8 hY4 hE8 hb8) (hK8.trans (((((KeepsOthers.setCell w8 ⟨w.heap.size, 0, none⟩ (.slice (some ⟨g, 0, none⟩) (lc.length + 1) cap)).trans (KeepsOthers.setCell _ ⟨g, lc.length * 4, none⟩ (.int .i64 yk))).trans (KeepsOthers.setCell _ ⟨g, lc.length * 4 + 1, none⟩ (.slice pq1 mm1 n1))).trans (KeepsOthers.setCell _ ⟨g, lc.length * 4 + 2, none⟩ (.slice pq2 mm2 n2))).trans (KeepsOthers.setCell _ ⟨g, lc.length * 4 + 3, none⟩ (.slice pq3 mm3 n3)))))
          obtain ⟨hgb, _⟩ := OutV.gne hon8
          have t3 := hb8.cell (j := 0) (by simp)
          simp only [List.getElem_cons_zero] at t3
          have tf := hb8.free 0
          clear hO9 hY4 hz9 hgrow hat8 hon8 hg8 hfz hb8 hE8 hK8 hK9
          refine hK _ _ ?_
          try simp only [Act.put, List.setIfInBounds_toArray, List.set]
          refine wpAny_pure 7 (.pointer (some ⟨g, lc.length * 4, none⟩)) rfl (by kernel_rfl) (by kernel_rfl) (fun w9 => by go_simp; intro hcc; omega) ?_
          try simp only [Act.put, List.setIfInBounds_toArray, List.set]
          refine wpAny_two (i := 8) (j := 9) (by kernel_rfl) ⟨_, rfl, fun K hK => ?_⟩ ⟨_, rfl, fun K hK => ?_⟩
          · go_wp2_with fail
            try refine hK _ _ ?_
            try simp only [Act.put, List.setIfInBounds_toArray, List.set]
            refine wpAny_one (i := 9) (by kernel_rfl) ⟨_, rfl, fun K hK => ?_⟩
            have t3' : ((((w8.setCell ⟨g, lc.length * 4, none⟩ (.int .i64 yk)).setCell ⟨g, lc.length * 4 + 1, none⟩ (.slice pq1 mm1 n1)).setCell ⟨g, lc.length * 4 + 2, none⟩ (.slice pq2 mm2 n2)).setCell ⟨g, lc.length * 4 + 3, none⟩ (.slice pq3 mm3 n3)).cell? ⟨w.heap.size, 0, none⟩ = some (.slice pv lc.length cv) := (World.cell?_of_block (set4_far w8 g (lc.length * 4) _ _ _ _ w.heap.size (fun e => hgb e.symm))).trans t3
            have tf' : ((((w8.setCell ⟨g, lc.length * 4, none⟩ (.int .i64 yk)).setCell ⟨g, lc.length * 4 + 1, none⟩ (.slice pq1 mm1 n1)).setCell ⟨g, lc.length * 4 + 2, none⟩ (.slice pq2 mm2 n2)).setCell ⟨g, lc.length * 4 + 3, none⟩ (.slice pq3 mm3 n3)).frozen? ⟨w.heap.size, 0, none⟩ = false := (frozen_of_block2 (set4_far w8 g (lc.length * 4) _ _ _ _ w.heap.size (fun e => hgb e.symm))).trans tf
            go_wp2_with fail
            try refine hK _ _ ?_
            try simp only [Act.put, List.setIfInBounds_toArray, List.set]
            refine wpAny_end (by kernel_rfl) ?_
            obtain ⟨hm8, hk8⟩ := HA9.out
            clear HA9 HB9 hu0 hu1 hu2 hu3 hz0 hz1 hz2 hz3 t3 tf
            skip
            gi_wp2
            go_roundw
            case rel => exact ⟨i + 1, _, by go_num, by omega, by rw [HSN.out]; exact hm8, hk8, by rw [HSN.out, List.length_append, List.length_singleton]; omega⟩
            case measure => simp [intOf]; omega
          · go_wp2_with fail
            try refine hK _ _ ?_
            try simp only [Act.put, List.setIfInBounds_toArray, List.set]
            refine wpAny_one (i := 8) (by kernel_rfl) ⟨_, rfl, fun K hK => ?_⟩
            have k0 : (w8.setCell ⟨w.heap.size, 0, none⟩ (.slice (some ⟨g, 0, none⟩) (lc.length + 1) cap)).cell? ⟨g, lc.length * 4, none⟩ = some u0 := (World.cell?_of_block (Below.heap_setCell _ _ _ _ hgb)).trans hu0
            have kf0 : (w8.setCell ⟨w.heap.size, 0, none⟩ (.slice (some ⟨g, 0, none⟩) (lc.length + 1) cap)).frozen? ⟨g, lc.length * 4, none⟩ = false := (frozen_of_block2 (Below.heap_setCell _ _ _ _ hgb)).trans hz0
            have k1 : (w8.setCell ⟨w.heap.size, 0, none⟩ (.slice (some ⟨g, 0, none⟩) (lc.length + 1) cap)).cell? ⟨g, lc.length * 4 + 1, none⟩ = some u1 := (World.cell?_of_block (Below.heap_setCell _ _ _ _ hgb)).trans hu1
            have kf1 : (w8.setCell ⟨w.heap.size, 0, none⟩ (.slice (some ⟨g, 0, none⟩) (lc.length + 1) cap)).frozen? ⟨g, lc.length * 4 + 1, none⟩ = false := (frozen_of_block2 (Below.heap_setCell _ _ _ _ hgb)).trans hz1
            have k2 : (w8.setCell ⟨w.heap.size, 0, none⟩ (.slice (some ⟨g, 0, none⟩) (lc.length + 1) cap)).cell? ⟨g, lc.length * 4 + 2, none⟩ = some u2 := (World.cell?_of_block (Below.heap_setCell _ _ _ _ hgb)).trans hu2
            have kf2 : (w8.setCell ⟨w.heap.size, 0, none⟩ (.slice (some ⟨g, 0, none⟩) (lc.length + 1) cap)).frozen? ⟨g, lc.length * 4 + 2, none⟩ = false := (frozen_of_block2 (Below.heap_setCell _ _ _ _ hgb)).trans hz2
            have k3 : (w8.setCell ⟨w.heap.size, 0, none⟩ (.slice (some ⟨g, 0, none⟩) (lc.length + 1) cap)).cell? ⟨g, lc.length * 4 + 3, none⟩ = some u3 := (World.cell?_of_block (Below.heap_setCell _ _ _ _ hgb)).trans hu3
            have kf3 : (w8.setCell ⟨w.heap.size, 0, none⟩ (.slice (some ⟨g, 0, none⟩) (lc.length + 1) cap)).frozen? ⟨g, lc.length * 4 + 3, none⟩ = false := (frozen_of_block2 (Below.heap_setCell _ _ _ _ hgb)).trans hz3
            go_wp2_with fail
            clear k0 k1 k2 k3 kf0 kf1 kf2 kf3
            try refine hK _ _ ?_
            try simp only [Act.put, List.setIfInBounds_toArray, List.set]
            refine wpAny_end (by kernel_rfl) ?_
            obtain ⟨hm8, hk8⟩ := HB9.out
            clear HA9 HB9 hu0 hu1 hu2 hu3 hz0 hz1 hz2 hz3 t3 tf
            skip
            gi_wp2
            go_roundw
            case rel => exact ⟨i + 1, _, by go_num, by omega, by rw [HSN.out]; exact hm8, hk8, by rw [HSN.out, List.length_append, List.length_singleton]; omega⟩
            case measure => simp [intOf]; omega
        · skip
          refine ⟨_, rfl, fun K hK => ?_⟩
          go_wp2_with fail
          have hz8 := (box_new w6 (.int .i64 0) (.slice none 0 0) (.slice none 0 0) (.slice none 0 0)).ext ((Ext.refl _).drew)
          have e2 : Ext w6 (w6.alloc (.cells #[.int .i64 0, .slice none 0 0, .slice none 0 0, .slice none 0 0] 26)).drew := ((Ext.refl w6).alloc _).drew
          generalize hww : (w6.alloc (.cells #[.int .i64 0, .slice none 0 0, .slice none 0 0, .slice none 0 0] 26)).drew = w2 at *
          clear hww
          refine hK _ _ e2 ?_
          try simp only [Act.put, List.setIfInBounds_toArray, List.set]
          refine wpAnyG_one (i := 3) (by kernel_rfl) ⟨_, rfl, fun K hK => ?_⟩
          go_wp2_with fail
          refine (Fz.clone_any _ _ t _ _ _ _ _ (Nat.lt_succ_self _) (HA.out.ext e2)).mono ?_
          rintro e w3 ⟨y0', y1', y2', y3', rfl, hy', hE3⟩
          obtain ⟨yk, pq1, mm1, n1, pq2, mm2, n2, pq3, mm3, n3, rfl, rfl, rfl, rfl⟩ := hy'.form
          go_wp2_with fail
          have e4 : Ext w6 w3 := e2.trans hE3
          refine hK _ _ e4 ?_
          try simp only [Act.put, List.setIfInBounds_toArray, List.set]
          have hz9 := hz8.ext hE3
          have hy9 := ArrAt.mono (G := fun q => w6.heap.size ≤ q ∧ Fz.NoFz w3 q) (w' := w3) (fun q hq hlt => ⟨⟨Nat.le_trans e2.lt hq.1, hq.2⟩, rfl⟩) _ _ _ _ _ hy'
          clear hy' hE3 e2 hz8
          refine wpAnyG_rest (by kernel_rfl) ?_
          have hO9 := HO6.out.next e4
          have hK9 := HKB.out.trans (KeepsOthers.of_ext e4)
          have hY4 := ArrAt.mono (G := fun q => Apart w.heap.size (fun x => x = w.heap.size) (.slice pv lc.length cv) q ∧ Fz.NoFz w3 q) (w' := w3) (fun q hq0 _ => ⟨⟨⟨by have hq := hq0.1; omega, by have hq := hq0.1; omega, fun e => by have hq := hq0.1; have := HO6.out.bl q e; omega⟩, hq0.2⟩, rfl⟩) _ _ _ _ _ hy9
          clear hy9
          refine wpAny_one (i := 6) (by kernel_rfl) ⟨_, rfl, fun K hK => ?_⟩
          refine Fz.wpList_append_arr rfl _ _ rfl w.heap.size (fun x => x = w.heap.size) (.slice pv lc.length cv) lc.length lc Arr.zero _ _ _ _ rfl hO9.oa _ _ rfl hz9 (fun q hq => by rw [hq]; exact hO9.box.lt) (Arr.zero_at _ _) (by omega) hO9.ext.lt ?_
          intro g cap w8 hon8 hgrow hat8 hg8 _
          obtain ⟨⟨u0, hu0⟩, ⟨u1, hu1⟩, ⟨u2, hu2⟩, ⟨u3, hu3⟩, hfz⟩ := hon8.weak.slot (j := lc.length) (by omega)
          have hz0 := hfz (lc.length * 4)
          have hz1 := hfz (lc.length * 4 + 1)
          have hz2 := hfz (lc.length * 4 + 2)
          have hz3 := hfz (lc.length * 4 + 3)
          have hb8 : RowC 24 w8 w.heap.size [.slice pv lc.length cv] := hO9.box.kept (hgrow.block _ hO9.box.lt (fun e => hO9.oa.2.1 _ e.symm rfl))
          have hE8 : Ext w w8 := hO9.ext.grown hgrow hO9.ext.lt (fun q e => by obtain ⟨_, _, cells, h1, _⟩ := hO9.oa; exact (h1.lt q e).1)
          have hK8 : KeepsOthers W w8 := hK9.trans (KeepsOthers.of_grownBy hgrow (fun q o e ho => own_cells hO9.oa e ho))
          have HA9 := Lib.hid (And.intro (hO9.storedA (c0 := (.int .i64 yk)) (c1 := (.slice pq1 mm1 n1)) (c2 := (.slice pq2 mm2 n2)) (c3 := (.slice pq3 mm3 n3)) hgrow hon8 hat8 hY4 hE8 hb8) (hK8.trans (((((KeepsOthers.setCell _ _ _).trans (KeepsOthers.setCell _ _ _)).trans (KeepsOthers.setCell _ _ _)).trans (KeepsOthers.setCell _ _ _)).trans (KeepsOthers.setCell ((((w8.setCell ⟨g, lc.length * 4, none⟩ (.int .i64 yk)).setCell ⟨g, lc.length * 4 + 1, none⟩ (.slice pq1 mm1 n1)).setCell ⟨g, lc.length * 4 + 2, none⟩ (.slice pq2 mm2 n2)).setCell ⟨g, lc.length * 4 + 3, none⟩ (.slice pq3 mm3 n3)) ⟨w.heap.size, 0, none⟩ (.slice (some ⟨g, 0, none⟩) (lc.length + 1) cap)))))
          have HB9 := Lib.hid (And.intro (hO9.storedB (c0 := (.int .i64 yk)) (c1 := (.slice pq1 mm1 n1)) (c2 := (.slice pq2 mm2 n2)) (c3 := (.slice pq3 mm3 n3)) hgrow hon8 hat8 hY4 hE8 hb8) (hK8.trans (((((KeepsOthers.setCell w8 ⟨w.heap.size, 0, none⟩ (.slice (some ⟨g, 0, none⟩) (lc.length + 1) cap)).trans (KeepsOthers.setCell _ ⟨g, lc.length * 4, none⟩ (.int .i64 yk))).trans (KeepsOthers.setCell _ ⟨g, lc.length * 4 + 1, none⟩ (.slice pq1 mm1 n1))).trans (KeepsOthers.setCell _ ⟨g, lc.length * 4 + 2, none⟩ (.slice pq2 mm2 n2))).trans (KeepsOthers.setCell _ ⟨g, lc.length * 4 + 3, none⟩ (.slice pq3 mm3 n3)))))
          obtain ⟨hgb, _⟩ := OutV.gne hon8
          have t3 := hb8.cell (j := 0) (by simp)
          simp only [List.getElem_cons_zero] at t3
          have tf := hb8.free 0
          clear hO9 hY4 hz9 hgrow hat8 hon8 hg8 hfz hb8 hE8 hK8 hK9
          refine hK _ _ ?_
          try simp only [Act.put, List.setIfInBounds_toArray, List.set]
          refine wpAny_pure 7 (.pointer (some ⟨g, lc.length * 4, none⟩)) rfl (by kernel_rfl) (by kernel_rfl) (fun w9 => by go_simp; intro hcc; omega) ?_
          try simp only [Act.put, List.setIfInBounds_toArray, List.set]
          refine wpAny_two (i := 8) (j := 9) (by kernel_rfl) ⟨_, rfl, fun K hK => ?_⟩ ⟨_, rfl, fun K hK => ?_⟩
          · go_wp2_with fail
            try refine hK _ _ ?_
            try simp only [Act.put, List.setIfInBounds_toArray, List.set]
            refine wpAny_one (i := 9) (by kernel_rfl) ⟨_, rfl, fun K hK => ?_⟩
            have t3' : ((((w8.setCell ⟨g, lc.length * 4, none⟩ (.int .i64 yk)).setCell ⟨g, lc.length * 4 + 1, none⟩ (.slice pq1 mm1 n1)).setCell ⟨g, lc.length * 4 + 2, none⟩ (.slice pq2 mm2 n2)).setCell ⟨g, lc.length * 4 + 3, none⟩ (.slice pq3 mm3 n3)).cell? ⟨w.heap.size, 0, none⟩ = some (.slice pv lc.length cv) := (World.cell?_of_block (set4_far w8 g (lc.length * 4) _ _ _ _ w.heap.size (fun e => hgb e.symm))).trans t3
            have tf' : ((((w8.setCell ⟨g, lc.length * 4, none⟩ (.int .i64 yk)).setCell ⟨g, lc.length * 4 + 1, none⟩ (.slice pq1 mm1 n1)).setCell ⟨g, lc.length * 4 + 2, none⟩ (.slice pq2 mm2 n2)).setCell ⟨g, lc.length * 4 + 3, none⟩ (.slice pq3 mm3 n3)).frozen? ⟨w.heap.size, 0, none⟩ = false := (frozen_of_block2 (set4_far w8 g (lc.length * 4) _ _ _ _ w.heap.size (fun e => hgb e.symm))).trans tf
            go_wp2_with fail
            try refine hK _ _ ?_
            try simp only [Act.put, List.setIfInBounds_toArray, List.set]
            refine wpAny_end (by kernel_rfl) ?_
            obtain ⟨hm8, hk8⟩ := HA9.out
            clear HA9 HB9 hu0 hu1 hu2 hu3 hz0 hz1 hz2 hz3 t3 tf
            skip
            gi_wp2
            go_roundw
            case rel => exact ⟨i + 1, _, by go_num, by omega, by rw [HSN.out]; exact hm8, hk8, by rw [HSN.out, List.length_append, List.length_singleton]; omega⟩
            case measure => simp [intOf]; omega
          · go_wp2_with fail
            try refine hK _ _ ?_
            try simp only [Act.put, List.setIfInBounds_toArray, List.set]
            refine wpAny_one (i := 8) (by kernel_rfl) ⟨_, rfl, fun K hK => ?_⟩
            have k0 : (w8.setCell ⟨w.heap.size, 0, none⟩ (.slice (some ⟨g, 0, none⟩) (lc.length + 1) cap)).cell? ⟨g, lc.length * 4, none⟩ = some u0 := (World.cell?_of_block (Below.heap_setCell _ _ _ _ hgb)).trans hu0
            have kf0 : (w8.setCell ⟨w.heap.size, 0, none⟩ (.slice (some ⟨g, 0, none⟩) (lc.length + 1) cap)).frozen? ⟨g, lc.length * 4, none⟩ = false := (frozen_of_block2 (Below.heap_setCell _ _ _ _ hgb)).trans hz0
            have k1 : (w8.setCell ⟨w.heap.size, 0, none⟩ (.slice (some ⟨g, 0, none⟩) (lc.length + 1) cap)).cell? ⟨g, lc.length * 4 + 1, none⟩ = some u1 := (World.cell?_of_block (Below.heap_setCell _ _ _ _ hgb)).trans hu1
            have kf1 : (w8.setCell ⟨w.heap.size, 0, none⟩ (.slice (some ⟨g, 0, none⟩) (lc.length + 1) cap)).frozen? ⟨g, lc.length * 4 + 1, none⟩ = false := (frozen_of_block2 (Below.heap_setCell _ _ _ _ hgb)).trans hz1
            have k2 : (w8.setCell ⟨w.heap.size, 0, none⟩ (.slice (some ⟨g, 0, none⟩) (lc.length + 1) cap)).cell? ⟨g, lc.length * 4 + 2, none⟩ = some u2 := (World.cell?_of_block (Below.heap_setCell _ _ _ _ hgb)).trans hu2
            have kf2 : (w8.setCell ⟨w.heap.size, 0, none⟩ (.slice (some ⟨g, 0, none⟩) (lc.length + 1) cap)).frozen? ⟨g, lc.length * 4 + 2, none⟩ = false := (frozen_of_block2 (Below.heap_setCell _ _ _ _ hgb)).trans hz2
            have k3 : (w8.setCell ⟨w.heap.size, 0, none⟩ (.slice (some ⟨g, 0, none⟩) (lc.length + 1) cap)).cell? ⟨g, lc.length * 4 + 3, none⟩ = some u3 := (World.cell?_of_block (Below.heap_setCell _ _ _ _ hgb)).trans hu3
            have kf3 : (w8.setCell ⟨w.heap.size, 0, none⟩ (.slice (some ⟨g, 0, none⟩) (lc.length + 1) cap)).frozen? ⟨g, lc.length * 4 + 3, none⟩ = false := (frozen_of_block2 (Below.heap_setCell _ _ _ _ hgb)).trans hz3
            go_wp2_with fail
            clear k0 k1 k2 k3 kf0 kf1 kf2 kf3
            try refine hK _ _ ?_
            try simp only [Act.put, List.setIfInBounds_toArray, List.set]
            refine wpAny_end (by kernel_rfl) ?_
            obtain ⟨hm8, hk8⟩ := HB9.out
            clear HA9 HB9 hu0 hu1 hu2 hu3 hz0 hz1 hz2 hz3 t3 tf
            skip
            gi_wp2
            go_roundw
            case rel => exact ⟨i + 1, _, by go_num, by omega, by rw [HSN.out]; exact hm8, hk8, by rw [HSN.out, List.length_append, List.length_singleton]; omega⟩
            case measure => simp [intOf]; omega
  case done =>
    rintro D ys W hD hys ⟨⟨v, q1, q2, q3⟩, hB⟩ hK
    have hall : preArrs l (valsFr ys) = frArrs l := by rw [hys]; exact preArrs_all [] l 0 rfl
    have hyl : ys.length = l.length := by rw [← valsFr_len, hys, numFrom_len, List.length_map]
    rw [hall] at q2 q3
    have hg := grownBy_putObj' W D (.deferred none)
    have hr : ∀ r, some D = some r → ∃ o : Obj, W.heap[r]? = some o ∧ o.isCells = false := fun r e => by cases e; exact ⟨_, hK, rfl⟩
    obtain ⟨p, c, rfl, hi1, hi2⟩ := (q2.own hg hr).items (by omega)
    have k1 := q1.cell (j := 0) (by simp)
    simp only [List.getElem_cons_zero] at k1
    have hE9 : Ext w (W.putObj D (.deferred none)) := hB.trans (belowK_b (w := w) (Nat.le_refl _) W D _ _ (by omega) hK rfl rfl)
    have HI := Lib.hid (And.intro hi1 (And.intro (ItemsAt.mono (G := fun b => w.heap.size ≤ b ∧ Fz.NoFz (W.putObj D (.deferred none)) b) (w' := W.putObj D (.deferred none)) (fun b hb _ => ⟨⟨hb.1, hb.2.2⟩, rfl⟩) _ _ _ hi2) hE9))
    clear hi1 hi2 hE9 q1 q2 q3 hall hg hr
    gi_wp2
    refine ⟨by simp, .inl ⟨_, _, rfl, run_takeDeferred hK, ?_⟩⟩
    exact ⟨_, results_tmp rfl _ _ _, p, c, rfl, HI.out.1, HI.out.2.1, HI.out.2.2⟩
  case stop =>
    rintro D c pre W _ _ h _
    exact h.elim
theorem arrs_any (F : Nat → Prop) (p0 : Option Addr) (l : List (Nat × List Slot)) (hl : l.length ≤ 1000) (w : World) (hL : IsFr F w p0 l) :
    Calls Try.prog 26 #[.pointer p0] w fun e W' => ∃ p c, e = .returned (.slice p (frArrs l).length c) ∧ ItOk (frArrs l).length c ∧ ItemsAt (fun b => w.heap.size ≤ b) W' p 0 (frArrs l) ∧ Ext w W' := by
  refine (arrs_anyF F p0 l hl w hL).mono ?_
  rintro e W' ⟨p, c, he, hk, hi, hE⟩
  exact ⟨p, c, he, hk, ItemsAt.mono (fun _ hx _ => ⟨hx.1, rfl⟩) _ _ _ hi, hE⟩
end Go.Proofs.Ytgkemmdghmklfaa
