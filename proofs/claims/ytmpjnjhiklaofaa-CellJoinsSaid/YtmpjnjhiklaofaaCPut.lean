/-
  THE WALK of cell.put. (Printed by gen_cput.py.)
-/
import Derived.Test.YtmpjnjhiklaofaaRegP
import Derived.Test.YtmpjnjhiklaofaaCellP
namespace Go.Proofs.Ytmpjnjhiklaofaa
set_option linter.unusedSimpArgs false
set_option linter.unusedVariables false
open Go.RowKit

theorem frozen_of_block {w w' : World} {b o : Nat} (h : w'.heap[b]? = w.heap[b]?) : w'.frozen? ⟨b, o, none⟩ = w.frozen? ⟨b, o, none⟩ := by
  simp only [World.frozen?, h]

set_option maxRecDepth 1000000 in
set_option maxHeartbeats 8000000 in
theorem cput_any (w0 w : World) (X : Nat → Prop) (bo : Nat) (k : Int) (v1 v2 v3 : Value) (n : List Int) (l : List Arr) (hM : MkB w0 w X bo k v1 v2 v3 n l) (ka : Int) (sa na : List Int) (ia : List Arr) (c0 c1 c2 c3 : Value)
    (ha : ArrAt (fun b => b < w0.heap.size) w (.mk ka sa na ia) c0 c1 c2 c3) (i : Nat) (hn : ka ≠ 3 → i < na.length) (hi : ka = 3 → i < ia.length) (hnb : n.length ≤ 65536) (hlb : l.length ≤ 65536) :
    Calls Try.prog 117 #[.pointer (some ⟨bo, 0, none⟩), .agg #[c0, c1, c2, c3], .int .i64 (i : Int)] w fun e w' => e = .returned (.tuple #[]) ∧
      ∃ v2' v3', MkB w0 w' X bo k v1 v2' v3' (if ka = 3 then n else n ++ [na.getD i 0]) (if ka = 3 then l ++ [ia.getD i default] else l) ∧ ∀ q, X q → q ≠ bo → w'.heap[q]? = w.heap[q]? := by
  have ha' := ha
  unfold ArrAt at ha'
  obtain ⟨rfl, hka, ⟨p1, m1, rfl, ⟨o1, o1', o1''⟩, i1⟩, ⟨p2, m2, rfl, ⟨o2, o2', o2''⟩, i2⟩, ⟨p3, m3, rfl, ⟨o3, o3', o3''⟩, i3⟩⟩ := ha'
  clear ha i1
  go_enter Try.func117, Try.ntmps117
  have hE0 : Ext w (w.alloc (.cells #[.int .i64 ka, .slice p1 sa.length m1, .slice p2 na.length m2, .slice p3 ia.length m3] 26)) := (Ext.refl _).alloc _
  have hBc := box_new w (.int .i64 ka) (.slice p1 sa.length m1) (.slice p2 na.length m2) (.slice p3 ia.length m3)
  have hM2 := hM.next hE0
  have hXL := hM.xl
  have hi2 := i2.ext hE0
  have hi3 := i3.ext hE0
  have hbs := hE0
  have h0 := hM.ext.lt
  obtain ⟨s0, s1, s2, s3⟩ := hBc.cell
  obtain ⟨r0, r1, r2, r3⟩ := hM2.box.cell
  have hlt2 : ∀ q, (X q ∨ v2.ownBlock = some q) → q < w.heap.size := hM.xl3
  have hlt3 : ∀ q, (X q ∨ v3.ownBlock = some q) → q < w.heap.size := hM.xl2
  have HL2 := Lib.hid hlt2
  have HL3 := Lib.hid hlt3
  have HXL := Lib.hid hXL
  have HI2 := Lib.hid hi2
  have HI3 := Lib.hid hi3
  have HM2 := Lib.hid hM2
  have HBc := Lib.hid hBc
  have HE0 := Lib.hid hE0
  clear hlt2 hlt3 hXL hi2 hi3 hM2 hBc hbs hE0 i2 i3 hM
  by_cases hk3 : (ka == 3) = true
  · have hk' : ka = 3 := by simpa using hk3
    have hii := hi hk'
    rw [if_pos hk', if_pos hk']
    clear hn hi hk3
    subst hk'
    have hxe : ia.getD i default = ia[i] := by rw [List.getD, List.getElem?_eq_getElem hii]; rfl
    rw [hxe]
    clear hxe
    obtain ⟨bi, off, d0, d1, d2, d3, rfl, hbv, g0, g1, g2, g3, hx⟩ := ItemsAt.get ia _ 0 i HI3.out hii
    rw [Nat.zero_add] at g0 g1 g2 g3
    generalize ia[i] = x at *
    obtain ⟨pv3, cv3, rfl, _, _⟩ := HM2.out.oi.items (by omega)
    go_wp2_with fail
    obtain ⟨xk, xp1, xl1, xc1, xp2, xl2, xc2, xp3, xl3, xc3, rfl, rfl, rfl, rfl⟩ := hx.form
    generalize hw1 : w.alloc (.cells #[.int .i64 3, .slice p1 sa.length m1, .slice p2 na.length m2, .slice (some ⟨bi, off, none⟩) ia.length m3] 26) = w1 at *
    clear hw1 HI2 HI3
    have hM2 := HM2.out
    have hXL : ∀ q, X q → q < w1.heap.size := fun q hq => Nat.lt_of_lt_of_le (HXL.out q hq) HE0.out.lt
    have hAp : ∀ q, w1.heap.size ≤ q → Apart w0.heap.size (fun q => X q ∨ v2.ownBlock = some q) (.slice pv3 l.length cv3) q := fun q hq => ⟨Nat.le_trans hM2.ext.lt hq, fun h => by have := HL2.out q h; have := HE0.out.lt; omega, fun e => by have := HL3.out q (.inr e); have := HE0.out.lt; omega⟩
    have hXE : ∀ q, X q → w1.heap[q]? = w.heap[q]? := fun q hq => HE0.out.block (HXL.out q hq)
    clear HM2
    refine wp_region_g0 [0, 1, 2, 3, 4, 5, 6, 7, 8, 10] 8 #[true, true, true, true, true, true, true, true, true, false, true, false, false, false, false, false, false, false] (fun w' => Ext w1 w') (by kernel_rfl) (by kernel_rfl) ((Ext.refl _).drew) ?_
    iterate 10
      refine wpHead_cons (v := ?_) rfl (by rfl) (fun w' hS => ?_) ?_
      rotate_left
      · have e0 := hS.cell s0
        have e3 := hS.cell s3
        have e4 := hS.cell r3
        have e5 := hS.cell g0
        have e6 := hS.cell g1
        have e7 := hS.cell g2
        have e8 := hS.cell g3
        go_simp
        try with_reducible rfl
      try simp only [Act.put, List.setIfInBounds_toArray, List.set]
    unfold wpHead
    clear s0 s1 s2 s3 r0 r1 r2 r3 g0 g1 g2 g3 HBc
    refine wpAnyG_two (i := 9) (j := 11) (by kernel_rfl) ?_ ?_
    · skip
      refine ⟨_, rfl, fun K hK => ?_⟩
      go_wp2_with fail
      refine (clone_any (SizeOf.sizeOf x + 1) (fun b => b < w0.heap.size) x _ _ _ _ _ (by omega) (hx.ext ((Ext.refl w1).drew))).mono ?_
      rintro e w3 ⟨y0', y1', y2', y3', rfl, hy', hE3⟩
      obtain ⟨yk, pq1, mm1, n1, pq2, mm2, n2, pq3, mm3, n3, rfl, rfl, rfl, rfl⟩ := hy'.form
      go_wp2_with fail
      have e3 : Ext w1 w3 := ((Ext.refl w1).drew).trans hE3
      refine hK _ _ e3 ?_
      try simp only [Act.put, List.setIfInBounds_toArray, List.set]
      refine wpAnyG_one (i := 11) (by kernel_rfl) ⟨_, rfl, fun K hK => ?_⟩
      go_wp2_with fail
      have hz9 := box_new w3 (.int .i64 0) (.slice none 0 0) (.slice none 0 0) (.slice none 0 0)
      have e4 := e3.alloc (.cells #[.int .i64 0, .slice none 0 0, .slice none 0 0, .slice none 0 0] 26)
      have hy9 := ArrAt.mono (G := fun q => w1.heap.size ≤ q) (w' := w3.alloc (.cells #[.int .i64 0, .slice none 0 0, .slice none 0 0, .slice none 0 0] 26)) (fun q hq hlt => ⟨hq, Below.heap_alloc _ _ _ hlt⟩) _ _ _ _ _ hy'
      generalize w3.alloc (.cells #[.int .i64 0, .slice none 0 0, .slice none 0 0, .slice none 0 0] 26) = w4 at *
      refine hK _ _ e4 ?_
      try simp only [Act.put, List.setIfInBounds_toArray, List.set]
      clear hy' hE3 e3
      refine wpAnyG_rest (by kernel_rfl) ?_
      have hM4 := hM2.next e4
      have hY4 := ArrAt.mono (G := Apart w0.heap.size (fun q => X q ∨ v2.ownBlock = some q) (.slice pv3 l.length cv3)) (w' := w4) (fun q hq _ => ⟨hAp q hq, rfl⟩) _ _ _ _ _ hy9
      clear hy9 hM2
      refine wpAny_one (i := 12) (by kernel_rfl) ⟨_, rfl, fun K hK => ?_⟩
      refine wpList_append_arr rfl _ _ rfl w0.heap.size _ (.slice pv3 l.length cv3) l.length l Arr.zero _ _ _ _ rfl hM4.oi _ _ rfl hz9 hM4.xl3 (Arr.zero_at _ _) (by omega) hM4.ext.lt ?_
      intro g cap w8 hon8 hgrow hat8 hg8 _
      obtain ⟨⟨u0, hu0⟩, ⟨u1, hu1⟩, ⟨u2, hu2⟩, ⟨u3, hu3⟩, hfz⟩ := hon8.slot (j := l.length) (by omega)
      have hz0 := hfz (l.length * 4)
      have hz1 := hfz (l.length * 4 + 1)
      have hz2 := hfz (l.length * 4 + 2)
      have hz3 := hfz (l.length * 4 + 3)
      obtain ⟨q1, q2, q3⟩ := hM4.grownI hgrow
      obtain ⟨_, _, _, t3⟩ := q2.cell
      have tf := q2.free 3
      have HA := Lib.hid (hM4.storedA (c0 := .int .i64 yk) (c1 := .slice pq1 mm1 n1) (c2 := .slice pq2 mm2 n2) (c3 := .slice pq3 mm3 n3) hgrow rfl hon8 hat8 hY4)
      have HB := Lib.hid (hM4.storedB (c0 := .int .i64 yk) (c1 := .slice pq1 mm1 n1) (c2 := .slice pq2 mm2 n2) (c3 := .slice pq3 mm3 n3) hgrow rfl hon8 hat8 hY4)
      have HX4 := Lib.hid (fun q (hq : X q) => (e4).block (hXL q hq))
      have hgb : g ≠ bo := fun e => hon8.2.1 g rfl (.inl (by rw [e]; exact hM4.xb))
      have hfzb := hfz
      clear hM4 hY4 hz9 hgrow hat8 hon8 q1 q2 q3 hg8 hfz
      refine hK _ _ ?_
      try simp only [Act.put, List.setIfInBounds_toArray, List.set]
      refine wpAny_pure 13 (.pointer (some ⟨g, l.length * 4, none⟩)) rfl (by kernel_rfl) (by kernel_rfl) (fun w9 => by go_simp; intro hcc; omega) ?_
      try simp only [Act.put, List.setIfInBounds_toArray, List.set]
      refine wpAny_pure 15 (.pointer (some ⟨bo, 0, none⟩)) rfl (by kernel_rfl) (by kernel_rfl) (fun w9 => by go_simp) ?_
      try simp only [Act.put, List.setIfInBounds_toArray, List.set]
      refine wpAny_pure 16 (.pointer (some ⟨bo, 3, none⟩)) rfl (by kernel_rfl) (by kernel_rfl) (fun w9 => by go_simp) ?_
      try simp only [Act.put, List.setIfInBounds_toArray, List.set]
      refine wpAny_two (i := 14) (j := 17) (by kernel_rfl) ⟨_, rfl, fun K hK => ?_⟩ ⟨_, rfl, fun K hK => ?_⟩
      · go_wp2_with fail
        try refine hK _ _ ?_
        try simp only [Act.put, List.setIfInBounds_toArray, List.set]
        refine wpAny_one (i := 17) (by kernel_rfl) ⟨_, rfl, fun K hK => ?_⟩
        clear hu0 hu1 hu2 hu3
        have t3' : ((((w8.setCell ⟨g, l.length * 4, none⟩ (.int .i64 yk)).setCell ⟨g, l.length * 4 + 1, none⟩ (.slice pq1 mm1 n1)).setCell ⟨g, l.length * 4 + 2, none⟩ (.slice pq2 mm2 n2)).setCell ⟨g, l.length * 4 + 3, none⟩ (.slice pq3 mm3 n3)).cell? ⟨bo, 3, none⟩ = some (.slice pv3 l.length cv3) := (World.cell?_of_block (set4_far w8 g (l.length * 4) _ _ _ _ bo (fun e => hgb e.symm))).trans t3
        have tf' : ((((w8.setCell ⟨g, l.length * 4, none⟩ (.int .i64 yk)).setCell ⟨g, l.length * 4 + 1, none⟩ (.slice pq1 mm1 n1)).setCell ⟨g, l.length * 4 + 2, none⟩ (.slice pq2 mm2 n2)).setCell ⟨g, l.length * 4 + 3, none⟩ (.slice pq3 mm3 n3)).frozen? ⟨bo, 3, none⟩ = false := (frozen_of_block (set4_far w8 g (l.length * 4) _ _ _ _ bo (fun e => hgb e.symm))).trans tf
        have hu0 := t3'
        have hu1 := t3'
        have hu2 := t3'
        have hu3 := t3'
        go_wp2_with fail
        try refine hK _ _ ?_
        try simp only [Act.put, List.setIfInBounds_toArray, List.set]
        refine wpAny_end (by kernel_rfl) ?_
        obtain ⟨hm8, hx8⟩ := HA.out
        have hx9 := fun q hq hqb => (hx8 q hq hqb).trans ((HX4.out q hq).trans (hXE q hq))
        clear HA HB HX4 hx8 hu0 hu1 hu2 hu3 hz0 hz1 hz2 hz3 t3 tf hfzb
        go_wp2_with fail
        refine bodyPost_ret (v := .tuple #[]) ?_ rfl ⟨rfl, _, _, hm8, hx9⟩
        simp [results, Try.results117, go_sem]
      · go_wp2_with fail
        try refine hK _ _ ?_
        try simp only [Act.put, List.setIfInBounds_toArray, List.set]
        refine wpAny_one (i := 14) (by kernel_rfl) ⟨_, rfl, fun K hK => ?_⟩
        have k0 : (w8.setCell ⟨bo, 3, none⟩ (.slice (some ⟨g, 0, none⟩) (l.length + 1) cap)).cell? ⟨g, l.length * 4, none⟩ = some u0 := (World.cell?_of_block (Below.heap_setCell _ _ _ _ hgb)).trans hu0
        have kf0 : (w8.setCell ⟨bo, 3, none⟩ (.slice (some ⟨g, 0, none⟩) (l.length + 1) cap)).frozen? ⟨g, l.length * 4, none⟩ = false := (frozen_of_block (Below.heap_setCell _ _ _ _ hgb)).trans hz0
        have k1 : (w8.setCell ⟨bo, 3, none⟩ (.slice (some ⟨g, 0, none⟩) (l.length + 1) cap)).cell? ⟨g, l.length * 4 + 1, none⟩ = some u1 := (World.cell?_of_block (Below.heap_setCell _ _ _ _ hgb)).trans hu1
        have kf1 : (w8.setCell ⟨bo, 3, none⟩ (.slice (some ⟨g, 0, none⟩) (l.length + 1) cap)).frozen? ⟨g, l.length * 4 + 1, none⟩ = false := (frozen_of_block (Below.heap_setCell _ _ _ _ hgb)).trans hz1
        have k2 : (w8.setCell ⟨bo, 3, none⟩ (.slice (some ⟨g, 0, none⟩) (l.length + 1) cap)).cell? ⟨g, l.length * 4 + 2, none⟩ = some u2 := (World.cell?_of_block (Below.heap_setCell _ _ _ _ hgb)).trans hu2
        have kf2 : (w8.setCell ⟨bo, 3, none⟩ (.slice (some ⟨g, 0, none⟩) (l.length + 1) cap)).frozen? ⟨g, l.length * 4 + 2, none⟩ = false := (frozen_of_block (Below.heap_setCell _ _ _ _ hgb)).trans hz2
        have k3 : (w8.setCell ⟨bo, 3, none⟩ (.slice (some ⟨g, 0, none⟩) (l.length + 1) cap)).cell? ⟨g, l.length * 4 + 3, none⟩ = some u3 := (World.cell?_of_block (Below.heap_setCell _ _ _ _ hgb)).trans hu3
        have kf3 : (w8.setCell ⟨bo, 3, none⟩ (.slice (some ⟨g, 0, none⟩) (l.length + 1) cap)).frozen? ⟨g, l.length * 4 + 3, none⟩ = false := (frozen_of_block (Below.heap_setCell _ _ _ _ hgb)).trans hz3
        go_wp2_with fail
        clear k0 k1 k2 k3 kf0 kf1 kf2 kf3
        try refine hK _ _ ?_
        try simp only [Act.put, List.setIfInBounds_toArray, List.set]
        refine wpAny_end (by kernel_rfl) ?_
        obtain ⟨hm8, hx8⟩ := HB.out
        have hx9 := fun q hq hqb => (hx8 q hq hqb).trans ((HX4.out q hq).trans (hXE q hq))
        clear HA HB HX4 hx8 hu0 hu1 hu2 hu3 hz0 hz1 hz2 hz3 t3 tf hfzb
        go_wp2_with fail
        refine bodyPost_ret (v := .tuple #[]) ?_ rfl ⟨rfl, _, _, hm8, hx9⟩
        simp [results, Try.results117, go_sem]
    · skip
      refine ⟨_, rfl, fun K hK => ?_⟩
      go_wp2_with fail
      have hz8 := (box_new w1 (.int .i64 0) (.slice none 0 0) (.slice none 0 0) (.slice none 0 0)).ext ((Ext.refl _).drew)
      have e2 : Ext w1 (w1.alloc (.cells #[.int .i64 0, .slice none 0 0, .slice none 0 0, .slice none 0 0] 26)).drew := ((Ext.refl w1).alloc _).drew
      generalize hww : (w1.alloc (.cells #[.int .i64 0, .slice none 0 0, .slice none 0 0, .slice none 0 0] 26)).drew = w2 at *
      clear hww
      refine hK _ _ e2 ?_
      try simp only [Act.put, List.setIfInBounds_toArray, List.set]
      refine wpAnyG_one (i := 9) (by kernel_rfl) ⟨_, rfl, fun K hK => ?_⟩
      go_wp2_with fail
      refine (clone_any (SizeOf.sizeOf x + 1) (fun b => b < w0.heap.size) x _ _ _ _ _ (by omega) (hx.ext e2)).mono ?_
      rintro e w3 ⟨y0', y1', y2', y3', rfl, hy', hE3⟩
      obtain ⟨yk, pq1, mm1, n1, pq2, mm2, n2, pq3, mm3, n3, rfl, rfl, rfl, rfl⟩ := hy'.form
      go_wp2_with fail
      have e4 : Ext w1 w3 := e2.trans hE3
      refine hK _ _ e4 ?_
      try simp only [Act.put, List.setIfInBounds_toArray, List.set]
      have hz9 := hz8.ext hE3
      have hy9 := ArrAt.mono (G := fun q => w1.heap.size ≤ q) (w' := w3) (fun q hq hlt => ⟨Nat.le_trans e2.lt hq, rfl⟩) _ _ _ _ _ hy'
      clear hy' hE3 e2 hz8
      refine wpAnyG_rest (by kernel_rfl) ?_
      have hM4 := hM2.next e4
      have hY4 := ArrAt.mono (G := Apart w0.heap.size (fun q => X q ∨ v2.ownBlock = some q) (.slice pv3 l.length cv3)) (w' := w3) (fun q hq _ => ⟨hAp q hq, rfl⟩) _ _ _ _ _ hy9
      clear hy9 hM2
      refine wpAny_one (i := 12) (by kernel_rfl) ⟨_, rfl, fun K hK => ?_⟩
      refine wpList_append_arr rfl _ _ rfl w0.heap.size _ (.slice pv3 l.length cv3) l.length l Arr.zero _ _ _ _ rfl hM4.oi _ _ rfl hz9 hM4.xl3 (Arr.zero_at _ _) (by omega) hM4.ext.lt ?_
      intro g cap w8 hon8 hgrow hat8 hg8 _
      obtain ⟨⟨u0, hu0⟩, ⟨u1, hu1⟩, ⟨u2, hu2⟩, ⟨u3, hu3⟩, hfz⟩ := hon8.slot (j := l.length) (by omega)
      have hz0 := hfz (l.length * 4)
      have hz1 := hfz (l.length * 4 + 1)
      have hz2 := hfz (l.length * 4 + 2)
      have hz3 := hfz (l.length * 4 + 3)
      obtain ⟨q1, q2, q3⟩ := hM4.grownI hgrow
      obtain ⟨_, _, _, t3⟩ := q2.cell
      have tf := q2.free 3
      have HA := Lib.hid (hM4.storedA (c0 := .int .i64 yk) (c1 := .slice pq1 mm1 n1) (c2 := .slice pq2 mm2 n2) (c3 := .slice pq3 mm3 n3) hgrow rfl hon8 hat8 hY4)
      have HB := Lib.hid (hM4.storedB (c0 := .int .i64 yk) (c1 := .slice pq1 mm1 n1) (c2 := .slice pq2 mm2 n2) (c3 := .slice pq3 mm3 n3) hgrow rfl hon8 hat8 hY4)
      have HX4 := Lib.hid (fun q (hq : X q) => (e4).block (hXL q hq))
      have hgb : g ≠ bo := fun e => hon8.2.1 g rfl (.inl (by rw [e]; exact hM4.xb))
      have hfzb := hfz
      clear hM4 hY4 hz9 hgrow hat8 hon8 q1 q2 q3 hg8 hfz
      refine hK _ _ ?_
      try simp only [Act.put, List.setIfInBounds_toArray, List.set]
      refine wpAny_pure 13 (.pointer (some ⟨g, l.length * 4, none⟩)) rfl (by kernel_rfl) (by kernel_rfl) (fun w9 => by go_simp; intro hcc; omega) ?_
      try simp only [Act.put, List.setIfInBounds_toArray, List.set]
      refine wpAny_pure 15 (.pointer (some ⟨bo, 0, none⟩)) rfl (by kernel_rfl) (by kernel_rfl) (fun w9 => by go_simp) ?_
      try simp only [Act.put, List.setIfInBounds_toArray, List.set]
      refine wpAny_pure 16 (.pointer (some ⟨bo, 3, none⟩)) rfl (by kernel_rfl) (by kernel_rfl) (fun w9 => by go_simp) ?_
      try simp only [Act.put, List.setIfInBounds_toArray, List.set]
      refine wpAny_two (i := 14) (j := 17) (by kernel_rfl) ⟨_, rfl, fun K hK => ?_⟩ ⟨_, rfl, fun K hK => ?_⟩
      · go_wp2_with fail
        try refine hK _ _ ?_
        try simp only [Act.put, List.setIfInBounds_toArray, List.set]
        refine wpAny_one (i := 17) (by kernel_rfl) ⟨_, rfl, fun K hK => ?_⟩
        clear hu0 hu1 hu2 hu3
        have t3' : ((((w8.setCell ⟨g, l.length * 4, none⟩ (.int .i64 yk)).setCell ⟨g, l.length * 4 + 1, none⟩ (.slice pq1 mm1 n1)).setCell ⟨g, l.length * 4 + 2, none⟩ (.slice pq2 mm2 n2)).setCell ⟨g, l.length * 4 + 3, none⟩ (.slice pq3 mm3 n3)).cell? ⟨bo, 3, none⟩ = some (.slice pv3 l.length cv3) := (World.cell?_of_block (set4_far w8 g (l.length * 4) _ _ _ _ bo (fun e => hgb e.symm))).trans t3
        have tf' : ((((w8.setCell ⟨g, l.length * 4, none⟩ (.int .i64 yk)).setCell ⟨g, l.length * 4 + 1, none⟩ (.slice pq1 mm1 n1)).setCell ⟨g, l.length * 4 + 2, none⟩ (.slice pq2 mm2 n2)).setCell ⟨g, l.length * 4 + 3, none⟩ (.slice pq3 mm3 n3)).frozen? ⟨bo, 3, none⟩ = false := (frozen_of_block (set4_far w8 g (l.length * 4) _ _ _ _ bo (fun e => hgb e.symm))).trans tf
        have hu0 := t3'
        have hu1 := t3'
        have hu2 := t3'
        have hu3 := t3'
        go_wp2_with fail
        try refine hK _ _ ?_
        try simp only [Act.put, List.setIfInBounds_toArray, List.set]
        refine wpAny_end (by kernel_rfl) ?_
        obtain ⟨hm8, hx8⟩ := HA.out
        have hx9 := fun q hq hqb => (hx8 q hq hqb).trans ((HX4.out q hq).trans (hXE q hq))
        clear HA HB HX4 hx8 hu0 hu1 hu2 hu3 hz0 hz1 hz2 hz3 t3 tf hfzb
        go_wp2_with fail
        refine bodyPost_ret (v := .tuple #[]) ?_ rfl ⟨rfl, _, _, hm8, hx9⟩
        simp [results, Try.results117, go_sem]
      · go_wp2_with fail
        try refine hK _ _ ?_
        try simp only [Act.put, List.setIfInBounds_toArray, List.set]
        refine wpAny_one (i := 14) (by kernel_rfl) ⟨_, rfl, fun K hK => ?_⟩
        have k0 : (w8.setCell ⟨bo, 3, none⟩ (.slice (some ⟨g, 0, none⟩) (l.length + 1) cap)).cell? ⟨g, l.length * 4, none⟩ = some u0 := (World.cell?_of_block (Below.heap_setCell _ _ _ _ hgb)).trans hu0
        have kf0 : (w8.setCell ⟨bo, 3, none⟩ (.slice (some ⟨g, 0, none⟩) (l.length + 1) cap)).frozen? ⟨g, l.length * 4, none⟩ = false := (frozen_of_block (Below.heap_setCell _ _ _ _ hgb)).trans hz0
        have k1 : (w8.setCell ⟨bo, 3, none⟩ (.slice (some ⟨g, 0, none⟩) (l.length + 1) cap)).cell? ⟨g, l.length * 4 + 1, none⟩ = some u1 := (World.cell?_of_block (Below.heap_setCell _ _ _ _ hgb)).trans hu1
        have kf1 : (w8.setCell ⟨bo, 3, none⟩ (.slice (some ⟨g, 0, none⟩) (l.length + 1) cap)).frozen? ⟨g, l.length * 4 + 1, none⟩ = false := (frozen_of_block (Below.heap_setCell _ _ _ _ hgb)).trans hz1
        have k2 : (w8.setCell ⟨bo, 3, none⟩ (.slice (some ⟨g, 0, none⟩) (l.length + 1) cap)).cell? ⟨g, l.length * 4 + 2, none⟩ = some u2 := (World.cell?_of_block (Below.heap_setCell _ _ _ _ hgb)).trans hu2
        have kf2 : (w8.setCell ⟨bo, 3, none⟩ (.slice (some ⟨g, 0, none⟩) (l.length + 1) cap)).frozen? ⟨g, l.length * 4 + 2, none⟩ = false := (frozen_of_block (Below.heap_setCell _ _ _ _ hgb)).trans hz2
        have k3 : (w8.setCell ⟨bo, 3, none⟩ (.slice (some ⟨g, 0, none⟩) (l.length + 1) cap)).cell? ⟨g, l.length * 4 + 3, none⟩ = some u3 := (World.cell?_of_block (Below.heap_setCell _ _ _ _ hgb)).trans hu3
        have kf3 : (w8.setCell ⟨bo, 3, none⟩ (.slice (some ⟨g, 0, none⟩) (l.length + 1) cap)).frozen? ⟨g, l.length * 4 + 3, none⟩ = false := (frozen_of_block (Below.heap_setCell _ _ _ _ hgb)).trans hz3
        go_wp2_with fail
        clear k0 k1 k2 k3 kf0 kf1 kf2 kf3
        try refine hK _ _ ?_
        try simp only [Act.put, List.setIfInBounds_toArray, List.set]
        refine wpAny_end (by kernel_rfl) ?_
        obtain ⟨hm8, hx8⟩ := HB.out
        have hx9 := fun q hq hqb => (hx8 q hq hqb).trans ((HX4.out q hq).trans (hXE q hq))
        clear HA HB HX4 hx8 hu0 hu1 hu2 hu3 hz0 hz1 hz2 hz3 t3 tf hfzb
        go_wp2_with fail
        refine bodyPost_ret (v := .tuple #[]) ?_ rfl ⟨rfl, _, _, hm8, hx9⟩
        simp [results, Try.results117, go_sem]
  · have hk' : ka ≠ 3 := by simpa using hk3
    have hii := hn hk'
    rw [if_neg hk', if_neg hk']
    clear hn hi
    obtain ⟨bv, ov, rfl, hbv, av, av1, av2⟩ := HI2.out i hii
    generalize na.getD i 0 = xv at *
    go_wp2_with fail
    generalize hw1 : w.alloc (.cells #[.int .i64 ka, .slice p1 sa.length m1, .slice (some ⟨bv, ov, none⟩) na.length m2, .slice p3 ia.length m3] 26) = w1 at *
    clear hw1 HI2 HI3
    have hM2 := HM2.out
    have hBc := HBc.out
    have hXE : ∀ q, X q → w1.heap[q]? = w.heap[q]? := fun q hq => HE0.out.block (HXL.out q hq)
    have hXL : ∀ q, X q → q < w1.heap.size := fun q hq => Nat.lt_of_lt_of_le (HXL.out q hq) HE0.out.lt
    have hne2 : v2.ownBlock ≠ some w.heap.size := fun e => by
      have := HL2.out _ (.inr e)
      omega
    have hS0 : w1.drew.cell? ⟨bo, 2, none⟩ = some v2 ∧ Box4 w1.drew w.heap.size (.int .i64 ka) (.slice p1 sa.length m1) (.slice (some ⟨bv, ov, none⟩) na.length m2) (.slice p3 ia.length m3) ∧ w1.drew.cell? ⟨bv, ov + i, none⟩ = some (.int .i64 xv) := ⟨(hM2.next ((Ext.refl _).drew)).box.cell.2.2.1, hBc.ext ((Ext.refl _).drew), ((Ext.refl w1).drew).cell av⟩
    refine wp_region_g [0, 1, 2, 3, 4, 5, 6, 7, 8, 9] [10, 11, 12, 13, 14] (fun w' => w'.cell? ⟨bo, 2, none⟩ = some v2 ∧ Box4 w' w.heap.size (.int .i64 ka) (.slice p1 sa.length m1) (.slice (some ⟨bv, ov, none⟩) na.length m2) (.slice p3 ia.length m3) ∧ w'.cell? ⟨bv, ov + i, none⟩ = some (.int .i64 xv)) (by kernel_rfl) (by kernel_rfl) hS0 ?_
    iterate 10
      refine wpHead_cons (v := ?_) rfl (by rfl) (fun w' hS => ?_) ?_
      rotate_left
      · obtain ⟨hS1, hS2, hS3⟩ := hS
        obtain ⟨sb0, sb1, sb2, sb3⟩ := hS2.cell
        go_simp
        try with_reducible rfl
      try simp only [Act.put, List.setIfInBounds_toArray, List.set]
    unfold wpHead
    refine wpTail_cons rfl (fun K hK => ?_)
    clear s0 s1 s2 s3 r0 r1 r2 r3
    go_wp2_with fail
    have hEn : Ext w1 (w1.alloc (.cells #[.int .i64 xv] 3)).drew := ((Ext.refl _).alloc _).drew
    have hnc : (w1.alloc (.cells #[.int .i64 xv] 3)).drew.cell? ⟨w1.heap.size, 0, none⟩ = some (.int .i64 xv) := by simp
    generalize (w1.alloc (.cells #[.int .i64 xv] 3)).drew = w7 at hEn hnc ⊢
    have hM7 := hM2.next hEn
    have hBc7 := hBc.ext hEn
    have av7 := hEn.cell av
    have hX7 : ∀ q, X q → w7.heap[q]? = w.heap[q]? := fun q hq => (hEn.block (hXL q hq)).trans (hXE q hq)
    refine hK _ _ ⟨hM7.box.cell.2.2.1, hBc7, av7⟩ ?_
    try simp only [Act.put, List.setIfInBounds_toArray, List.set]
    refine wpTail_cons rfl (fun K hK => ?_)
    refine wpList_append_int rfl _ _ rfl w0.heap.size _ v2 n.length n xv rfl hM7.on ⟨w1.heap.size, 0, none⟩ 1 rfl hnc hM7.xl2 ⟨av1, av2⟩ (by omega) hM7.ext.lt ?_
    intro g cap w8 hon8 hgrow hat8 _ _
    obtain ⟨q1, q2, q3⟩ := hM7.grownN hgrow
    obtain ⟨_, _, t2, _⟩ := q2.cell
    have tf := q2.free 2
    obtain ⟨hM8, hfar⟩ := hM7.storedN (n' := n ++ [xv]) hgrow (by simp) hon8 hat8
    refine hK _ _ ⟨t2, hBc7.kept (hgrow.block _ hBc7.lt (fun e => hne2 e.symm)), (World.cell?_of_block (a := ⟨bv, ov + i, none⟩) (hgrow.block bv (by have := hM7.ext.lt; omega) (fun e => by have := (hM7.on.2.2.1.lt bv e.symm).1; omega))).trans av7⟩ ?_
    try simp only [Act.put, List.setIfInBounds_toArray, List.set]
    refine wpTail_free3 rfl rfl rfl (by kernel_rfl) ?_
    have hx9 := fun q hq hqb => (hfar q hq hqb).trans (hX7 q hq)
    clear hM7 hon8 hgrow hat8 q1 q2 q3 hS0 hM2 hnc hBc7 av7 hfar
    go_wp2_with fail
    refine OnlyN.mk ?_
    clear t2 tf
    go_wp2_with fail
    go_end0
    exact ⟨rfl, _, _, hM8, hx9⟩
end Go.Proofs.Ytmpjnjhiklaofaa
