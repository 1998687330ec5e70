/-
  THE WALK of cell.part. (Printed by gen_part.py.)
-/
import Derived.Test.YtgeppialbkijiaaCFrm
import Derived.Test.YtgeppialbkijiaaSlice
import Derived.Test.YtgeppialbkijiaaClone
namespace Go.Proofs.Ytgeppialbkijiaa
set_option linter.unusedSimpArgs false
set_option linter.unusedVariables false
open Go.RowKit

theorem cutAt_ne {p : Option Addr} {k m m' q : Nat} (h : m ≠ k) (h' : m' ≠ k) : cutAt p k m q = cutAt p k m' q := by unfold cutAt; rw [if_neg h, if_neg h']
theorem IntsAt.part {F : Nat → Prop} {w : World} {p : Option Addr} {xs : List Int} (h : IntsAt F w p xs) (k n m : Nat) (hm : m = k + n) : IntsAt F w (cutAt p k m 1) ((xs.drop k).take n) := by
  subst hm
  rcases Nat.eq_zero_or_pos n with rfl | hn
  · rw [List.take_zero]; intro i hi; simp at hi
  · rw [cutAt_ne (m' := k + n + xs.length) (by omega) (by omega)]; exact h.cut k _ (by omega)
theorem ItemsAt.part {F : Nat → Prop} {w : World} {p : Option Addr} {l : List Arr} (h : ItemsAt F w p 0 l) (k n m : Nat) (hm : m = k + n) : ItemsAt F w (cutAt p k m 4) 0 ((l.drop k).take n) := by
  subst hm
  rcases Nat.eq_zero_or_pos n with rfl | hn
  · rw [List.take_zero]; unfold ItemsAt; trivial
  · rw [cutAt_ne (m' := k + n + l.length) (by omega) (by omega)]; exact h.cut k _ (by omega)
/-- The part: z elements from number a on, with a shape. -/
def partV (x : Arr) (a z : Nat) (t : List Int) : Arr := match x with | .mk kx _ nx ix => .mk kx t (if kx = 3 then [] else (nx.drop a).take z) (if kx = 3 then (ix.drop a).take z else [])

set_option maxRecDepth 100000 in
set_option maxHeartbeats 4000000 in
theorem part_any (F H : Nat → Prop) (kx : Int) (s nx : List Int) (ix : List Arr) (c0 c1 c2 c3 : Value) (a z : Nat) (t : List Int) (pt : Option Addr) (mt : Nat) (w : World) (hx : ArrAt F w (.mk kx s nx ix) c0 c1 c2 c3)
    (hn : kx ≠ 3 → a + z ≤ nx.length) (hi : kx = 3 → a + z ≤ ix.length) (ht : IntsAt H w pt t) (hto : SlOk t.length mt) :
    Calls Try.prog 125 #[.agg #[c0, c1, c2, c3], .int .i64 (a : Int), .int .i64 (z : Int), .slice pt t.length mt] w (GivesArr (partV (.mk kx s nx ix) a z t) w) := by
  have hx' := hx
  unfold ArrAt at hx'
  obtain ⟨rfl, hkx, ⟨p1, m1, rfl, ⟨o1, o1', o1''⟩, i1⟩, ⟨p2, m2, rfl, ⟨o2, o2', o2''⟩, i2⟩, ⟨p3, m3, rfl, ⟨o3, o3', o3''⟩, i3⟩⟩ := hx'
  obtain ⟨t1, t1', t1''⟩ := hto
  have HN := Lib.hid i2
  have HI := Lib.hid i3
  have HT := Lib.hid ht
  have HBN := Lib.hid hn
  have HBI := Lib.hid hi
  clear hx i1 i2 i3 ht hn hi
  have HV : Hid (partV (.mk kx s nx ix) a z t = .mk kx t (if kx = 3 then [] else (nx.drop a).take z) (if kx = 3 then (ix.drop a).take z else [])) := rfl
  generalize partV (.mk kx s nx ix) a z t = fv at *
  go_enter Try.func125, Try.ntmps125
  have hE0 : Ext w ((w.alloc (.cells #[.int .i64 kx, .slice p1 s.length m1, .slice p2 nx.length m2, .slice p3 ix.length m3] 26)).alloc (.cells #[.int .i64 0, .slice none 0 0, .slice none 0 0, .slice none 0 0] 26)) := ((Ext.refl _).alloc _).alloc _
  have hB := (box_new w (.int .i64 kx) (.slice p1 s.length m1) (.slice p2 nx.length m2) (.slice p3 ix.length m3)).ext ((Ext.refl _).alloc (.cells #[.int .i64 0, .slice none 0 0, .slice none 0 0, .slice none 0 0] 26))
  have hR := box_new (w.alloc (.cells #[.int .i64 kx, .slice p1 s.length m1, .slice p2 nx.length m2, .slice p3 ix.length m3] 26)) (.int .i64 0) (.slice none 0 0) (.slice none 0 0) (.slice none 0 0)
  rw [World.size_alloc] at hR
  have HE := Lib.hid hE0
  have HBx := Lib.hid hB
  have HBr := Lib.hid hR
  clear hE0 hB hR
  go_wp2_with fail
  generalize hw2 : (w.alloc (.cells #[.int .i64 kx, .slice p1 s.length m1, .slice p2 nx.length m2, .slice p3 ix.length m3] 26)).alloc (.cells #[.int .i64 0, .slice none 0 0, .slice none 0 0, .slice none 0 0] 26) = w2 at *
  clear hw2
  have HAx : Hid True := Lib.hid trivial
  have HAr : Hid True := Lib.hid trivial
  have HEw := Lib.hid HE.out
  have HSZ := Lib.hid HBr.out.lt
  refine wp_region_x1 [MProp.is (.pointer (some ⟨w.heap.size, 0, none⟩)), MProp.is (.int .i64 kx), MProp.is (.slice pt t.length mt), MProp.rdi t, MProp.rd (Arr.mk kx t [] []), MProp.box] [0, 1, 2, 3, 4, 5] [] [11, 12, 13, 14, 15, 9] 6 (by kernel_rfl) (by kernel_rfl) (by kernel_rfl) rfl ?_ ?_ ?_
  · refine mem_cons_m ?_ (mem_cons_m ?_ (mem_cons_m ?_ (mem_cons_m ?_ (mem_cons_m ?_ (mem_cons_m ?_ (mem_nil_m))))))
    · refine ⟨_, 11, rfl, by kernel_rfl, ?_⟩
      intro u w9 X hE hX hd K hK
      clear hd
      simp only [overlay, List.setIfInBounds_toArray, List.set] at hK ⊢
      go_wp2_with fail
      exact hK _ _ X (Ext.refl _) kept_m hX rfl
    · refine ⟨_, 12, rfl, by kernel_rfl, ?_⟩
      intro u w9 X hE hX hd K hK
      have d0 : u 11 = .pointer (some ⟨w.heap.size, 0, none⟩) := hd 0 (by kernel_rfl)
      clear hd
      simp only [overlay, List.setIfInBounds_toArray, List.set, d0] at hK ⊢
      have e9 : Ext w2 w9 := (Ext.refl w2).drew.trans hE
      obtain ⟨s0, s1, s2, s3⟩ := (HBx.out.ext e9).cell
      go_wp2_with fail
      exact hK _ _ X (Ext.refl _) kept_m hX rfl
    · refine ⟨_, 13, rfl, by kernel_rfl, ?_⟩
      intro u w9 X hE hX hd K hK
      clear hd
      simp only [overlay, List.setIfInBounds_toArray, List.set] at hK ⊢
      go_wp2_with fail
      exact hK _ _ X (Ext.refl _) kept_m hX rfl
    · refine ⟨_, 14, rfl, by kernel_rfl, ?_⟩
      intro u w9 X hE hX hd K hK
      have d2 : u 13 = .slice pt t.length mt := hd 2 (by kernel_rfl)
      clear hd
      simp only [overlay, List.setIfInBounds_toArray, List.set, d2] at hK ⊢
      have e9 : Ext w2 w9 := (Ext.refl w2).drew.trans hE
      have hcl := clone_ints H pt mt t w9 (HT.out.ext (HEw.out.trans e9)) (by unfold lenMax; omega)
      go_wp2_with fail
      refine hcl.mono ?_
      rintro e w8 ⟨v8, rfl, hO8, hE8⟩
      obtain ⟨p8, c8, rfl, hk8, hi8⟩ := hO8.ints
      have hz := RdIX.new (X := X) (w := w9) hi8 hk8 (fun b hb _ => .inl hb.1) hX.hi
      go_wp2_with fail
      exact hK _ _ X hE8 kept_m (hX.ext hE8) hz
    · refine ⟨_, 15, rfl, by kernel_rfl, ?_⟩
      intro u w9 X hE hX hd K hK
      have d1 : u 12 = .int .i64 kx := hd 1 (by kernel_rfl)
      have d3 : RdIX X w9 t (u 14) := hd 3 (by kernel_rfl)
      clear hd
      simp only [overlay, List.setIfInBounds_toArray, List.set, d1] at hK ⊢
      obtain ⟨x1, y1, hv1, hk1, hi1⟩ := d3
      simp only [hv1] at hK ⊢
      go_wp2_with fail
      exact hK _ _ X (Ext.refl _) kept_m hX (rdx_mk1 kx hkx hk1 hi1)
    · refine ⟨_, 9, rfl, by kernel_rfl, ?_⟩
      intro u w9 X hE hX hd K hK
      clear hd
      simp only [overlay, List.setIfInBounds_toArray, List.set] at hK ⊢
      go_wp2_with fail
      exact hK _ _ (fun b => X b ∨ b = w9.heap.size) ((Ext.refl _).alloc _) added_m (hX.add hE _) ⟨_, rfl, box_new _ _ _ _ _, .inr rfl⟩
  · exact mem_nil_m
  intro u w9 X hE hX hd
  have d0 : u 11 = .pointer (some ⟨w.heap.size, 0, none⟩) := hd 0 (by decide)
  have d1 : u 12 = .int .i64 kx := hd 1 (by decide)
  have d2 : u 13 = .slice pt t.length mt := hd 2 (by decide)
  have d3 : RdIX X w9 t (u 14) := hd 3 (by decide)
  have d4 : RdX X w9 (Arr.mk kx t [] []) (u 15) := hd 4 (by decide)
  have d5 : ∃ b, u 9 = .pointer (some ⟨b, 0, none⟩) ∧ Box4 w9 b (.int .i64 0) (.slice none 0 0) (.slice none 0 0) (.slice none 0 0) ∧ X b := hd 5 (by decide)
  clear hd
  simp only [overlay, List.setIfInBounds_toArray, List.set, d0, d1, d2]
  have e9 : Ext w2 w9 := (Ext.refl w2).drew.trans hE
  obtain ⟨boz1, hvb, hbox, hxb⟩ := d5
  obtain ⟨c0, c1, c2, c3, hva, hA9⟩ := d4
  obtain ⟨kz1, paz1, laz1, maz1, pbz1, lbz1, mbz1, pcz1, lcz1, mcz1, rfl, rfl, rfl, rfl⟩ := hA9.form
  have hbo := hX boz1 hxb
  have HBO := Lib.hid hbo.1
  simp only [hvb, hva]
  obtain ⟨s0, s1, s2, s3⟩ := hbox.cell
  have f0 := hbox.free 0
  have f1 := hbox.free 1
  have f2 := hbox.free 2
  have f3 := hbox.free 3
  obtain ⟨gg1, gg2, gg3⟩ := hbox.put4 e9 hbo.1 (.int .i64 kz1) (.slice paz1 laz1 maz1) (.slice pbz1 lbz1 mbz1) (.slice pcz1 lcz1 mcz1)
  have hAn := ArrAt.mono (G := fun b => b ≠ boz1) (fun b hb _ => ⟨fun e => hb.2 (by rw [e]; exact hxb), gg3 b (fun e => hb.2 (by rw [e]; exact hxb))⟩) _ _ _ _ _ hA9
  have HGG := Lib.hid (And.intro gg1 (And.intro gg2 hAn))
  clear gg1 gg2 gg3 hAn hA9 hbo hxb hbox
  clear d0 d1 d2 d3
  clear hX hE
  generalize u 14 = t14z1 at *
  clear hvb hva
  clear u
  go_wp2_with fail
  refine OnlyN.mk ?_
  obtain ⟨gg1, gg2, hAn⟩ := HGG.out
  clear HGG s0 s1 s2 s3 f0 f1 f2 f3 e9
  generalize ((((w9.setCell ⟨boz1, 0, none⟩ (.int .i64 kz1)).setCell ⟨boz1, 1, none⟩ (.slice paz1 laz1 maz1)).setCell ⟨boz1, 2, none⟩ (.slice pbz1 lbz1 mbz1)).setCell ⟨boz1, 3, none⟩ (.slice pcz1 lcz1 mcz1)) = wk2 at *
  replace HBx := Lib.hid (HBx.out.ext gg1)
  replace HBr := Lib.hid (HBr.out.ext gg1)
  replace HE := Lib.hid (HE.out.trans (gg1))
  have HBo := Lib.hid gg2
  have HAo := Lib.hid hAn
  clear gg1 gg2 hAn
  have hao := HAo.out
  unfold ArrAt at hao
  obtain ⟨e0, _, ⟨_, _, e1, ⟨u1, u1', u1''⟩, iS⟩, ⟨_, _, e2, k2, _⟩, ⟨_, _, e3, k3, _⟩⟩ := hao
  cases e0
  cases e1
  cases e2
  cases e3
  have HS := Lib.hid iS
  clear iS HAo
  obtain ⟨b, hb⟩ : ∃ b : Nat, b = a + z := ⟨_, rfl⟩
  have hbb : b ≤ 17592186044416 := by
    by_cases h3 : kx = 3
    · have := HBI.out h3; omega
    · have := HBN.out h3; omega
  have hws : IntKind.i64.wrap ((a : Int) + (z : Int)) = (b : Int) := by
    rw [IntWalk.i64_in _ (by omega)]; omega
  have hbz : b - a = z := by omega
  obtain ⟨x0, x1, x2, x3⟩ := HBx.out.cell
  obtain ⟨s0, s1, s2, s3⟩ := HBo.out.cell
  obtain ⟨r0, r1, r2, r3⟩ := HBr.out.cell
  have f2 := HBo.out.free 2
  have f3 := HBo.out.free 3
  have y0 := HBr.out.free 0
  have y1 := HBr.out.free 1
  have y2 := HBr.out.free 2
  have y3 := HBr.out.free 3
  by_cases hk3 : kx = 3
  · subst hk3
    have hle := HBI.out rfl
    have hrun := fun w => slice_lhmA p3 ix.length m3 w a b (by omega) (by omega)
    rw [hbz] at hrun
    have HCUT := Lib.hid (HI.out.part a z b hb)
    generalize cutAt p3 a b 4 = pc at *
    have HHB := Lib.hid hb
    clear hb
    go_wp2_with fail
    have hE7 : Ext w (wk2.setCell ⟨boz1, 3, none⟩ (.slice pc z z)) := HE.out.setCell (p := ⟨boz1, 3, none⟩) (by have := HBO.out; have := HEw.out.lt; simp only [World.drew] at *; omega) _
    have hfar : ∀ q, q ≠ boz1 → (wk2.setCell ⟨boz1, 3, none⟩ (.slice pc z z)).heap[q]? = wk2.heap[q]? := fun q hq => Below.heap_setCell _ _ _ _ hq
    have hS7 := HS.out.mono (G := fun _ => True) (w' := wk2.setCell ⟨boz1, 3, none⟩ (.slice pc z z)) (fun q hq _ => ⟨trivial, hfar q hq⟩)
    have hr7 := HBr.out.kept (hfar (w.heap.size + 1) (fun e => absurd HBO.out (by have := HSZ.out; rw [← e]; simp only [World.drew]; omega)))
    have hc7 := HCUT.out.ext hE7
    generalize wk2.setCell ⟨boz1, 3, none⟩ (.slice pc z z) = w7 at *
    have hA7 : ArrAt (fun _ => True) w7 (Arr.mk 3 t [] ((ix.drop a).take z)) (.int .i64 3) (.slice paz1 t.length maz1) (.slice pbz1 0 mbz1) (.slice pc z z) := by
      unfold ArrAt
      exact ⟨rfl, hkx, ⟨_, _, rfl, ⟨u1, u1', u1''⟩, hS7⟩, ⟨_, _, rfl, k2, fun i hi => by simp at hi⟩, ⟨_, _, by rw [show ((ix.drop a).take z).length = z by rw [List.length_take, List.length_drop]; omega], by rw [show ((ix.drop a).take z).length = z by rw [List.length_take, List.length_drop]; omega]; exact ⟨Nat.le_refl _, by omega, by omega⟩, ItemsAt.mono (fun q _ _ => ⟨trivial, rfl⟩) _ _ _ hc7⟩⟩
    have HVV := Lib.hid (show fv = (Arr.mk 3 t [] ((ix.drop a).take z)) by rw [HV.out]; simp)
    clear x0 x1 x2 x3 s0 s1 s2 s3 r0 r1 r2 r3 f2 f3 y0 y1 y2 y3 hS7 hc7 hfar HCUT HBr HS HV
    refine (clone_any (SizeOf.sizeOf (Arr.mk 3 t [] ((ix.drop a).take z)) + 1) (fun _ => True) (Arr.mk 3 t [] ((ix.drop a).take z)) _ _ _ _ _ (by omega) hA7).mono ?_
    rintro e w8 ⟨y0', y1', y2', y3', rfl, hy', hE8⟩
    obtain ⟨yk, pq1, mm1, n1, pq2, mm2, n2, pq3, mm3, n3, rfl, rfl, rfl, rfl⟩ := hy'.form
    have hr8 := hr7.ext hE8
    obtain ⟨g1, g2, g3⟩ := hr8.put4 (hE7.trans hE8) (by omega) (.int .i64 yk) (.slice pq1 mm1 n1) (.slice pq2 mm2 n2) (.slice pq3 mm3 n3)
    have hlt7 := hr7.lt
    have hY := ArrAt.mono (G := fun q => w.heap.size ≤ q) (fun q hq _ => ⟨Nat.le_trans hE7.lt hq, g3 q (fun e => by omega)⟩) _ _ _ _ _ hy'
    have HG := Lib.hid (And.intro g1 (And.intro g2 hY))
    obtain ⟨r0, r1, r2, r3⟩ := hr8.cell
    have y0 := hr8.free 0
    have y1 := hr8.free 1
    have y2 := hr8.free 2
    have y3 := hr8.free 3
    clear g1 g2 g3 hY hy' hr7 hA7 hE7 hE8
    go_wp2_with fail
    obtain ⟨g1, g2, hY⟩ := HG.out
    clear HG r0 r1 r2 r3
    revert g1 g2 hY
    generalize ((((w8.setCell ⟨w.heap.size + 1, 0, none⟩ (.int .i64 yk)).setCell ⟨w.heap.size + 1, 1, none⟩ (.slice pq1 mm1 n1)).setCell ⟨w.heap.size + 1, 2, none⟩ (.slice pq2 mm2 n2)).setCell ⟨w.heap.size + 1, 3, none⟩ (.slice pq3 mm3 n3)) = w10
    intro g1 g2 hY
    obtain ⟨z0, z1, z2, z3⟩ := g2.cell
    refine bodyPost_ret (v := .agg #[.int .i64 yk, .slice pq1 mm1 n1, .slice pq2 mm2 n2, .slice pq3 mm3 n3]) ?_ rfl ⟨_, _, _, _, rfl, by rw [HVV.out]; exact hY, g1⟩
    simp [results, Try.results125, go_sem, z0, z1, z2, z3]
  · have hle := HBN.out hk3
    have hrun := fun w => slice_lhm p2 nx.length m2 w a b (by omega) (by omega)
    rw [hbz] at hrun
    have HCUT := Lib.hid (HN.out.part a z b hb)
    generalize cutAt p2 a b 1 = pc at *
    have hk3' : (kx == 3) = false := by simpa using hk3
    have HHB := Lib.hid hb
    clear hb
    go_wp2_with fail
    have hE7 : Ext w (wk2.setCell ⟨boz1, 2, none⟩ (.slice pc z z)) := HE.out.setCell (p := ⟨boz1, 2, none⟩) (by have := HBO.out; have := HEw.out.lt; simp only [World.drew] at *; omega) _
    have hfar : ∀ q, q ≠ boz1 → (wk2.setCell ⟨boz1, 2, none⟩ (.slice pc z z)).heap[q]? = wk2.heap[q]? := fun q hq => Below.heap_setCell _ _ _ _ hq
    have hS7 := HS.out.mono (G := fun _ => True) (w' := wk2.setCell ⟨boz1, 2, none⟩ (.slice pc z z)) (fun q hq _ => ⟨trivial, hfar q hq⟩)
    have hr7 := HBr.out.kept (hfar (w.heap.size + 1) (fun e => absurd HBO.out (by have := HSZ.out; rw [← e]; simp only [World.drew]; omega)))
    have hc7 := HCUT.out.ext hE7
    generalize wk2.setCell ⟨boz1, 2, none⟩ (.slice pc z z) = w7 at *
    have hA7 : ArrAt (fun _ => True) w7 (Arr.mk kx t ((nx.drop a).take z) []) (.int .i64 kx) (.slice paz1 t.length maz1) (.slice pc z z) (.slice pcz1 0 mcz1) := by
      unfold ArrAt
      exact ⟨rfl, hkx, ⟨_, _, rfl, ⟨u1, u1', u1''⟩, hS7⟩, ⟨_, _, by rw [show ((nx.drop a).take z).length = z by rw [List.length_take, List.length_drop]; omega], by rw [show ((nx.drop a).take z).length = z by rw [List.length_take, List.length_drop]; omega]; exact ⟨Nat.le_refl _, by omega, by omega⟩, hc7.mono (fun q _ _ => ⟨trivial, rfl⟩)⟩, ⟨_, _, rfl, k3, by unfold ItemsAt; trivial⟩⟩
    have HVV := Lib.hid (show fv = (Arr.mk kx t ((nx.drop a).take z) []) by rw [HV.out]; simp [hk3])
    clear x0 x1 x2 x3 s0 s1 s2 s3 r0 r1 r2 r3 f2 f3 y0 y1 y2 y3 hS7 hc7 hfar HCUT HBr HS HV
    refine (clone_any (SizeOf.sizeOf (Arr.mk kx t ((nx.drop a).take z) []) + 1) (fun _ => True) (Arr.mk kx t ((nx.drop a).take z) []) _ _ _ _ _ (by omega) hA7).mono ?_
    rintro e w8 ⟨y0', y1', y2', y3', rfl, hy', hE8⟩
    obtain ⟨yk, pq1, mm1, n1, pq2, mm2, n2, pq3, mm3, n3, rfl, rfl, rfl, rfl⟩ := hy'.form
    have hr8 := hr7.ext hE8
    obtain ⟨g1, g2, g3⟩ := hr8.put4 (hE7.trans hE8) (by omega) (.int .i64 yk) (.slice pq1 mm1 n1) (.slice pq2 mm2 n2) (.slice pq3 mm3 n3)
    have hlt7 := hr7.lt
    have hY := ArrAt.mono (G := fun q => w.heap.size ≤ q) (fun q hq _ => ⟨Nat.le_trans hE7.lt hq, g3 q (fun e => by omega)⟩) _ _ _ _ _ hy'
    have HG := Lib.hid (And.intro g1 (And.intro g2 hY))
    obtain ⟨r0, r1, r2, r3⟩ := hr8.cell
    have y0 := hr8.free 0
    have y1 := hr8.free 1
    have y2 := hr8.free 2
    have y3 := hr8.free 3
    clear g1 g2 g3 hY hy' hr7 hA7 hE7 hE8
    go_wp2_with fail
    obtain ⟨g1, g2, hY⟩ := HG.out
    clear HG r0 r1 r2 r3
    revert g1 g2 hY
    generalize ((((w8.setCell ⟨w.heap.size + 1, 0, none⟩ (.int .i64 yk)).setCell ⟨w.heap.size + 1, 1, none⟩ (.slice pq1 mm1 n1)).setCell ⟨w.heap.size + 1, 2, none⟩ (.slice pq2 mm2 n2)).setCell ⟨w.heap.size + 1, 3, none⟩ (.slice pq3 mm3 n3)) = w10
    intro g1 g2 hY
    obtain ⟨z0, z1, z2, z3⟩ := g2.cell
    refine bodyPost_ret (v := .agg #[.int .i64 yk, .slice pq1 mm1 n1, .slice pq2 mm2 n2, .slice pq3 mm3 n3]) ?_ rfl ⟨_, _, _, _, rfl, by rw [HVV.out]; exact hY, g1⟩
    simp [results, Try.results125, go_sem, z0, z1, z2, z3]

end Go.Proofs.Ytgeppialbkijiaa
