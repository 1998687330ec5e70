/-
  THE WALK of the reference's Gather. (gen_gather.py, split_gather.py)
-/
import Derived.Test.YtgkemmdghmklfaaM25R
import Derived.Test.YtgkemmdghmklfaaFillR
import Derived.Deep.CutBlock
namespace Go.Proofs.Ytgkemmdghmklfaa
set_option linter.unusedSimpArgs false
set_option linter.unusedVariables false
open Go.RowKit

def fillN (k : Int) : Int := if k = 2 then 32 else 0
def fillI : Arr := .mk 1 [0] [] []
def gN (k : Int) (n : List Int) (f : Int) : Int := if f < 0 then fillN k else n.getD f.toNat 0
def gI (it : List Arr) (f : Int) : Arr := if f < 0 then fillI else it.getD f.toNat default
/-- The array that Gather makes. -/
def gatherV (s l : List Int) : Arr → Arr
  | .mk k _ n it => .mk k s (if k = 3 then [] else l.map (gN k n)) (if k = 3 then l.map (gI it) else [])

theorem getD_mem' {l : List Int} {q : Nat} {f : Int} (hq : q < l.length) (h : l.getD q 0 = f) : f ∈ l := by
  rw [← h]; simp [List.getD, hq]
theorem cell_kept {w w' : World} {b o : Nat} (e : w'.heap[b]? = w.heap[b]?) : w'.cell? ⟨b, o, none⟩ = w.cell? ⟨b, o, none⟩ := by simp only [World.cell?, e]
def SrcG (k : Int) (n : List Int) (it : List Arr) (f : Int) (v : Nat) : Arr → Prop
  | .mk _ _ zn zi => (k ≠ 3 → v < zn.length ∧ zn.getD v 0 = gN k n f) ∧ (k = 3 → v < zi.length ∧ zi.getD v default = gI it f)
theorem srcg_fill {k : Int} {ys n : List Int} {it : List Arr} {f : Int} (hk : k = 1 ∨ k = 2 ∨ k = 3) (hf : f < 0) : SrcG k n it f 0 (fillV (.mk k ys n it)) := by
  unfold fillV
  rcases hk with rfl | rfl | rfl
  · exact ⟨fun _ => ⟨by simp, by unfold gN; rw [if_pos hf]; rfl⟩, fun h => by omega⟩
  · exact ⟨fun _ => ⟨by simp, by unfold gN; rw [if_pos hf]; rfl⟩, fun h => by omega⟩
  · exact ⟨fun h => by omega, fun _ => ⟨by simp, by unfold gI; rw [if_pos hf]; rfl⟩⟩
theorem srcg_src {k : Int} {ys n : List Int} {it : List Arr} (v : Nat) (hn : k ≠ 3 → (v : Int) < n.length) (hi : k = 3 → (v : Int) < it.length) : SrcG k n it v v (.mk k ys n it) :=
  ⟨fun hk => ⟨by have := hn hk; omega, by unfold gN; rw [if_neg (by omega)]; rfl⟩, fun hk => ⟨by have := hi hk; omega, by unfold gI; rw [if_neg (by omega)]; rfl⟩⟩

set_option maxRecDepth 100000 in
set_option maxHeartbeats 8000000 in
theorem gather_any (F G H : Nat → Prop) (p1 p2 : Option Addr) (c1 c2 : Nat) (s l ys : List Int) (k : Int) (n : List Int) (it : List Arr) (d0 d1 d2 d3 : Value) (w : World) (hs : IntsAt G w p1 s) (hl : IntsAt H w p2 l) (hy : ArrAt F w (.mk k ys n it) d0 d1 d2 d3)
    (hsl : s.length ≤ 17592186044416) (hll : l.length ≤ 65536) (hk3 : k = 1 ∨ k = 2 ∨ k = 3) (hn : k ≠ 3 → ∀ f ∈ l, f < n.length) (hi : k = 3 → ∀ f ∈ l, f < it.length) :
    Calls Try.prog 114 #[.agg #[d0, d1, d2, d3], .slice p1 s.length c1, .slice p2 l.length c2] w fun e w' =>
      ∃ e0 e1 e2 e3, e = .returned (.agg #[e0, e1, e2, e3]) ∧ ArrAt (fun b => w.heap.size ≤ b ∨ (F b ∧ b < w.heap.size)) w' (gatherV s l (.mk k ys n it)) e0 e1 e2 e3 ∧ Ext w w' := by
  have hy' := hy
  unfold ArrAt at hy'
  obtain ⟨rfl, hk, ⟨q1, m1, rfl, ⟨o1, o1', o1''⟩, i1⟩, ⟨q2, m2, rfl, ⟨o2, o2', o2''⟩, i2⟩, ⟨q3, m3, rfl, ⟨o3, o3', o3''⟩, i3⟩⟩ := hy'
  have HY := Lib.hid (ArrAt.mono (G := fun b => F b ∧ b < w.heap.size) (fun b hb hlt => ⟨⟨hb, hlt⟩, rfl⟩) _ _ _ _ _ hy)
  have HN := Lib.hid hn
  have HI := Lib.hid hi
  have HK3 := Lib.hid hk3
  generalize hres : gatherV s l (.mk k ys n it) = res
  have HRES := Lib.hid hres
  have HS0 := Lib.hid hs
  have HL0 := Lib.hid (hl.mono (G := fun b => b < w.heap.size) (fun b _ hlt => ⟨hlt, rfl⟩))
  clear hres hy hs hl hn hi hk3 i1 i2 i3
  go_enter Try.func114, Try.ntmps114
  go_wp2_with fail
  have hE0 : Ext w ((w.alloc (.cells #[.int .i64 k, .slice q1 ys.length m1, .slice q2 n.length m2, .slice q3 it.length m3] 26)).alloc (.cells #[.int .i64 0, .slice none 0 0, .slice none 0 0, .slice none 0 0] 26)) := ((Ext.refl _).alloc _).alloc _
  have hB1 := (box_new w (.int .i64 k) (.slice q1 ys.length m1) (.slice q2 n.length m2) (.slice q3 it.length m3)).ext ((Ext.refl _).alloc (.cells #[.int .i64 0, .slice none 0 0, .slice none 0 0, .slice none 0 0] 26))
  have hB2 := box_new (w.alloc (.cells #[.int .i64 k, .slice q1 ys.length m1, .slice q2 n.length m2, .slice q3 it.length m3] 26)) (.int .i64 0) (.slice none 0 0) (.slice none 0 0) (.slice none 0 0)
  have hsz1 : ((w.alloc (.cells #[.int .i64 k, .slice q1 ys.length m1, .slice q2 n.length m2, .slice q3 it.length m3] 26)).alloc (.cells #[.int .i64 0, .slice none 0 0, .slice none 0 0, .slice none 0 0] 26)).heap.size = w.heap.size + 2 := by simp
  rw [World.size_alloc] at hB2
  generalize ((w.alloc (.cells #[.int .i64 k, .slice q1 ys.length m1, .slice q2 n.length m2, .slice q3 it.length m3] 26)).alloc (.cells #[.int .i64 0, .slice none 0 0, .slice none 0 0, .slice none 0 0] 26)) = w1 at hE0 hB1 hB2 hsz1 ⊢
  have HB1 := Lib.hid hB1
  have HB2 := Lib.hid hB2
  have HS := Lib.hid (HS0.out.ext hE0)
  have HL := Lib.hid (HL0.out.ext hE0)
  clear hB1 hB2 HS0 HL0
  refine wp_region_x1 [MProp.is (.pointer (some ⟨w.heap.size, 0, none⟩)), MProp.is (.int .i64 k), MProp.row w1.heap.size 0 [], MProp.is (.slice p1 s.length c1), MProp.own w1.heap.size s, MProp.ownAgg w1.heap.size k s, MProp.box] [0, 1, 2, 3, 4, 5, 6] [] [12, 13, 14, 15, 16, 17, 7] 7 (by kernel_rfl) (by kernel_rfl) rfl rfl ?_ ?_ ?_
  · refine mem_cons_m ?_ (mem_cons_m ?_ (mem_cons_m ?_ (mem_cons_m ?_ (mem_cons_m ?_ (mem_cons_m ?_ (mem_cons_m ?_ (mem_nil_m)))))))
    · refine ⟨_, 12, rfl, by kernel_rfl, ?_⟩
      intro u w9 X hE hX hd K hK
      clear hd
      simp only [overlay, List.setIfInBounds_toArray, List.set] at hK ⊢
      go_wp2_with fail
      exact hK _ _ X (Ext.refl _) kept_m hX rfl
    · refine ⟨_, 13, rfl, by kernel_rfl, ?_⟩
      intro u w9 X hE hX hd K hK
      have d0 : u 12 = .pointer (some ⟨w.heap.size, 0, none⟩) := hd 0 (by kernel_rfl)
      clear hd
      simp only [overlay, List.setIfInBounds_toArray, List.set, d0] at hK ⊢
      obtain ⟨s0, s1, s2, s3⟩ := (HB1.out.ext ((Ext.refl w1).drew.trans hE)).cell
      go_wp2_with fail
      exact hK _ _ X (Ext.refl _) kept_m hX rfl
    · refine ⟨_, 14, rfl, by kernel_rfl, ?_⟩
      intro u w9 X hE hX hd K hK
      clear hd
      simp only [overlay, List.setIfInBounds_toArray, List.set] at hK ⊢
      have hlt' : w1.heap.size ≤ w9.heap.size := hE.lt
      go_wp2_with fail
      exact hK _ _ X ((Ext.refl _).alloc _) kept_m (hX.ext ((Ext.refl _).alloc _)) ⟨_, rfl, rowI_new' w9 [], hlt', fun hx => by have := (hX _ hx).2; omega⟩
    · refine ⟨_, 15, rfl, by kernel_rfl, ?_⟩
      intro u w9 X hE hX hd K hK
      clear hd
      simp only [overlay, List.setIfInBounds_toArray, List.set] at hK ⊢
      go_wp2_with fail
      exact hK _ _ X (Ext.refl _) kept_m hX rfl
    · refine ⟨_, 16, rfl, by kernel_rfl, ?_⟩
      intro u w9 X hE hX hd K hK
      have d2 : ∃ g, u 14 = .slice (some ⟨g, 0, none⟩) 0 0 ∧ RowI w9 g [] ∧ w1.heap.size ≤ g ∧ ¬ X g := hd 2 (by kernel_rfl)
      have d3 : u 15 = .slice p1 s.length c1 := hd 3 (by kernel_rfl)
      clear hd
      simp only [overlay, List.setIfInBounds_toArray, List.set, d3] at hK ⊢
      obtain ⟨g, hv2, hr2, hb2, hx2⟩ := d2
      simp only [hv2] at hK ⊢
      have hlt' : w1.heap.size ≤ w9.heap.size := hE.lt
      refine wpList_append_zero rfl _ _ rfl G w1.heap.size X g p1 c1 s rfl hr2 hb2 hx2 rfl (HS.out.ext ((Ext.refl w1).drew.trans hE)) (fun b hb => (hX b hb).2) hsl hlt' ?_
      intro v' w' hO hE'
      obtain ⟨pv, cv, rfl, hcv⟩ := hO.form
      exact hK _ _ X hE' kept_m (hX.ext hE') ⟨pv, cv, rfl, hO⟩
    · refine ⟨_, 17, rfl, by kernel_rfl, ?_⟩
      intro u w9 X hE hX hd K hK
      have d1 : u 13 = .int .i64 k := hd 1 (by kernel_rfl)
      have d4 : ∃ p c, u 16 = .slice p s.length c ∧ OwnI w1.heap.size X w9 (.slice p s.length c) s.length s := hd 4 (by kernel_rfl)
      clear hd
      simp only [overlay, List.setIfInBounds_toArray, List.set, d1] at hK ⊢
      obtain ⟨pv, cv, hv4, hO4⟩ := d4
      simp only [hv4] at hK ⊢
      go_wp2_with fail
      exact hK _ _ X (Ext.refl _) kept_m hX ⟨pv, cv, rfl, hO4⟩
    · refine ⟨_, 7, rfl, by kernel_rfl, ?_⟩
      intro u w9 X hE hX hd K hK
      clear hd
      simp only [overlay, List.setIfInBounds_toArray, List.set] at hK ⊢
      go_wp2_with fail
      exact hK _ _ (fun b => X b ∨ b = w9.heap.size) ((Ext.refl _).alloc _) added_m (hX.add hE _) ⟨_, rfl, box_new _ _ _ _ _, .inr rfl⟩
  · exact mem_nil_m
  intro u w9 X hE hX hd
  have d0 : u 12 = .pointer (some ⟨w.heap.size, 0, none⟩) := hd 0 (by decide)
  have d1 : u 13 = .int .i64 k := hd 1 (by decide)
  have d2 : ∃ g, u 14 = .slice (some ⟨g, 0, none⟩) 0 0 ∧ RowI w9 g [] ∧ w1.heap.size ≤ g ∧ ¬ X g := hd 2 (by decide)
  have d3 : u 15 = .slice p1 s.length c1 := hd 3 (by decide)
  have d4 : ∃ p c, u 16 = .slice p s.length c ∧ OwnI w1.heap.size X w9 (.slice p s.length c) s.length s := hd 4 (by decide)
  have d5 : ∃ p c, u 17 = .agg #[.int .i64 k, .slice p s.length c, .slice none 0 0, .slice none 0 0] ∧ OwnI w1.heap.size X w9 (.slice p s.length c) s.length s := hd 5 (by decide)
  have d6 : ∃ b, u 7 = .pointer (some ⟨b, 0, none⟩) ∧ Box4 w9 b (.int .i64 0) (.slice none 0 0) (.slice none 0 0) (.slice none 0 0) ∧ X b := hd 6 (by decide)
  clear hd
  simp only [overlay, List.setIfInBounds_toArray, List.set, d0, d1, d3]
  obtain ⟨ps, cs, hv5, hO5⟩ := d5
  obtain ⟨bo, hv6, hbox, hxb⟩ := d6
  have hbo := hX bo hxb
  clear d4 d2
  simp only [hv5, hv6]
  obtain ⟨t0, t1, t2, t3⟩ := hbox.cell
  have f0 := hbox.free 0
  have f1 := hbox.free 1
  have f2 := hbox.free 2
  have f3 := hbox.free 3
  have e9 : Ext w1 w9 := (Ext.refl w1).drew.trans hE
  generalize u 14 = j14
  generalize u 16 = j16
  have hne5 : ∀ g, (Value.slice ps s.length cs).ownBlock = some g → g ≠ bo := fun g hg e => hO5.2.2.2.1 g hg (by rw [e]; exact hxb)
  clear hv5 hv6
  go_wp2_with fail
  refine OnlyN.mk ?_
  obtain ⟨gg1, gg2, gg3⟩ := hbox.put4 e9 (show w1.heap.size ≤ bo from hbo.1) (.int .i64 k) (.slice ps s.length cs) (.slice none 0 0) (.slice none 0 0)
  have hb1 : w1.heap.size ≤ bo := hbo.1
  have hOs := hO5.same (Y := fun x => x = bo) (fun g hg _ _ => ⟨gg3 g (hne5 g hg), hne5 g hg⟩)
  revert gg1 gg2 hOs
  clear gg3 t0 t1 t2 t3 f0 f1 f2 f3 hO5 hbox e9 hE hxb hX hbo hne5
  generalize ((((w9.setCell ⟨bo, 0, none⟩ (.int .i64 k)).setCell ⟨bo, 1, none⟩ (.slice ps s.length cs)).setCell ⟨bo, 2, none⟩ (.slice none 0 0)).setCell ⟨bo, 3, none⟩ (.slice none 0 0)) = w2
  intro gg1 gg2 hOs
  clear u w9 d0 d1 d3
  have HOS := Lib.hid hOs
  have hbl := gg2.lt
  obtain ⟨s0, s1, s2, s3⟩ := (HB1.out.ext gg1).cell
  go_wp2_with fail
  refine (rfill_any _ (.mk k ys n it) _ _ _ _ w2 (HY.out.ext (hE0.trans gg1))).mono ?_
  rintro e w3 ⟨a0, a1, a2, a3, rfl, hf, hE3⟩
  obtain ⟨fk, f1, l1, h1, f2, l2, h2, f3, l3, h3, rfl, rfl, rfl, rfl⟩ := hf.form
  clear s0 s1 s2 s3
  go_wp2_with fail
  have hE34 : Ext w3 (w3.alloc (.cells #[.int .i64 fk, .slice f1 l1 h1, .slice f2 l2 h2, .slice f3 l3 h3] 26)) := (Ext.refl w3).alloc _
  have hFB := box_new w3 (.int .i64 fk) (.slice f1 l1 h1) (.slice f2 l2 h2) (.slice f3 l3 h3)
  have hF4 := hf.ext hE34
  have hl3 := hE3.lt
  have hl34 : (w3.alloc (.cells #[.int .i64 fk, .slice f1 l1 h1, .slice f2 l2 h2, .slice f3 l3 h3] 26)).heap.size = w3.heap.size + 1 := by simp
  generalize hbf : w3.heap.size = bf at *
  generalize w3.alloc (.cells #[.int .i64 fk, .slice f1 l1 h1, .slice f2 l2 h2, .slice f3 l3 h3] 26) = w4 at *
  have hE24 := hE3.trans hE34
  have hE14 := gg1.trans hE24
  have hEw4 := hE0.trans hE14
  have hB4 := gg2.ext hE24
  have hl12 := gg1.lt
  have hlw := hE0.lt
  have hbf2 : w2.heap.size ≤ bf := hl3
  have HM0 := Lib.hid (MkR.fresh (R := fun b => w2.heap.size ≤ b ∨ (F b ∧ b < w.heap.size)) (X := fun x => x = bo) hE14 hb1 hB4 rfl (fun x hx => by subst hx; omega) (fun b hb => .inl (by omega)) (by omega))
  have HYB := Lib.hid (HB1.out.ext hE14)
  have HZB := Lib.hid (HB2.out.ext hE14)
  have HFB := Lib.hid hFB
  have HF4 := Lib.hid (ArrAt.mono (G := fun b => (w2.heap.size ≤ b ∨ (F b ∧ b < w.heap.size)) ∧ b ≠ bo) (fun b hb _ => ⟨⟨.inl hb, by omega⟩, rfl⟩) _ _ _ _ _ hF4)
  have HY4 := Lib.hid (ArrAt.mono (G := fun b => (w2.heap.size ≤ b ∨ (F b ∧ b < w.heap.size)) ∧ b ≠ bo) (fun b hb _ => ⟨⟨.inr hb, by omega⟩, rfl⟩) _ _ _ _ _ (HY.out.ext hEw4))
  have HL4 := Lib.hid ((HL.out.ext hE14).mono (G := fun b => b ≠ bo) (fun b hb _ => ⟨by omega, rfl⟩))
  have HOS4 := Lib.hid (HOS.out.ext hE24)
  clear hFB hF4 hf hE34 hE3 gg2 hOs HOS hB4 hbf
  go_loopw [9] (fun i wq => ∃ (q : Nat) (n' : List Int) (l' : List Arr) (v2 v3 : Value), q ≤ l.length ∧ i = .int .i64 q ∧ n'.length ≤ q ∧ l'.length ≤ q ∧ MkR w1 w4 wq (fun b => w2.heap.size ≤ b ∨ (F b ∧ b < w.heap.size)) (fun x => x = bo) bo k (.slice ps s.length cs) v2 v3 n' l' ∧
      Hid (n' = if k = 3 then [] else (l.take q).map (gN k n)) ∧ Hid (l' = if k = 3 then (l.take q).map (gI it) else [])) (fun i _ => l.length - (intOf i).toNat)
  case atStart => exact ⟨0, [], [], _, _, Nat.zero_le _, rfl, Nat.le_refl _, Nat.le_refl _, HM0.out, by simp [Hid], by simp [Hid]⟩
  case round =>
    obtain ⟨q, n', l', v2, v3, hq, rfl, hn1, hl1, hM, HGN, HGI⟩ := hrel
    clear HM0
    by_cases hlq : q < l.length
    · obtain ⟨b2, f2', rfl, ax, _, _⟩ := (HL4.out.mono (G := fun b => b ≠ bo) (w' := wr) (fun b hb hlt => ⟨hb, hM.keep b hlt hb⟩)).get hlq
      have HYBr := Lib.hid (HYB.out.kept (hM.keep w.heap.size HYB.out.lt (by omega)))
      obtain ⟨s0, s1, s2, s3⟩ := HYBr.out.cell
      go_wp2_with fail
      generalize hfl : l.getD q 0 = f at *
      have HFL := Lib.hid hfl
      clear hfl
      have hS0 : Ext wr wr.drew := (Ext.refl _).drew
      refine wp_region_g [0, 1, 2, 3, 4] [5, 6, 7] (fun w' => Ext wr w') (by kernel_rfl) (by kernel_rfl) hS0 ?_
      iterate 5
        refine wpHead_cons (v := ?_) rfl (by rfl) (fun w' hS => ?_) ?_
        rotate_left
        · have e0 := hS.cell s0
          have e1 := hS.cell s1
          have e2 := hS.cell s2
          have e3 := hS.cell s3
          have e4 := hS.cell ax
          go_simp
          try with_reducible rfl
        try simp only [Act.put, List.setIfInBounds_toArray, List.set]
      unfold wpHead
      refine wpTail_cons rfl (fun K hK => ?_)
      go_wp2_with fail
      refine hK _ _ ((Ext.refl _).drew.alloc _) ?_
      try simp only [Act.put, List.setIfInBounds_toArray, List.set]
      have hwl : w4.heap.size ≤ wr.heap.size := hM.wl
      have hEr : Ext wr (wr.alloc (.cells #[.int .i64 k, .slice q1 ys.length m1, .slice q2 n.length m2, .slice q3 it.length m3] 26)).drew := ((Ext.refl wr).alloc _).drew
      have hBS := (box_new wr (.int .i64 k) (.slice q1 ys.length m1) (.slice q2 n.length m2) (.slice q3 it.length m3)).ext ((Ext.refl _).drew)
      clear s0 s1 s2 s3 ax
      refine wpTail_cons rfl (fun K hK => ?_)
      go_wp2_with fail
      refine hK _ _ hEr ?_
      try simp only [Act.put, List.setIfInBounds_toArray, List.set]
      refine wpTail_cons rfl (fun K hK => ?_)
      go_wp2_with fail
      refine hK _ _ hEr ?_
      try simp only [Act.put, List.setIfInBounds_toArray, List.set]
      unfold wpTail
      refine OnlyN.mk ?_
      go_upto_if 32 with fail
      generalize (wr.alloc (.cells #[.int .i64 k, .slice q1 ys.length m1, .slice q2 n.length m2, .slice q3 it.length m3] 26)).drew = w7 at hBS hEr ⊢
      obtain ⟨wo, hwo⟩ : ∃ wo : World, wo = wr := ⟨_, rfl⟩
      rw [← hwo] at hM hEr hwl hBS HYBr
      generalize hbs : wr.heap.size = bs at *
      have hbs' : wo.heap.size = bs := by rw [hwo, hbs]
      rw [hbs'] at hBS hwl
      clear hwo hbs
      have hmem := getD_mem' (l := l) hlq HFL.out
      go_cut [11] (fun s11 wq => ∃ (v : Nat) (zt : Arr) (z0 z1 z2 z3 : Value), s11 = .int .i64 v ∧ Ext wo wq ∧ Box4 wq bs z0 z1 z2 z3 ∧ ArrAt (fun b => (w2.heap.size ≤ b ∨ (F b ∧ b < w.heap.size)) ∧ b ≠ bo) w4 zt z0 z1 z2 z3 ∧ Hid (SrcG k n it f v zt))
      case first =>
        by_cases hf0 : f < 0
        · have hFB7 := (HFB.out.kept (hM.keep bf HFB.out.lt (by omega))).ext hEr
          obtain ⟨x0, x1, x2, x3⟩ := hFB7.cell
          obtain ⟨t0, t1, t2, t3⟩ := hBS.cell
          have e0 := hBS.free 0
          have e1 := hBS.free 1
          have e2 := hBS.free 2
          have e3 := hBS.free 3
          have hlt8 := hBS.lt
          obtain ⟨gg3, gg4, gg5⟩ := hBS.put4 hEr (by rw [hbs']; exact Nat.le_refl _) (.int .i64 fk) (.slice f1 l1 h1) (.slice f2 l2 h2) (.slice f3 l3 h3)
          have hf0' := hf0
          go_wp2_with fail
          go_meet
          case rel => exact ⟨0, fillV (.mk k ys n it), _, _, _, _, rfl, gg3, gg4, HF4.out, srcg_fill HK3.out hf0⟩
        · obtain ⟨v, rfl⟩ := Int.eq_ofNat_of_zero_le (show 0 ≤ f by omega)
          go_wp2_with fail
          go_meet
          case rel => exact ⟨v, .mk k ys n it, _, _, _, _, rfl, hEr, hBS, HY4.out, srcg_src v (fun hk => HN.out hk _ hmem) (fun hk => HI.out hk _ hmem)⟩
      case rest =>
        obtain ⟨v, zt, z0, z1, z2, z3, rfl, hEc, hBc, hZ, hSr⟩ := hcut
        obtain ⟨zk, zs, zn, zi⟩ := zt
        unfold ArrAt at hZ
        obtain ⟨rfl, hzk, ⟨zp1, zm1, rfl, zo1, zi1⟩, ⟨zp2, zm2, rfl, zo2, zi2⟩, ⟨zp3, zm3, rfl, zo3, zi3⟩⟩ := hZ
        have hM2 := hM.next hEc
        obtain ⟨yb0, yb1, yb2, yb3⟩ := (HYBr.out.ext hEc).cell
        obtain ⟨ob0, ob1, ob2, ob3⟩ := hM2.box.cell
        have hne2 : v2.ownBlock ≠ some bs := fun e => by
          have := (hM.on.2.2.1.lt bs e).2
          omega
        have hne3 : v3.ownBlock ≠ some bs := fun e => by
          obtain ⟨_, _, cells, hr, _⟩ := hM.oi
          have := (hr.lt bs e).2
          omega
        obtain ⟨wd, hwd⟩ : ∃ wd : World, wd = wc := ⟨_, rfl⟩
        rw [← hwd] at hEc hBc hM2 yb0 yb1 yb2 yb3 ob0 ob1 ob2 ob3 ⊢
        clear hwd zi1 hM hBS hEr
        by_cases hk3 : (k == 3) = true
        · have hk' : k = 3 := by simpa using hk3
          obtain ⟨hv1, hv2⟩ := hSr.out.2 hk'
          obtain ⟨bi, off, k0, k1, k2, k3, hq3, ⟨_, hbv⟩, g0, g1, g2, g3, hx⟩ := ItemsAt.get zi _ 0 v (ItemsAt.mono (G := fun b => ((w2.heap.size ≤ b ∨ (F b ∧ b < w.heap.size)) ∧ b ≠ bo) ∧ b < w4.heap.size) (w' := wd) (fun b hb hlt => ⟨⟨hb, hlt⟩, hM2.keep b hlt hb.2⟩) _ _ _ zi3) hv1
          rw [Nat.zero_add] at g0 g1 g2 g3
          subst hq3
          have hxe : zi.getD v default = zi[v]'hv1 := by rw [List.getD, List.getElem?_eq_getElem hv1]; rfl
          rw [← hxe] at hx
          clear hxe zi2 zi3
          generalize zi.getD v default = x at *
          obtain ⟨yk, pp1, ll1, uu1, pp2, ll2, uu2, pp3, ll3, uu3, rfl, rfl, rfl, rfl⟩ := hx.form
          have HGI2 : Hid (l' ++ [x] = if k = 3 then (l.take (q + 1)).map (gI it) else []) := by
            show _ = _
            have h := HGI.out
            rw [if_pos hk'] at h
            rw [if_pos hk', h, hv2, List.take_succ_eq_append_getElem hlq, List.map_append]
            have h6 := HFL.out
            simp only [List.getD, List.getElem?_eq_getElem hlq, Option.getD_some] at h6
            rw [h6]; rfl
          have HGN2 : Hid (n' = if k = 3 then [] else (l.take (q + 1)).map (gN k n)) := by
            show _ = _
            rw [if_pos hk']
            have h := HGN.out
            rwa [if_pos hk'] at h
          clear HGN HGI hSr hk' hv2
          go_wp2_with fail
          have hS0 : wd.drew.cell? ⟨bo, 3, none⟩ = some v3 ∧ Box4 wd.drew bs (.int .i64 zk) (.slice zp1 zs.length zm1) (.slice zp2 zn.length zm2) (.slice (some ⟨bi, off, none⟩) zi.length zm3) ∧ wd.drew.heap[bi]? = wd.heap[bi]? := ⟨hM2.next ((Ext.refl _).drew) |>.box.cell.2.2.2, hBc.ext ((Ext.refl _).drew), rfl⟩
          refine wp_region_g [0, 1, 2, 3, 4, 5, 6] [7, 8, 9, 10] (fun w' => w'.cell? ⟨bo, 3, none⟩ = some v3 ∧ Box4 w' bs (.int .i64 zk) (.slice zp1 zs.length zm1) (.slice zp2 zn.length zm2) (.slice (some ⟨bi, off, none⟩) zi.length zm3) ∧ w'.heap[bi]? = wd.heap[bi]?) (by kernel_rfl) (by kernel_rfl) hS0 ?_
          iterate 7
            refine wpHead_cons (v := ?_) rfl (by rfl) (fun w' hS => ?_) ?_
            rotate_left
            · obtain ⟨hS1, hS2, hS3⟩ := hS
              obtain ⟨sb0, sb1, sb2, sb3⟩ := hS2.cell
              have e0 := (cell_kept (o := off + v * 4) hS3).trans g0
              have e1 := (cell_kept (o := off + v * 4 + 1) hS3).trans g1
              have e2 := (cell_kept (o := off + v * 4 + 2) hS3).trans g2
              have e3 := (cell_kept (o := off + v * 4 + 3) hS3).trans g3
              clear hS3
              go_simp
              try with_reducible rfl
            try simp only [Act.put, List.setIfInBounds_toArray, List.set]
          unfold wpHead
          refine wpTail_cons rfl (fun K hK => ?_)
          clear yb0 yb1 yb2 yb3 ob0 ob1 ob2 ob3 g0 g1 g2 g3
          go_wp2_with fail
          have hEn : Ext wd (wd.alloc (.cells #[.int .i64 yk, .slice pp1 ll1 uu1, .slice pp2 ll2 uu2, .slice pp3 ll3 uu3] 26)).drew := ((Ext.refl _).alloc _).drew
          have hbx := (box_new wd (.int .i64 yk) (.slice pp1 ll1 uu1) (.slice pp2 ll2 uu2) (.slice pp3 ll3 uu3)).ext ((Ext.refl _).drew)
          generalize (wd.alloc (.cells #[.int .i64 yk, .slice pp1 ll1 uu1, .slice pp2 ll2 uu2, .slice pp3 ll3 uu3] 26)).drew = w7 at hEn hbx ⊢
          have hM7 := hM2.next hEn
          have hBc7 := hBc.ext hEn
          have hwdl : w4.heap.size ≤ wd.heap.size := hM2.wl
          have av7 : w7.heap[bi]? = wd.heap[bi]? := hEn.block (by omega)
          have hbv7 : bi < w7.heap.size := Nat.lt_of_lt_of_le hbv hM7.wl
          have hY := ArrAt.mono (G := ApartR (fun b => w2.heap.size ≤ b ∨ (F b ∧ b < w.heap.size)) (fun x => x = bo ∨ v2.ownBlock = some x) v3) (w' := w7) (fun b hb hlt => ⟨hM7.apart b hb.1.1 (.inl ⟨hb.2, hb.1.2⟩), hEn.block hlt⟩) _ _ _ _ _ hx
          refine hK _ _ ⟨hM7.box.cell.2.2.2, hBc7, av7⟩ ?_
          try simp only [Act.put, List.setIfInBounds_toArray, List.set]
          refine wpTail_cons rfl (fun K hK => ?_)
          refine wpList_append_arrR rfl _ _ rfl w4.heap.size _ _ v3 l'.length l' x _ _ _ _ rfl hM7.oi _ _ rfl hbx hM7.xl3 hY (by omega) hM7.wl ?_
          intro g cap w8 hon8 hgrow hat8 _ _
          obtain ⟨q1, q2, q3⟩ := hM7.grownI hgrow
          obtain ⟨_, _, _, t3⟩ := q2.cell
          have tf := q2.free 3
          obtain ⟨hM8, hfar⟩ := hM7.storedI (l' := l' ++ [x]) hgrow (by simp) hon8 hat8
          refine hK _ _ ⟨t3, hBc7.kept (hgrow.block bs hBc7.lt (fun e => hne3 e.symm)), (hgrow.block bi hbv7 (fun e => by
            obtain ⟨_, _, cells, hr, _⟩ := hM7.oi
            have := (hr.lt bi e.symm).1; omega)).trans av7⟩ ?_
          try simp only [Act.put, List.setIfInBounds_toArray, List.set]
          refine wpTail_free2 rfl rfl (by kernel_rfl) ?_
          clear hM7 hon8 hgrow hat8 q1 q2 q3 hS0 hM2 hBc7 av7 hY hbx hx
          go_wp2_with fail
          refine OnlyN.mk ?_
          generalize hn8 : l' ++ [x] = l8 at *
          have hn8' : l8.length = l'.length + 1 := by rw [← hn8]; simp
          clear hn8
          go_wp2_with fail
          go_roundw
          case rel => exact ⟨q + 1, n', l8, _, _, by omega, by go_num, by omega, by omega, hM8, HGN2.out, HGI2.out⟩
          case measure => simp [intOf]; omega
        · have hk' : k ≠ 3 := by simpa using hk3
          have hk3' := Bool.eq_false_iff.2 hk3
          obtain ⟨hv1, hv2⟩ := hSr.out.1 hk'
          obtain ⟨bv, ov, rfl, ⟨_, hbv⟩, av, av1, av2⟩ := (zi2.mono (G := fun b => ((w2.heap.size ≤ b ∨ (F b ∧ b < w.heap.size)) ∧ b ≠ bo) ∧ b < w4.heap.size) (w' := wd) (fun b hb hlt => ⟨⟨hb, hlt⟩, hM2.keep b hlt hb.2⟩)) v hv1
          clear zi2 zi3
          generalize zn.getD v 0 = xv at *
          have HGN2 : Hid (n' ++ [xv] = if k = 3 then [] else (l.take (q + 1)).map (gN k n)) := by
            show _ = _
            have h := HGN.out
            rw [if_neg hk'] at h
            rw [if_neg hk', h, hv2, List.take_succ_eq_append_getElem hlq, List.map_append]
            have h6 := HFL.out
            simp only [List.getD, List.getElem?_eq_getElem hlq, Option.getD_some] at h6
            rw [h6]; rfl
          have HGI2 : Hid (l' = if k = 3 then (l.take (q + 1)).map (gI it) else []) := by
            show _ = _
            rw [if_neg hk']
            have h := HGI.out
            rwa [if_neg hk'] at h
          clear HGN HGI hSr hk3 hk' hv2
          go_wp2_with fail
          have hS0 : wd.drew.cell? ⟨bo, 2, none⟩ = some v2 ∧ Box4 wd.drew bs (.int .i64 zk) (.slice zp1 zs.length zm1) (.slice (some ⟨bv, ov, none⟩) zn.length zm2) (.slice zp3 zi.length zm3) ∧ wd.drew.cell? ⟨bv, ov + v, none⟩ = some (.int .i64 xv) := ⟨hM2.next ((Ext.refl _).drew) |>.box.cell.2.2.1, hBc.ext ((Ext.refl _).drew), ((Ext.refl wd).drew).cell av⟩
          refine wp_region_g [0, 1, 2, 3, 4, 5, 6] [7, 8, 9, 10] (fun w' => w'.cell? ⟨bo, 2, none⟩ = some v2 ∧ Box4 w' bs (.int .i64 zk) (.slice zp1 zs.length zm1) (.slice (some ⟨bv, ov, none⟩) zn.length zm2) (.slice zp3 zi.length zm3) ∧ w'.cell? ⟨bv, ov + v, none⟩ = some (.int .i64 xv)) (by kernel_rfl) (by kernel_rfl) hS0 ?_
          iterate 7
            refine wpHead_cons (v := ?_) rfl (by rfl) (fun w' hS => ?_) ?_
            rotate_left
            · obtain ⟨hS1, hS2, hS3⟩ := hS
              obtain ⟨sb0, sb1, sb2, sb3⟩ := hS2.cell
              go_simp
              try with_reducible rfl
            try simp only [Act.put, List.setIfInBounds_toArray, List.set]
          unfold wpHead
          refine wpTail_cons rfl (fun K hK => ?_)
          clear yb0 yb1 yb2 yb3 ob0 ob1 ob2 ob3
          go_wp2_with fail
          have hEn : Ext wd (wd.alloc (.cells #[.int .i64 xv] 3)).drew := ((Ext.refl _).alloc _).drew
          have hnc : (wd.alloc (.cells #[.int .i64 xv] 3)).drew.cell? ⟨wd.heap.size, 0, none⟩ = some (.int .i64 xv) := by simp
          generalize (wd.alloc (.cells #[.int .i64 xv] 3)).drew = w7 at hEn hnc ⊢
          have hM7 := hM2.next hEn
          have hBc7 := hBc.ext hEn
          have av7 := hEn.cell av
          have hbv7 : bv < w7.heap.size := Nat.lt_of_lt_of_le hbv hM7.wl
          refine hK _ _ ⟨hM7.box.cell.2.2.1, hBc7, av7⟩ ?_
          try simp only [Act.put, List.setIfInBounds_toArray, List.set]
          refine wpTail_cons rfl (fun K hK => ?_)
          refine wpList_append_int rfl _ _ rfl w4.heap.size _ v2 n'.length n' xv rfl hM7.on ⟨wd.heap.size, 0, none⟩ 1 rfl hnc hM7.xl2 ⟨av1, av2⟩ (by omega) hM7.wl ?_
          intro g cap w8 hon8 hgrow hat8 _ _
          obtain ⟨q1, q2, q3⟩ := hM7.grownN hgrow
          obtain ⟨_, _, t2, _⟩ := q2.cell
          have tf := q2.free 2
          obtain ⟨hM8, hfar⟩ := hM7.storedN (n' := n' ++ [xv]) hgrow (by simp) hon8 hat8
          refine hK _ _ ⟨t2, hBc7.kept (hgrow.block bs hBc7.lt (fun e => hne2 e.symm)), (cell_kept (hgrow.block bv hbv7 (fun e => by have := (hM7.on.2.2.1.lt bv e.symm).1; omega))).trans av7⟩ ?_
          try simp only [Act.put, List.setIfInBounds_toArray, List.set]
          refine wpTail_free2 rfl rfl (by kernel_rfl) ?_
          clear hM7 hon8 hgrow hat8 q1 q2 q3 hS0 hM2 hnc hBc7 av7
          go_wp2_with fail
          refine OnlyN.mk ?_
          generalize hn8 : n' ++ [xv] = n8 at *
          have hn8' : n8.length = n'.length + 1 := by rw [← hn8]; simp
          clear hn8
          go_wp2_with fail
          go_roundw
          case rel => exact ⟨q + 1, n8, l', _, _, by omega, by go_num, by omega, by omega, hM8, HGN2.out, HGI2.out⟩
          case measure => simp [intOf]; omega
    · obtain rfl : q = l.length := by omega
      have hgn := HGN.out
      have hgi := HGI.out
      rw [List.take_length] at hgn hgi
      have HR1 : Hid (Arr.mk k s n' l' = res) := by
        show _ = _
        rw [← HRES.out, gatherV, hgn, hgi]
      clear HGN HGI hgn hgi
      obtain ⟨pa, ca, hv2, _, _⟩ := hM.on.ints
      subst hv2
      obtain ⟨pb, cb, hv3, _, _⟩ := hM.oi.items hM.rr (by omega)
      subst hv3
      obtain ⟨pz, cz, hvz, hkz, hiz⟩ := HOS4.out.ints
      simp only [Value.slice.injEq] at hvz
      obtain ⟨rfl, _, rfl⟩ := hvz
      have hA := MkR.arr (G := fun b => w1.heap.size ≤ b ∧ ¬ b = bo) hM hk ⟨ps, cs, rfl, hkz, hiz.mono fun b hb hlt => ⟨hb, hM.keep b hlt hb.2⟩⟩ (by omega)
      have hbz := HZB.out.kept (hM.keep (w.heap.size + 1) HZB.out.lt (by omega))
      have hEz := hE0.trans hM.ext
      obtain ⟨s0, s1, s2, s3⟩ := hM.box.cell
      obtain ⟨x0, x1, x2, x3⟩ := hbz.cell
      have y0 := hbz.free 0
      have y1 := hbz.free 1
      have y2 := hbz.free 2
      have y3 := hbz.free 3
      have hlz := hbz.lt
      go_wp2_with fail
      obtain ⟨gg3, gg4, gg5⟩ := hbz.put4 hEz (by omega) (.int .i64 k) (.slice ps s.length cs) (.slice pa n'.length ca) (.slice pb l'.length cb)
      revert gg3 gg4 gg5
      generalize ((((wr.setCell ⟨w.heap.size + 1, 0, none⟩ (.int .i64 k)).setCell ⟨w.heap.size + 1, 1, none⟩ (.slice ps s.length cs)).setCell ⟨w.heap.size + 1, 2, none⟩ (.slice pa n'.length ca)).setCell ⟨w.heap.size + 1, 3, none⟩ (.slice pb l'.length cb)) = w9
      intro gg3 gg4 gg5
      obtain ⟨z0, z1, z2, z3⟩ := gg4.cell
      have hA9 := ArrAt.mono (G := fun b => w.heap.size ≤ b ∨ (F b ∧ b < w.heap.size)) (w' := w9) (fun b hb _ => ⟨by rcases hb with ⟨hb | hb, _⟩ | hb; exact .inl (by omega); exact .inr hb; exact .inl (by omega), gg5 b (by rcases hb with ⟨hb | hb, _⟩ | hb <;> omega)⟩) _ _ _ _ _ hA
      refine bodyPost_ret (v := .agg #[(.int .i64 k), (.slice ps s.length cs), (.slice pa n'.length ca), (.slice pb l'.length cb)]) ?_ rfl ⟨_, _, _, _, rfl, by rw [← HR1.out]; exact hA9, gg3⟩
      simp [results, Try.results114, go_sem, z0, z1, z2, z3]
end Go.Proofs.Ytgkemmdghmklfaa
