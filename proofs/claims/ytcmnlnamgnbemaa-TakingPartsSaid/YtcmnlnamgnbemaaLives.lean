/-
  THE WALK of law19.lives: the chapter's examples. (Printed by gen_lives.py.)
-/
import Derived.Test.YtcmnlnamgnbemaaRTake
import Derived.Test.YtcmnlnamgnbemaaRegY
import Derived.Test.YtcmnlnamgnbemaaTkHelp
import Derived.Test.YtcmnlnamgnbemaaBackLaw
namespace Go.Proofs.Ytcmnlnamgnbemaa
set_option linter.unusedSimpArgs false
set_option linter.unusedVariables false
open Go.RowKit

theorem rdix_lit {X : Nat → Prop} (w : World) (l : List Int) (h8 : l.length ≤ 100) (hl : ∀ x ∈ l, -9223372036854775808 ≤ x ∧ x ≤ 9223372036854775807) (hX : ∀ b, X b → b < w.heap.size) : RdIX X (w.alloc (.cells (l.map (Value.int .i64)).toArray 3)) l (.slice (some ⟨w.heap.size, 0, none⟩) l.length l.length) :=
  ⟨_, _, rfl, ⟨Nat.le_refl _, by omega, by omega⟩, ((rowI_new w l).ints hl).mono fun b hb hlt => ⟨⟨hlt, fun hx => by have := hX b hx; omega⟩, rfl⟩⟩
theorem rdix_lit0 (w : World) (l : List Int) (h8 : l.length ≤ 100) (hl : ∀ x ∈ l, -9223372036854775808 ≤ x ∧ x ≤ 9223372036854775807) : RdIX (fun _ => False) (w.alloc (.cells (l.map (Value.int .i64)).toArray 3)) l (.slice (some ⟨w.heap.size, 0, none⟩) l.length l.length) :=
  rdix_lit w l h8 hl (fun _ h => False.elim h)
theorem rdx_mk {X : Nat → Prop} {w : World} (k : Int) (hk : -9223372036854775808 ≤ k ∧ k ≤ 9223372036854775807) {p1 p2 : Option Addr} {c1 c2 : Nat} {l1 l2 : List Int} (h1 : SlOk l1.length c1) (i1 : IntsAt (fun b => b < w.heap.size ∧ ¬ X b) w p1 l1) (h2 : SlOk l2.length c2) (i2 : IntsAt (fun b => b < w.heap.size ∧ ¬ X b) w p2 l2) :
    RdX X w (.mk k l1 l2 []) (.agg #[.int .i64 k, .slice p1 l1.length c1, .slice p2 l2.length c2, .slice none 0 0]) := by
  refine ⟨_, _, _, _, rfl, ?_⟩
  unfold ArrAt
  exact ⟨rfl, hk, ⟨_, _, rfl, h1, i1⟩, ⟨_, _, rfl, h2, i2⟩, nilA _ _⟩
theorem rdx_mk1 {X : Nat → Prop} {w : World} (k : Int) (hk : -9223372036854775808 ≤ k ∧ k ≤ 9223372036854775807) {p1 : Option Addr} {c1 : Nat} {l1 : List Int} (h1 : SlOk l1.length c1) (i1 : IntsAt (fun b => b < w.heap.size ∧ ¬ X b) w p1 l1) :
    RdX X w (.mk k l1 [] []) (.agg #[.int .i64 k, .slice p1 l1.length c1, .slice none 0 0, .slice none 0 0]) := by
  refine ⟨_, _, _, _, rfl, ?_⟩
  unfold ArrAt
  exact ⟨rfl, hk, ⟨_, _, rfl, h1, i1⟩, nilI _ _, nilA _ _⟩
theorem rdx_lit1 (w : World) (k : Int) (l : List Int) (hk : -9223372036854775808 ≤ k ∧ k ≤ 9223372036854775807) (h8 : l.length ≤ 100) (hl : ∀ x ∈ l, -9223372036854775808 ≤ x ∧ x ≤ 9223372036854775807) : RdX (fun _ => False) (w.alloc (.cells (l.map (Value.int .i64)).toArray 3)) (.mk k l [] []) (.agg #[.int .i64 k, .slice (some ⟨w.heap.size, 0, none⟩) l.length l.length, .slice none 0 0, .slice none 0 0]) := by
  obtain ⟨p, c, hv, hk1, hi⟩ := rdix_lit0 w l h8 hl
  simp only [Value.slice.injEq] at hv
  obtain ⟨rfl, _, rfl⟩ := hv
  exact rdx_mk1 k hk hk1 hi
theorem RdX.mono0 {w w' : World} {t : Arr} {v : Value} (h : RdX (fun _ => False) w t v) (e : Ext w w') : RdX (fun _ => False) w' t v := h.mono e (fun _ h => False.elim h)
theorem ints_rd {X : Nat → Prop} {w : World} {l : List Int} {v : Value} (h : RdIX X w l v) (hX : ∀ b, X b → b < w.heap.size) : Calls Try.prog 46 #[v] w fun e w' => ∃ x, e = .returned x ∧ RdX X w' (vecV l) x ∧ Ext w w' := by
  obtain ⟨p, c, rfl, hk, hi⟩ := h
  refine (tkints_any _ p c l w hi hk).mono ?_
  rintro e w' ⟨e0, e1, e2, e3, rfl, hA, hE⟩
  exact ⟨_, rfl, RdX.new hA (fun b hb _ => hb.imp id (fun h => h.2)) hX, hE⟩
theorem take_at {X : Nat → Prop} {w : World} {a b t : Arr} {n : Int} {v1 v2 : Value} (ex : takeV a b = (t, n)) (h1 : RdX X w a v1) (h2 : RdX X w b v2) (hX : ∀ b, X b → b < w.heap.size) : Calls Try.prog 41 #[v1, v2] w fun e w' => ∃ x, e = .returned (.tuple #[x, .int .i64 n]) ∧ RdX X w' t x ∧ Ext w w' := by
  obtain ⟨c0, c1, c2, c3, rfl, hA⟩ := h1
  obtain ⟨d0, d1, d2, d3, rfl, hB⟩ := h2
  refine (take_any _ _ a b _ _ _ _ _ _ _ _ w hA hB).mono ?_
  rintro e w' ⟨e0, e1, e2, e3, rfl, hR, hE⟩
  rw [ex] at hR ⊢
  exact ⟨_, rfl, RdX.new hR (fun b hb _ => .inl hb) hX, hE⟩
theorem drop_at {X : Nat → Prop} {w : World} {a b t : Arr} {n : Int} {v1 v2 : Value} (ex : dropV a b = (t, n)) (h1 : RdX X w a v1) (h2 : RdX X w b v2) (hX : ∀ b, X b → b < w.heap.size) : Calls Try.prog 44 #[v1, v2] w fun e w' => ∃ x, e = .returned (.tuple #[x, .int .i64 n]) ∧ RdX X w' t x ∧ Ext w w' := by
  obtain ⟨c0, c1, c2, c3, rfl, hA⟩ := h1
  obtain ⟨d0, d1, d2, d3, rfl, hB⟩ := h2
  refine (drop_any _ _ a b _ _ _ _ _ _ _ _ w hA hB).mono ?_
  rintro e w' ⟨e0, e1, e2, e3, rfl, hR, hE⟩
  rw [ex] at hR ⊢
  exact ⟨_, rfl, RdX.new hR (fun b hb _ => .inl hb) hX, hE⟩

def lvM : Arr := .mk 1 [2, 3] [1, 2, 3, 4, 5, 6] []
theorem lv1 : takeV (vecV [-5]) (vecV [1, 2, 3]) = (vecV [0, 0, 1, 2, 3], 0) := by rfl
theorem lv2 : takeV (vecV [1, -2]) lvM = (.mk 1 [1, 2] [2, 3] [], 0) := by rfl
theorem lv3 : dropV (vecV [-1]) (vecV [1, 2, 3]) = (vecV [1, 2], 0) := by rfl
theorem lv4 : takeV (vecV [2]) (.mk 2 [0] [] []) = (.mk 2 [2] [32, 32] [], 0) := by rfl
theorem lv5 : dropV (vecV [1, 1, 1]) lvM = (Arr.zero, 16) := by rfl

set_option maxRecDepth 100000 in
set_option maxHeartbeats 8000000 in
theorem lives_any (w : World) : Calls Try.prog 40 #[] w fun e w' => e = .returned (.bool true) ∧ Ext w w' := by
  go_enter Try.func40, Try.ntmps40
  go_upto_region 2 with (fail)
  have hEn : Ext w (((w.alloc (.cells #[.int .i64 2, .int .i64 3] 3)).alloc (.cells #[.int .i64 1, .int .i64 2, .int .i64 3, .int .i64 4, .int .i64 5, .int .i64 6] 3)).alloc (.cells #[.int .i64 1, .slice (some ⟨w.heap.size, 0, none⟩) 2 2, .slice (some ⟨w.heap.size + 1, 0, none⟩) 6 6, .slice none 0 0] 26)) := (((Ext.refl _).alloc _).alloc _).alloc _
  have hBn := box_new ((w.alloc (.cells #[.int .i64 2, .int .i64 3] 3)).alloc (.cells #[.int .i64 1, .int .i64 2, .int .i64 3, .int .i64 4, .int .i64 5, .int .i64 6] 3)) (.int .i64 1) (.slice (some ⟨w.heap.size, 0, none⟩) 2 2) (.slice (some ⟨w.heap.size + 1, 0, none⟩) 6 6) (.slice none 0 0)
  rw [World.size_alloc, World.size_alloc] at hBn
  have hAn : ArrAt (fun _ => True) (((w.alloc (.cells #[.int .i64 2, .int .i64 3] 3)).alloc (.cells #[.int .i64 1, .int .i64 2, .int .i64 3, .int .i64 4, .int .i64 5, .int .i64 6] 3)).alloc (.cells #[.int .i64 1, .slice (some ⟨w.heap.size, 0, none⟩) 2 2, .slice (some ⟨w.heap.size + 1, 0, none⟩) 6 6, .slice none 0 0] 26)) lvM (.int .i64 1) (.slice (some ⟨w.heap.size, 0, none⟩) 2 2) (.slice (some ⟨w.heap.size + 1, 0, none⟩) 6 6) (.slice none 0 0) := by
    unfold lvM ArrAt
    refine ⟨rfl, by decide, ⟨_, _, rfl, ⟨by decide, by decide, by decide⟩, ?_⟩, ⟨_, _, rfl, ⟨by decide, by decide, by decide⟩, ?_⟩, nilA _ _⟩
    · exact (((rowI_new w [2, 3]).ints (by decide)).mono (G := fun _ => True) (fun b _ _ => ⟨trivial, rfl⟩)).ext (((Ext.refl _).alloc _).alloc _)
    · have h := (rowI_new (w.alloc (.cells #[.int .i64 2, .int .i64 3] 3)) [1, 2, 3, 4, 5, 6]).ints (by decide)
      rw [World.size_alloc] at h
      exact (h.mono (G := fun _ => True) (fun b _ _ => ⟨trivial, rfl⟩)).ext ((Ext.refl _).alloc _)
  have HE := Lib.hid hEn
  have HBm := Lib.hid hBn
  have HAm := Lib.hid hAn
  clear hEn hBn hAn
  generalize (((w.alloc (.cells #[.int .i64 2, .int .i64 3] 3)).alloc (.cells #[.int .i64 1, .int .i64 2, .int .i64 3, .int .i64 4, .int .i64 5, .int .i64 6] 3)).alloc (.cells #[.int .i64 1, .slice (some ⟨w.heap.size, 0, none⟩) 2 2, .slice (some ⟨w.heap.size + 1, 0, none⟩) 6 6, .slice none 0 0] 26)) = w1 at *
  go_wp2_with fail
  refine (ints_rd (rdix_lit0 w1 [(-5)] (by decide) (by decide)) (fun _ h => False.elim h)).mono ?_
  rintro e wf2 ⟨x1, rfl, hx1, hEx1⟩
  replace hEx1 := ((Ext.refl w1).alloc (.cells #[.int .i64 (-5)] 3)).trans hEx1
  go_wp2_with fail
  refine (ints_rd (rdix_lit0 wf2 [1, 2, 3] (by decide) (by decide)) (fun _ h => False.elim h)).mono ?_
  rintro e wf4 ⟨x3, rfl, hx3, hEx3⟩
  replace hEx3 := ((Ext.refl wf2).alloc (.cells #[.int .i64 1, .int .i64 2, .int .i64 3] 3)).trans hEx3
  replace hx1 := hx1.mono0 hEx3
  go_wp2_with fail
  refine (take_at lv1 hx1 hx3 (fun _ h => False.elim h)).mono ?_
  rintro e wf6 ⟨x5, rfl, hx5, hEx5⟩
  obtain ⟨c0, c1, c2, c3, rfl, hA9⟩ := hx5
  obtain ⟨kx5, pax5, lax5, max5, pbx5, lbx5, mbx5, pcx5, lcx5, mcx5, rfl, rfl, rfl, rfl⟩ := hA9.form
  have hEn := ((((Ext.refl w1).trans hEx1).trans hEx3).trans hEx5).alloc (.cells #[(.int .i64 kx5), (.slice pax5 lax5 max5), (.slice pbx5 lbx5 mbx5), (.slice pcx5 lcx5 mcx5)] 26)
  have hBn := box_new wf6 (.int .i64 kx5) (.slice pax5 lax5 max5) (.slice pbx5 lbx5 mbx5) (.slice pcx5 lcx5 mcx5)
  have hAn := hA9.ext ((Ext.refl _).alloc (.cells #[(.int .i64 kx5), (.slice pax5 lax5 max5), (.slice pbx5 lbx5 mbx5), (.slice pcx5 lcx5 mcx5)] 26))
  clear hA9 hEx5 hEx1 hEx3 hx1 hx3
  have HF := Lib.hid (And.intro hEn (And.intro hBn hAn))
  clear hEn hBn hAn
  go_wp2_with fail
  obtain ⟨hEn, hBn, hAn⟩ := HF.out
  clear HF
  generalize hbz : wf6.heap.size = bx5 at *
  clear hbz
  generalize wf6.alloc (.cells #[(.int .i64 kx5), (.slice pax5 lax5 max5), (.slice pbx5 lbx5 mbx5), (.slice pcx5 lcx5 mcx5)] 26) = wk7 at *
  have HBm := Lib.hid (HBm.out.ext hEn)
  have HAm := Lib.hid (HAm.out.ext hEn)
  have HE := Lib.hid (HE.out.trans (hEn))
  have HBa := Lib.hid hBn
  have HAa := Lib.hid hAn
  clear hEn hBn hAn
  refine wp_region_y2 [MProp.rdi [1, (-2)], MProp.rd (vecV [1, -2]), MProp.is (.agg #[(.int .i64 1), (.slice (some ⟨w.heap.size, 0, none⟩) 2 2), (.slice (some ⟨w.heap.size + 1, 0, none⟩) 6 6), (.slice none 0 0)]), MProp.rd2 (.mk 1 [1, 2] [2, 3] []) 0, MProp.rd2 (.mk 1 [1, 2] [2, 3] []) 0, MProp.rd (.mk 1 [1, 2] [2, 3] []), MProp.is (.int .i64 0), MProp.box] [0, 1, 2, 3, 4, 5, 6, 7] [6] [24, 25, 26, 27, 23, 28, 29, 4] 8 9 (by kernel_rfl) (by kernel_rfl) (by kernel_rfl) rfl rfl ?_ ?_ ?_
  · refine mem_cons_m ?_ (mem_cons_m ?_ (mem_cons_m ?_ (mem_cons_m ?_ (mem_cons_m ?_ (mem_cons_m ?_ (mem_cons_m ?_ (mem_cons_m ?_ (mem_nil_m))))))))
    · refine ⟨_, 24, rfl, by kernel_rfl, ?_⟩
      intro u w9 X hE hX hd K hK
      clear hd
      simp only [overlay, List.setIfInBounds_toArray, List.set] at hK ⊢
      go_wp2_with fail
      exact hK _ _ X ((Ext.refl _).alloc _) kept_m (hX.ext ((Ext.refl _).alloc _)) (rdix_lit w9 [1, (-2)] (by decide) (by decide) hX.hi)
    · refine ⟨_, 25, rfl, by kernel_rfl, ?_⟩
      intro u w9 X hE hX hd K hK
      have d0 : RdIX X w9 [1, (-2)] (u 24) := hd 0 (by kernel_rfl)
      clear hd
      simp only [overlay, List.setIfInBounds_toArray, List.set] at hK ⊢
      have e9 : Ext wk7 w9 := (Ext.refl wk7).drew.trans hE
      go_wp2_with fail
      refine (ints_rd d0 hX.hi).mono ?_
      rintro e w8 ⟨x8, rfl, hx8, hE8⟩
      go_wp2_with fail
      exact hK _ _ X hE8 kept_m (hX.ext hE8) hx8
    · refine ⟨_, 26, rfl, by kernel_rfl, ?_⟩
      intro u w9 X hE hX hd K hK
      clear hd
      simp only [overlay, List.setIfInBounds_toArray, List.set] at hK ⊢
      have e9 : Ext wk7 w9 := (Ext.refl wk7).drew.trans hE
      obtain ⟨s0, s1, s2, s3⟩ := (HBm.out.ext e9).cell
      go_wp2_with fail
      exact hK _ _ X (Ext.refl _) kept_m hX rfl
    · refine ⟨_, 27, rfl, by kernel_rfl, ?_⟩
      intro u w9 X hE hX hd K hK
      have d1 : RdX X w9 (vecV [1, -2]) (u 25) := hd 1 (by kernel_rfl)
      have d2 : u 26 = .agg #[(.int .i64 1), (.slice (some ⟨w.heap.size, 0, none⟩) 2 2), (.slice (some ⟨w.heap.size + 1, 0, none⟩) 6 6), (.slice none 0 0)] := hd 2 (by kernel_rfl)
      clear hd
      simp only [overlay, List.setIfInBounds_toArray, List.set, d2] at hK ⊢
      have e9 : Ext wk7 w9 := (Ext.refl wk7).drew.trans hE
      go_wp2_with fail
      refine (take_at lv2 d1 (RdX.old HAm.out e9 hX.lo) hX.hi).mono ?_
      rintro e w8 ⟨x8, rfl, hx8, hE8⟩
      go_wp2_with fail
      exact hK _ _ X hE8 kept_m (hX.ext hE8) ⟨x8, rfl, hx8⟩
    · refine ⟨_, 23, rfl, by kernel_rfl, ?_⟩
      intro u w9 X hE hX hd K hK
      have d3 : ∃ x, u 27 = .tuple #[x, .int .i64 0] ∧ RdX X w9 (.mk 1 [1, 2] [2, 3] []) x := hd 3 (by kernel_rfl)
      clear hd
      simp only [overlay, List.setIfInBounds_toArray, List.set] at hK ⊢
      obtain ⟨x8, hv8, hx8⟩ := d3
      simp only [hv8] at hK ⊢
      go_wp2_with fail
      exact hK _ _ X (Ext.refl _) kept_m hX ⟨x8, rfl, hx8⟩
    · refine ⟨_, 28, rfl, by kernel_rfl, ?_⟩
      intro u w9 X hE hX hd K hK
      have d4 : ∃ x, u 23 = .tuple #[x, .int .i64 0] ∧ RdX X w9 (.mk 1 [1, 2] [2, 3] []) x := hd 4 (by kernel_rfl)
      clear hd
      simp only [overlay, List.setIfInBounds_toArray, List.set] at hK ⊢
      obtain ⟨x8, hv8, hx8⟩ := d4
      simp only [hv8] at hK ⊢
      go_wp2_with fail
      exact hK _ _ X (Ext.refl _) kept_m hX hx8
    · refine ⟨_, 29, rfl, by kernel_rfl, ?_⟩
      intro u w9 X hE hX hd K hK
      have d4 : ∃ x, u 23 = .tuple #[x, .int .i64 0] ∧ RdX X w9 (.mk 1 [1, 2] [2, 3] []) x := hd 4 (by kernel_rfl)
      clear hd
      simp only [overlay, List.setIfInBounds_toArray, List.set] at hK ⊢
      obtain ⟨x8, hv8, hx8⟩ := d4
      simp only [hv8] at hK ⊢
      go_wp2_with fail
      exact hK _ _ X (Ext.refl _) kept_m hX rfl
    · refine ⟨_, 4, rfl, by kernel_rfl, ?_⟩
      intro u w9 X hE hX hd K hK
      clear hd
      simp only [overlay, List.setIfInBounds_toArray, List.set] at hK ⊢
      go_wp2_with fail
      exact hK _ _ (fun b => X b ∨ b = w9.heap.size) ((Ext.refl _).alloc _) added_m (hX.add hE _) ⟨_, rfl, box_new _ _ _ _ _, .inr rfl⟩
  · refine mem_cons_m ?_ (mem_nil_m)
    · refine ⟨_, rfl, ?_⟩
      intro u w9 X hd
      have d4 : ∃ x, u 23 = .tuple #[x, .int .i64 0] ∧ RdX X w9 (.mk 1 [1, 2] [2, 3] []) x := hd 4 (by kernel_rfl)
      clear hd
      obtain ⟨x8, hv8, hx8⟩ := d4
      simp only [overlay, List.setIfInBounds_toArray, List.set, hv8]
      exact ⟨.int .i64 0, .inl ⟨by kernel_rfl, fun w8 => by go_simp⟩, rfl⟩
  intro u w9 X hE hX hd
  have d0 : RdIX X w9 [1, (-2)] (u 24) := hd 0 (by decide)
  have d1 : RdX X w9 (vecV [1, -2]) (u 25) := hd 1 (by decide)
  have d2 : u 26 = .agg #[(.int .i64 1), (.slice (some ⟨w.heap.size, 0, none⟩) 2 2), (.slice (some ⟨w.heap.size + 1, 0, none⟩) 6 6), (.slice none 0 0)] := hd 2 (by decide)
  have d3 : ∃ x, u 27 = .tuple #[x, .int .i64 0] ∧ RdX X w9 (.mk 1 [1, 2] [2, 3] []) x := hd 3 (by decide)
  have d4 : ∃ x, u 23 = .tuple #[x, .int .i64 0] ∧ RdX X w9 (.mk 1 [1, 2] [2, 3] []) x := hd 4 (by decide)
  have d5 : RdX X w9 (.mk 1 [1, 2] [2, 3] []) (u 28) := hd 5 (by decide)
  have d6 : u 29 = .int .i64 0 := hd 6 (by decide)
  have d7 : ∃ b, u 4 = .pointer (some ⟨b, 0, none⟩) ∧ Box4 w9 b (.int .i64 0) (.slice none 0 0) (.slice none 0 0) (.slice none 0 0) ∧ X b := hd 7 (by decide)
  clear hd
  simp only [overlay, List.setIfInBounds_toArray, List.set, d2, d6]
  have e9 : Ext wk7 w9 := (Ext.refl wk7).drew.trans hE
  obtain ⟨boz8, hvb, hbox, hxb⟩ := d7
  obtain ⟨c0, c1, c2, c3, hva, hA9⟩ := d5
  obtain ⟨kz8, paz8, laz8, maz8, pbz8, lbz8, mbz8, pcz8, lcz8, mcz8, rfl, rfl, rfl, rfl⟩ := hA9.form
  have hbo := hX boz8 hxb
  simp only [hvb, hva]
  obtain ⟨s0, s1, s2, s3⟩ := hbox.cell
  have f0 := hbox.free 0
  have f1 := hbox.free 1
  have f2 := hbox.free 2
  have f3 := hbox.free 3
  obtain ⟨gg1, gg2, gg3⟩ := hbox.put4 e9 hbo.1 (.int .i64 kz8) (.slice paz8 laz8 maz8) (.slice pbz8 lbz8 mbz8) (.slice pcz8 lcz8 mcz8)
  have hAn := ArrAt.mono (G := fun _ => True) (fun b hb _ => ⟨trivial, gg3 b (fun e => hb.2 (by rw [e]; exact hxb))⟩) _ _ _ _ _ hA9
  have HGG := Lib.hid (And.intro gg1 (And.intro gg2 hAn))
  clear gg1 gg2 gg3 hAn hA9 hbo hxb hbox
  clear d0 d1 d2 d3 d4 d6
  clear hX hE
  generalize u 24 = t24z8 at *
  generalize u 25 = t25z8 at *
  generalize u 27 = t27z8 at *
  generalize u 23 = t23z8 at *
  clear hvb hva
  clear u
  go_wp2_with fail
  refine OnlyN.mk ?_
  obtain ⟨gg1, gg2, hAn⟩ := HGG.out
  clear HGG s0 s1 s2 s3 f0 f1 f2 f3 e9
  generalize ((((w9.setCell ⟨boz8, 0, none⟩ (.int .i64 kz8)).setCell ⟨boz8, 1, none⟩ (.slice paz8 laz8 maz8)).setCell ⟨boz8, 2, none⟩ (.slice pbz8 lbz8 mbz8)).setCell ⟨boz8, 3, none⟩ (.slice pcz8 lcz8 mcz8)) = wk9 at *
  have HBm := Lib.hid (HBm.out.ext gg1)
  have HAm := Lib.hid (HAm.out.ext gg1)
  have HBa := Lib.hid (HBa.out.ext gg1)
  have HAa := Lib.hid (HAa.out.ext gg1)
  have HE := Lib.hid (HE.out.trans (gg1))
  have HBb := Lib.hid gg2
  have HAb := Lib.hid hAn
  clear gg1 gg2 hAn
  go_wp2_with fail
  refine (ints_rd (rdix_lit0 wk9 [(-1)] (by decide) (by decide)) (fun _ h => False.elim h)).mono ?_
  rintro e wf11 ⟨x10, rfl, hx10, hEx10⟩
  replace hEx10 := ((Ext.refl wk9).alloc (.cells #[.int .i64 (-1)] 3)).trans hEx10
  go_wp2_with fail
  refine (ints_rd (rdix_lit0 wf11 [1, 2, 3] (by decide) (by decide)) (fun _ h => False.elim h)).mono ?_
  rintro e wf13 ⟨x12, rfl, hx12, hEx12⟩
  replace hEx12 := ((Ext.refl wf11).alloc (.cells #[.int .i64 1, .int .i64 2, .int .i64 3] 3)).trans hEx12
  replace hx10 := hx10.mono0 hEx12
  go_wp2_with fail
  refine (drop_at lv3 hx10 hx12 (fun _ h => False.elim h)).mono ?_
  rintro e wf15 ⟨x14, rfl, hx14, hEx14⟩
  obtain ⟨c0, c1, c2, c3, rfl, hA9⟩ := hx14
  obtain ⟨kx14, pax14, lax14, max14, pbx14, lbx14, mbx14, pcx14, lcx14, mcx14, rfl, rfl, rfl, rfl⟩ := hA9.form
  have hEn := ((((Ext.refl wk9).trans hEx10).trans hEx12).trans hEx14).alloc (.cells #[(.int .i64 kx14), (.slice pax14 lax14 max14), (.slice pbx14 lbx14 mbx14), (.slice pcx14 lcx14 mcx14)] 26)
  have hBn := box_new wf15 (.int .i64 kx14) (.slice pax14 lax14 max14) (.slice pbx14 lbx14 mbx14) (.slice pcx14 lcx14 mcx14)
  have hAn := hA9.ext ((Ext.refl _).alloc (.cells #[(.int .i64 kx14), (.slice pax14 lax14 max14), (.slice pbx14 lbx14 mbx14), (.slice pcx14 lcx14 mcx14)] 26))
  clear hA9 hEx14 hEx10 hEx12 hx10 hx12
  have HF := Lib.hid (And.intro hEn (And.intro hBn hAn))
  clear hEn hBn hAn
  go_upto_region 5 with (fail)
  obtain ⟨hEn, hBn, hAn⟩ := HF.out
  clear HF
  generalize hbz : wf15.heap.size = bx14 at *
  clear hbz
  generalize wf15.alloc (.cells #[(.int .i64 kx14), (.slice pax14 lax14 max14), (.slice pbx14 lbx14 mbx14), (.slice pcx14 lcx14 mcx14)] 26) = wk16 at *
  have HBm := Lib.hid (HBm.out.ext hEn)
  have HAm := Lib.hid (HAm.out.ext hEn)
  have HBa := Lib.hid (HBa.out.ext hEn)
  have HAa := Lib.hid (HAa.out.ext hEn)
  have HBb := Lib.hid (HBb.out.ext hEn)
  have HAb := Lib.hid (HAb.out.ext hEn)
  have HE := Lib.hid (HE.out.trans (hEn))
  have HBc := Lib.hid hBn
  have HAc := Lib.hid hAn
  clear hEn hBn hAn
  go_wp2_with fail
  refine (ints_rd (rdix_lit0 wk16 [2] (by decide) (by decide)) (fun _ h => False.elim h)).mono ?_
  rintro e wf18 ⟨x17, rfl, hx17, hEx17⟩
  replace hEx17 := ((Ext.refl wk16).alloc (.cells #[.int .i64 2] 3)).trans hEx17
  replace hx17 := hx17.mono0 ((Ext.refl wf18).alloc (.cells #[.int .i64 0] 3))
  go_wp2_with fail
  refine (take_at lv4 hx17 (rdx_lit1 wf18 2 [0] (by decide) (by decide) (by decide)) (fun _ h => False.elim h)).mono ?_
  rintro e wf20 ⟨x19, rfl, hx19, hEx19⟩
  obtain ⟨c0, c1, c2, c3, rfl, hA9⟩ := hx19
  obtain ⟨kx19, pax19, lax19, max19, pbx19, lbx19, mbx19, pcx19, lcx19, mcx19, rfl, rfl, rfl, rfl⟩ := hA9.form
  have hEn := ((((Ext.refl wk16).trans hEx17).trans ((Ext.refl wf18).alloc (.cells #[.int .i64 0] 3))).trans hEx19).alloc (.cells #[(.int .i64 kx19), (.slice pax19 lax19 max19), (.slice pbx19 lbx19 mbx19), (.slice pcx19 lcx19 mcx19)] 26)
  have hBn := box_new wf20 (.int .i64 kx19) (.slice pax19 lax19 max19) (.slice pbx19 lbx19 mbx19) (.slice pcx19 lcx19 mcx19)
  have hAn := hA9.ext ((Ext.refl _).alloc (.cells #[(.int .i64 kx19), (.slice pax19 lax19 max19), (.slice pbx19 lbx19 mbx19), (.slice pcx19 lcx19 mcx19)] 26))
  clear hA9 hEx19 hEx17 hx17
  have HF := Lib.hid (And.intro hEn (And.intro hBn hAn))
  clear hEn hBn hAn
  go_wp2_with fail
  obtain ⟨hEn, hBn, hAn⟩ := HF.out
  clear HF
  generalize hbz : wf20.heap.size = bx19 at *
  clear hbz
  generalize wf20.alloc (.cells #[(.int .i64 kx19), (.slice pax19 lax19 max19), (.slice pbx19 lbx19 mbx19), (.slice pcx19 lcx19 mcx19)] 26) = wk21 at *
  have HBm := Lib.hid (HBm.out.ext hEn)
  have HAm := Lib.hid (HAm.out.ext hEn)
  have HBa := Lib.hid (HBa.out.ext hEn)
  have HAa := Lib.hid (HAa.out.ext hEn)
  have HBb := Lib.hid (HBb.out.ext hEn)
  have HAb := Lib.hid (HAb.out.ext hEn)
  have HBc := Lib.hid (HBc.out.ext hEn)
  have HAc := Lib.hid (HAc.out.ext hEn)
  have HE := Lib.hid (HE.out.trans (hEn))
  have HBd := Lib.hid hBn
  have HAd := Lib.hid hAn
  clear hEn hBn hAn
  refine wp_region_y2 [MProp.rdi [1, 1, 1], MProp.rd (vecV [1, 1, 1]), MProp.is (.agg #[(.int .i64 1), (.slice (some ⟨w.heap.size, 0, none⟩) 2 2), (.slice (some ⟨w.heap.size + 1, 0, none⟩) 6 6), (.slice none 0 0)]), MProp.rd2 (Arr.zero) 16, MProp.rd2 (Arr.zero) 16, MProp.rd (Arr.zero), MProp.is (.int .i64 16), MProp.box] [0, 1, 2, 3, 4, 5, 6, 7] [6] [47, 48, 49, 50, 46, 51, 52, 10] 8 9 (by kernel_rfl) (by kernel_rfl) (by kernel_rfl) rfl rfl ?_ ?_ ?_
  · refine mem_cons_m ?_ (mem_cons_m ?_ (mem_cons_m ?_ (mem_cons_m ?_ (mem_cons_m ?_ (mem_cons_m ?_ (mem_cons_m ?_ (mem_cons_m ?_ (mem_nil_m))))))))
    · refine ⟨_, 47, rfl, by kernel_rfl, ?_⟩
      intro u w9 X hE hX hd K hK
      clear hd
      simp only [overlay, List.setIfInBounds_toArray, List.set] at hK ⊢
      go_wp2_with fail
      exact hK _ _ X ((Ext.refl _).alloc _) kept_m (hX.ext ((Ext.refl _).alloc _)) (rdix_lit w9 [1, 1, 1] (by decide) (by decide) hX.hi)
    · refine ⟨_, 48, rfl, by kernel_rfl, ?_⟩
      intro u w9 X hE hX hd K hK
      have d0 : RdIX X w9 [1, 1, 1] (u 47) := hd 0 (by kernel_rfl)
      clear hd
      simp only [overlay, List.setIfInBounds_toArray, List.set] at hK ⊢
      have e9 : Ext wk21 w9 := (Ext.refl wk21).drew.trans hE
      go_wp2_with fail
      refine (ints_rd d0 hX.hi).mono ?_
      rintro e w8 ⟨x8, rfl, hx8, hE8⟩
      go_wp2_with fail
      exact hK _ _ X hE8 kept_m (hX.ext hE8) hx8
    · refine ⟨_, 49, rfl, by kernel_rfl, ?_⟩
      intro u w9 X hE hX hd K hK
      clear hd
      simp only [overlay, List.setIfInBounds_toArray, List.set] at hK ⊢
      have e9 : Ext wk21 w9 := (Ext.refl wk21).drew.trans hE
      obtain ⟨s0, s1, s2, s3⟩ := (HBm.out.ext e9).cell
      go_wp2_with fail
      exact hK _ _ X (Ext.refl _) kept_m hX rfl
    · refine ⟨_, 50, rfl, by kernel_rfl, ?_⟩
      intro u w9 X hE hX hd K hK
      have d1 : RdX X w9 (vecV [1, 1, 1]) (u 48) := hd 1 (by kernel_rfl)
      have d2 : u 49 = .agg #[(.int .i64 1), (.slice (some ⟨w.heap.size, 0, none⟩) 2 2), (.slice (some ⟨w.heap.size + 1, 0, none⟩) 6 6), (.slice none 0 0)] := hd 2 (by kernel_rfl)
      clear hd
      simp only [overlay, List.setIfInBounds_toArray, List.set, d2] at hK ⊢
      have e9 : Ext wk21 w9 := (Ext.refl wk21).drew.trans hE
      go_wp2_with fail
      refine (drop_at lv5 d1 (RdX.old HAm.out e9 hX.lo) hX.hi).mono ?_
      rintro e w8 ⟨x8, rfl, hx8, hE8⟩
      go_wp2_with fail
      exact hK _ _ X hE8 kept_m (hX.ext hE8) ⟨x8, rfl, hx8⟩
    · refine ⟨_, 46, rfl, by kernel_rfl, ?_⟩
      intro u w9 X hE hX hd K hK
      have d3 : ∃ x, u 50 = .tuple #[x, .int .i64 16] ∧ RdX X w9 (Arr.zero) x := hd 3 (by kernel_rfl)
      clear hd
      simp only [overlay, List.setIfInBounds_toArray, List.set] at hK ⊢
      obtain ⟨x8, hv8, hx8⟩ := d3
      simp only [hv8] at hK ⊢
      go_wp2_with fail
      exact hK _ _ X (Ext.refl _) kept_m hX ⟨x8, rfl, hx8⟩
    · refine ⟨_, 51, rfl, by kernel_rfl, ?_⟩
      intro u w9 X hE hX hd K hK
      have d4 : ∃ x, u 46 = .tuple #[x, .int .i64 16] ∧ RdX X w9 (Arr.zero) x := hd 4 (by kernel_rfl)
      clear hd
      simp only [overlay, List.setIfInBounds_toArray, List.set] at hK ⊢
      obtain ⟨x8, hv8, hx8⟩ := d4
      simp only [hv8] at hK ⊢
      go_wp2_with fail
      exact hK _ _ X (Ext.refl _) kept_m hX hx8
    · refine ⟨_, 52, rfl, by kernel_rfl, ?_⟩
      intro u w9 X hE hX hd K hK
      have d4 : ∃ x, u 46 = .tuple #[x, .int .i64 16] ∧ RdX X w9 (Arr.zero) x := hd 4 (by kernel_rfl)
      clear hd
      simp only [overlay, List.setIfInBounds_toArray, List.set] at hK ⊢
      obtain ⟨x8, hv8, hx8⟩ := d4
      simp only [hv8] at hK ⊢
      go_wp2_with fail
      exact hK _ _ X (Ext.refl _) kept_m hX rfl
    · refine ⟨_, 10, rfl, by kernel_rfl, ?_⟩
      intro u w9 X hE hX hd K hK
      clear hd
      simp only [overlay, List.setIfInBounds_toArray, List.set] at hK ⊢
      go_wp2_with fail
      exact hK _ _ (fun b => X b ∨ b = w9.heap.size) ((Ext.refl _).alloc _) added_m (hX.add hE _) ⟨_, rfl, box_new _ _ _ _ _, .inr rfl⟩
  · refine mem_cons_m ?_ (mem_nil_m)
    · refine ⟨_, rfl, ?_⟩
      intro u w9 X hd
      have d4 : ∃ x, u 46 = .tuple #[x, .int .i64 16] ∧ RdX X w9 (Arr.zero) x := hd 4 (by kernel_rfl)
      clear hd
      obtain ⟨x8, hv8, hx8⟩ := d4
      simp only [overlay, List.setIfInBounds_toArray, List.set, hv8]
      exact ⟨.int .i64 16, .inl ⟨by kernel_rfl, fun w8 => by go_simp⟩, rfl⟩
  intro u w9 X hE hX hd
  have d0 : RdIX X w9 [1, 1, 1] (u 47) := hd 0 (by decide)
  have d1 : RdX X w9 (vecV [1, 1, 1]) (u 48) := hd 1 (by decide)
  have d2 : u 49 = .agg #[(.int .i64 1), (.slice (some ⟨w.heap.size, 0, none⟩) 2 2), (.slice (some ⟨w.heap.size + 1, 0, none⟩) 6 6), (.slice none 0 0)] := hd 2 (by decide)
  have d3 : ∃ x, u 50 = .tuple #[x, .int .i64 16] ∧ RdX X w9 (Arr.zero) x := hd 3 (by decide)
  have d4 : ∃ x, u 46 = .tuple #[x, .int .i64 16] ∧ RdX X w9 (Arr.zero) x := hd 4 (by decide)
  have d5 : RdX X w9 (Arr.zero) (u 51) := hd 5 (by decide)
  have d6 : u 52 = .int .i64 16 := hd 6 (by decide)
  have d7 : ∃ b, u 10 = .pointer (some ⟨b, 0, none⟩) ∧ Box4 w9 b (.int .i64 0) (.slice none 0 0) (.slice none 0 0) (.slice none 0 0) ∧ X b := hd 7 (by decide)
  clear hd
  simp only [overlay, List.setIfInBounds_toArray, List.set, d2, d6]
  have e9 : Ext wk21 w9 := (Ext.refl wk21).drew.trans hE
  obtain ⟨boz22, hvb, hbox, hxb⟩ := d7
  obtain ⟨c0, c1, c2, c3, hva, hA9⟩ := d5
  obtain ⟨kz22, paz22, laz22, maz22, pbz22, lbz22, mbz22, pcz22, lcz22, mcz22, rfl, rfl, rfl, rfl⟩ := hA9.form
  have hbo := hX boz22 hxb
  simp only [hvb, hva]
  obtain ⟨s0, s1, s2, s3⟩ := hbox.cell
  have f0 := hbox.free 0
  have f1 := hbox.free 1
  have f2 := hbox.free 2
  have f3 := hbox.free 3
  obtain ⟨gg1, gg2, gg3⟩ := hbox.put4 e9 hbo.1 (.int .i64 kz22) (.slice paz22 laz22 maz22) (.slice pbz22 lbz22 mbz22) (.slice pcz22 lcz22 mcz22)
  have hAn := ArrAt.mono (G := fun _ => True) (fun b hb _ => ⟨trivial, gg3 b (fun e => hb.2 (by rw [e]; exact hxb))⟩) _ _ _ _ _ hA9
  have HGG := Lib.hid (And.intro gg1 (And.intro gg2 hAn))
  clear gg1 gg2 gg3 hAn hA9 hbo hxb hbox
  clear d0 d1 d2 d3 d4 d6
  clear hX hE
  generalize u 47 = t47z22 at *
  generalize u 48 = t48z22 at *
  generalize u 50 = t50z22 at *
  generalize u 46 = t46z22 at *
  clear hvb hva
  clear u
  go_wp2_with fail
  refine OnlyN.mk ?_
  obtain ⟨gg1, gg2, hAn⟩ := HGG.out
  clear HGG s0 s1 s2 s3 f0 f1 f2 f3 e9
  generalize ((((w9.setCell ⟨boz22, 0, none⟩ (.int .i64 kz22)).setCell ⟨boz22, 1, none⟩ (.slice paz22 laz22 maz22)).setCell ⟨boz22, 2, none⟩ (.slice pbz22 lbz22 mbz22)).setCell ⟨boz22, 3, none⟩ (.slice pcz22 lcz22 mcz22)) = wk23 at *
  have HBm := Lib.hid (HBm.out.ext gg1)
  have HAm := Lib.hid (HAm.out.ext gg1)
  have HBa := Lib.hid (HBa.out.ext gg1)
  have HAa := Lib.hid (HAa.out.ext gg1)
  have HBb := Lib.hid (HBb.out.ext gg1)
  have HAb := Lib.hid (HAb.out.ext gg1)
  have HBc := Lib.hid (HBc.out.ext gg1)
  have HAc := Lib.hid (HAc.out.ext gg1)
  have HBd := Lib.hid (HBd.out.ext gg1)
  have HAd := Lib.hid (HAd.out.ext gg1)
  have HE := Lib.hid (HE.out.trans (gg1))
  have HBk := Lib.hid gg2
  have HAk := Lib.hid hAn
  clear gg1 gg2 hAn
  go_wp2_with fail
  refine wp_region_x0 (MProp.is (.int .i64 0) :: MProp.is (.bool true) :: MProp.is (.bool true) :: MProp.is (.agg #[(.int .i64 kx5), (.slice pax5 lax5 max5), (.slice pbx5 lbx5 mbx5), (.slice pcx5 lcx5 mcx5)]) :: MProp.rdi [0, 0, 1, 2, 3] :: MProp.rd (vecV [0, 0, 1, 2, 3]) :: MProp.is (.bool true) :: MProp.is (.bool true) :: MProp.is (.bool true) :: MProp.is (.int .i64 0) :: MProp.is (.bool true) :: MProp.is (.bool true) :: MProp.is (.bool true) :: MProp.is (.agg #[(.int .i64 kz8), (.slice paz8 laz8 maz8), (.slice pbz8 lbz8 mbz8), (.slice pcz8 lcz8 mcz8)]) :: MProp.rdi [1, 2] :: MProp.rdi [2, 3] :: MProp.rd (.mk 1 [1, 2] [2, 3] []) :: MProp.is (.bool true) :: MProp.is (.bool true) :: MProp.is (.bool true) :: MProp.is (.int .i64 0) :: MProp.is (.bool true) :: MProp.is (.bool true) :: MProp.is (.bool true) :: MProp.is (.agg #[(.int .i64 kx14), (.slice pax14 lax14 max14), (.slice pbx14 lbx14 mbx14), (.slice pcx14 lcx14 mcx14)]) :: MProp.rdi [1, 2] :: MProp.rd (vecV [1, 2]) :: MProp.is (.bool true) :: MProp.is (.bool true) :: MProp.is (.bool true) :: MProp.is (.int .i64 0) :: MProp.is (.bool true) :: MProp.is (.bool true) :: MProp.is (.bool true) :: MProp.is (.agg #[(.int .i64 kx19), (.slice pax19 lax19 max19), (.slice pbx19 lbx19 mbx19), (.slice pcx19 lcx19 mcx19)]) :: MProp.rdi [2] :: MProp.rdi [32, 32] :: MProp.rd (.mk 2 [2] [32, 32] []) :: MProp.is (.bool true) :: MProp.is (.bool true) :: MProp.is (.bool true) :: MProp.is (.int .i64 16) :: MProp.is (.bool true) :: MProp.is (.bool true) :: MProp.is (.bool true) :: []) (0 :: 1 :: 2 :: 3 :: 4 :: 5 :: 6 :: 7 :: 8 :: 9 :: 10 :: 11 :: 12 :: 13 :: 14 :: 15 :: 16 :: 17 :: 18 :: 19 :: 20 :: 21 :: 22 :: 23 :: 24 :: 25 :: 26 :: 27 :: 28 :: 29 :: 30 :: 31 :: 32 :: 33 :: 34 :: 35 :: 36 :: 37 :: 38 :: 39 :: 40 :: 41 :: 42 :: 43 :: 44 :: []) [] (53 :: 54 :: 55 :: 56 :: 57 :: 58 :: 59 :: 60 :: 61 :: 62 :: 63 :: 64 :: 65 :: 66 :: 67 :: 68 :: 69 :: 70 :: 71 :: 72 :: 73 :: 74 :: 75 :: 76 :: 77 :: 78 :: 79 :: 80 :: 81 :: 82 :: 83 :: 84 :: 85 :: 86 :: 87 :: 88 :: 89 :: 90 :: 91 :: 92 :: 93 :: 94 :: 95 :: 96 :: 0 :: []) (by kernel_rfl) (by kernel_rfl) (by kernel_rfl) ?_ ?_ ?_
  · refine mem_cons_m ?_ (mem_cons_m ?_ (mem_cons_m ?_ (mem_cons_m ?_ (mem_cons_m ?_ (mem_cons_m ?_ (mem_cons_m ?_ (mem_cons_m ?_ (mem_cons_m ?_ (mem_cons_m ?_ (mem_cons_m ?_ (mem_cons_m ?_ (mem_cons_m ?_ (mem_cons_m ?_ (mem_cons_m ?_ (mem_cons_m ?_ (mem_cons_m ?_ (mem_cons_m ?_ (mem_cons_m ?_ (mem_cons_m ?_ (mem_cons_m ?_ (mem_cons_m ?_ (mem_cons_m ?_ (mem_cons_m ?_ (mem_cons_m ?_ (mem_cons_m ?_ (mem_cons_m ?_ (mem_cons_m ?_ (mem_cons_m ?_ (mem_cons_m ?_ (mem_cons_m ?_ (mem_cons_m ?_ (mem_cons_m ?_ (mem_cons_m ?_ (mem_cons_m ?_ (mem_cons_m ?_ (mem_cons_m ?_ (mem_cons_m ?_ (mem_cons_m ?_ (mem_cons_m ?_ (mem_cons_m ?_ (mem_cons_m ?_ (mem_cons_m ?_ (mem_cons_m ?_ (mem_cons_m ?_ (mem_nil_m)))))))))))))))))))))))))))))))))))))))))))))
    · refine ⟨_, 53, rfl, by kernel_rfl, ?_⟩
      intro u w9 X hE hX hd K hK
      clear hd
      simp only [overlay, List.setIfInBounds_toArray, List.set] at hK ⊢
      go_wp2_with fail
      exact hK _ _ X (Ext.refl _) kept_m hX rfl
    · refine ⟨_, 54, rfl, by kernel_rfl, ?_⟩
      intro u w9 X hE hX hd K hK
      have d0 : u 53 = .int .i64 0 := hd 0 (by kernel_rfl)
      clear hd
      simp only [overlay, List.setIfInBounds_toArray, List.set, d0] at hK ⊢
      go_wp2_with fail
      exact hK _ _ X (Ext.refl _) kept_m hX rfl
    · refine ⟨_, 55, rfl, by kernel_rfl, ?_⟩
      intro u w9 X hE hX hd K hK
      have d1 : u 54 = .bool true := hd 1 (by kernel_rfl)
      clear hd
      simp only [overlay, List.setIfInBounds_toArray, List.set, d1] at hK ⊢
      go_wp2_with fail
      exact hK _ _ X (Ext.refl _) kept_m hX rfl
    · refine ⟨_, 56, rfl, by kernel_rfl, ?_⟩
      intro u w9 X hE hX hd K hK
      have d2 : u 55 = .bool true := hd 2 (by kernel_rfl)
      clear hd
      simp only [overlay, List.setIfInBounds_toArray, List.set, d2] at hK ⊢
      have e9 : Ext wk23 w9 := (Ext.refl wk23).drew.trans hE
      obtain ⟨s0, s1, s2, s3⟩ := (HBa.out.ext e9).cell
      go_wp2_with fail
      exact hK _ _ X (Ext.refl _) kept_m hX rfl
    · refine ⟨_, 57, rfl, by kernel_rfl, ?_⟩
      intro u w9 X hE hX hd K hK
      have d2 : u 55 = .bool true := hd 2 (by kernel_rfl)
      clear hd
      simp only [overlay, List.setIfInBounds_toArray, List.set, d2] at hK ⊢
      go_wp2_with fail
      exact hK _ _ X ((Ext.refl _).alloc _) kept_m (hX.ext ((Ext.refl _).alloc _)) (rdix_lit w9 [0, 0, 1, 2, 3] (by decide) (by decide) hX.hi)
    · refine ⟨_, 58, rfl, by kernel_rfl, ?_⟩
      intro u w9 X hE hX hd K hK
      have d4 : RdIX X w9 [0, 0, 1, 2, 3] (u 57) := hd 4 (by kernel_rfl)
      have d2 : u 55 = .bool true := hd 2 (by kernel_rfl)
      clear hd
      simp only [overlay, List.setIfInBounds_toArray, List.set, d2] at hK ⊢
      have e9 : Ext wk23 w9 := (Ext.refl wk23).drew.trans hE
      go_wp2_with fail
      refine (ints_rd d4 hX.hi).mono ?_
      rintro e w8 ⟨x8, rfl, hx8, hE8⟩
      go_wp2_with fail
      exact hK _ _ X hE8 kept_m (hX.ext hE8) hx8
    · refine ⟨_, 59, rfl, by kernel_rfl, ?_⟩
      intro u w9 X hE hX hd K hK
      have d3 : u 56 = .agg #[(.int .i64 kx5), (.slice pax5 lax5 max5), (.slice pbx5 lbx5 mbx5), (.slice pcx5 lcx5 mcx5)] := hd 3 (by kernel_rfl)
      have d5 : RdX X w9 (vecV [0, 0, 1, 2, 3]) (u 58) := hd 5 (by kernel_rfl)
      have d2 : u 55 = .bool true := hd 2 (by kernel_rfl)
      clear hd
      simp only [overlay, List.setIfInBounds_toArray, List.set, d3, d2] at hK ⊢
      have e9 : Ext wk23 w9 := (Ext.refl wk23).drew.trans hE
      go_wp2_with fail
      refine (same_tr ((RdX.old HAa.out e9 hX.lo)).rd (d5).rd rfl rfl).mono ?_
      rintro e w8 ⟨rfl, hE8⟩
      go_wp2_with fail
      exact hK _ _ X hE8 kept_m (hX.ext hE8) rfl
    · refine ⟨_, 60, rfl, by kernel_rfl, ?_⟩
      intro u w9 X hE hX hd K hK
      have d2 : u 55 = .bool true := hd 2 (by kernel_rfl)
      have d6 : u 59 = .bool true := hd 6 (by kernel_rfl)
      clear hd
      simp only [overlay, List.setIfInBounds_toArray, List.set, d2, d6] at hK ⊢
      go_wp2_with fail
      exact hK _ _ X (Ext.refl _) kept_m hX rfl
    · refine ⟨_, 61, rfl, by kernel_rfl, ?_⟩
      intro u w9 X hE hX hd K hK
      have d7 : u 60 = .bool true := hd 7 (by kernel_rfl)
      clear hd
      simp only [overlay, List.setIfInBounds_toArray, List.set, d7] at hK ⊢
      go_wp2_with fail
      exact hK _ _ X (Ext.refl _) kept_m hX rfl
    · refine ⟨_, 62, rfl, by kernel_rfl, ?_⟩
      intro u w9 X hE hX hd K hK
      have d8 : u 61 = .bool true := hd 8 (by kernel_rfl)
      clear hd
      simp only [overlay, List.setIfInBounds_toArray, List.set, d8] at hK ⊢
      go_wp2_with fail
      exact hK _ _ X (Ext.refl _) kept_m hX rfl
    · refine ⟨_, 63, rfl, by kernel_rfl, ?_⟩
      intro u w9 X hE hX hd K hK
      have d9 : u 62 = .int .i64 0 := hd 9 (by kernel_rfl)
      have d8 : u 61 = .bool true := hd 8 (by kernel_rfl)
      clear hd
      simp only [overlay, List.setIfInBounds_toArray, List.set, d9, d8] at hK ⊢
      go_wp2_with fail
      exact hK _ _ X (Ext.refl _) kept_m hX rfl
    · refine ⟨_, 64, rfl, by kernel_rfl, ?_⟩
      intro u w9 X hE hX hd K hK
      have d8 : u 61 = .bool true := hd 8 (by kernel_rfl)
      have d10 : u 63 = .bool true := hd 10 (by kernel_rfl)
      clear hd
      simp only [overlay, List.setIfInBounds_toArray, List.set, d8, d10] at hK ⊢
      go_wp2_with fail
      exact hK _ _ X (Ext.refl _) kept_m hX rfl
    · refine ⟨_, 65, rfl, by kernel_rfl, ?_⟩
      intro u w9 X hE hX hd K hK
      have d11 : u 64 = .bool true := hd 11 (by kernel_rfl)
      clear hd
      simp only [overlay, List.setIfInBounds_toArray, List.set, d11] at hK ⊢
      go_wp2_with fail
      exact hK _ _ X (Ext.refl _) kept_m hX rfl
    · refine ⟨_, 66, rfl, by kernel_rfl, ?_⟩
      intro u w9 X hE hX hd K hK
      have d12 : u 65 = .bool true := hd 12 (by kernel_rfl)
      clear hd
      simp only [overlay, List.setIfInBounds_toArray, List.set, d12] at hK ⊢
      have e9 : Ext wk23 w9 := (Ext.refl wk23).drew.trans hE
      obtain ⟨s0, s1, s2, s3⟩ := (HBb.out.ext e9).cell
      go_wp2_with fail
      exact hK _ _ X (Ext.refl _) kept_m hX rfl
    · refine ⟨_, 67, rfl, by kernel_rfl, ?_⟩
      intro u w9 X hE hX hd K hK
      have d12 : u 65 = .bool true := hd 12 (by kernel_rfl)
      clear hd
      simp only [overlay, List.setIfInBounds_toArray, List.set, d12] at hK ⊢
      go_wp2_with fail
      exact hK _ _ X ((Ext.refl _).alloc _) kept_m (hX.ext ((Ext.refl _).alloc _)) (rdix_lit w9 [1, 2] (by decide) (by decide) hX.hi)
    · refine ⟨_, 68, rfl, by kernel_rfl, ?_⟩
      intro u w9 X hE hX hd K hK
      have d12 : u 65 = .bool true := hd 12 (by kernel_rfl)
      clear hd
      simp only [overlay, List.setIfInBounds_toArray, List.set, d12] at hK ⊢
      go_wp2_with fail
      exact hK _ _ X ((Ext.refl _).alloc _) kept_m (hX.ext ((Ext.refl _).alloc _)) (rdix_lit w9 [2, 3] (by decide) (by decide) hX.hi)
    · refine ⟨_, 69, rfl, by kernel_rfl, ?_⟩
      intro u w9 X hE hX hd K hK
      have d14 : RdIX X w9 [1, 2] (u 67) := hd 14 (by kernel_rfl)
      have d15 : RdIX X w9 [2, 3] (u 68) := hd 15 (by kernel_rfl)
      have d12 : u 65 = .bool true := hd 12 (by kernel_rfl)
      clear hd
      simp only [overlay, List.setIfInBounds_toArray, List.set, d12] at hK ⊢
      obtain ⟨x1, y1, hv1, hk1, hi1⟩ := d14
      obtain ⟨x2, y2, hv2, hk2, hi2⟩ := d15
      simp only [hv1, hv2] at hK ⊢
      go_wp2_with fail
      exact hK _ _ X (Ext.refl _) kept_m hX (rdx_mk 1 (by decide) hk1 hi1 hk2 hi2)
    · refine ⟨_, 70, rfl, by kernel_rfl, ?_⟩
      intro u w9 X hE hX hd K hK
      have d13 : u 66 = .agg #[(.int .i64 kz8), (.slice paz8 laz8 maz8), (.slice pbz8 lbz8 mbz8), (.slice pcz8 lcz8 mcz8)] := hd 13 (by kernel_rfl)
      have d16 : RdX X w9 (.mk 1 [1, 2] [2, 3] []) (u 69) := hd 16 (by kernel_rfl)
      have d12 : u 65 = .bool true := hd 12 (by kernel_rfl)
      clear hd
      simp only [overlay, List.setIfInBounds_toArray, List.set, d13, d12] at hK ⊢
      have e9 : Ext wk23 w9 := (Ext.refl wk23).drew.trans hE
      go_wp2_with fail
      refine (same_tr ((RdX.old HAb.out e9 hX.lo)).rd (d16).rd rfl rfl).mono ?_
      rintro e w8 ⟨rfl, hE8⟩
      go_wp2_with fail
      exact hK _ _ X hE8 kept_m (hX.ext hE8) rfl
    · refine ⟨_, 71, rfl, by kernel_rfl, ?_⟩
      intro u w9 X hE hX hd K hK
      have d12 : u 65 = .bool true := hd 12 (by kernel_rfl)
      have d17 : u 70 = .bool true := hd 17 (by kernel_rfl)
      clear hd
      simp only [overlay, List.setIfInBounds_toArray, List.set, d12, d17] at hK ⊢
      go_wp2_with fail
      exact hK _ _ X (Ext.refl _) kept_m hX rfl
    · refine ⟨_, 72, rfl, by kernel_rfl, ?_⟩
      intro u w9 X hE hX hd K hK
      have d18 : u 71 = .bool true := hd 18 (by kernel_rfl)
      clear hd
      simp only [overlay, List.setIfInBounds_toArray, List.set, d18] at hK ⊢
      go_wp2_with fail
      exact hK _ _ X (Ext.refl _) kept_m hX rfl
    · refine ⟨_, 73, rfl, by kernel_rfl, ?_⟩
      intro u w9 X hE hX hd K hK
      have d19 : u 72 = .bool true := hd 19 (by kernel_rfl)
      clear hd
      simp only [overlay, List.setIfInBounds_toArray, List.set, d19] at hK ⊢
      go_wp2_with fail
      exact hK _ _ X (Ext.refl _) kept_m hX rfl
    · refine ⟨_, 74, rfl, by kernel_rfl, ?_⟩
      intro u w9 X hE hX hd K hK
      have d20 : u 73 = .int .i64 0 := hd 20 (by kernel_rfl)
      have d19 : u 72 = .bool true := hd 19 (by kernel_rfl)
      clear hd
      simp only [overlay, List.setIfInBounds_toArray, List.set, d20, d19] at hK ⊢
      go_wp2_with fail
      exact hK _ _ X (Ext.refl _) kept_m hX rfl
    · refine ⟨_, 75, rfl, by kernel_rfl, ?_⟩
      intro u w9 X hE hX hd K hK
      have d19 : u 72 = .bool true := hd 19 (by kernel_rfl)
      have d21 : u 74 = .bool true := hd 21 (by kernel_rfl)
      clear hd
      simp only [overlay, List.setIfInBounds_toArray, List.set, d19, d21] at hK ⊢
      go_wp2_with fail
      exact hK _ _ X (Ext.refl _) kept_m hX rfl
    · refine ⟨_, 76, rfl, by kernel_rfl, ?_⟩
      intro u w9 X hE hX hd K hK
      have d22 : u 75 = .bool true := hd 22 (by kernel_rfl)
      clear hd
      simp only [overlay, List.setIfInBounds_toArray, List.set, d22] at hK ⊢
      go_wp2_with fail
      exact hK _ _ X (Ext.refl _) kept_m hX rfl
    · refine ⟨_, 77, rfl, by kernel_rfl, ?_⟩
      intro u w9 X hE hX hd K hK
      have d23 : u 76 = .bool true := hd 23 (by kernel_rfl)
      clear hd
      simp only [overlay, List.setIfInBounds_toArray, List.set, d23] at hK ⊢
      have e9 : Ext wk23 w9 := (Ext.refl wk23).drew.trans hE
      obtain ⟨s0, s1, s2, s3⟩ := (HBc.out.ext e9).cell
      go_wp2_with fail
      exact hK _ _ X (Ext.refl _) kept_m hX rfl
    · refine ⟨_, 78, rfl, by kernel_rfl, ?_⟩
      intro u w9 X hE hX hd K hK
      have d23 : u 76 = .bool true := hd 23 (by kernel_rfl)
      clear hd
      simp only [overlay, List.setIfInBounds_toArray, List.set, d23] at hK ⊢
      go_wp2_with fail
      exact hK _ _ X ((Ext.refl _).alloc _) kept_m (hX.ext ((Ext.refl _).alloc _)) (rdix_lit w9 [1, 2] (by decide) (by decide) hX.hi)
    · refine ⟨_, 79, rfl, by kernel_rfl, ?_⟩
      intro u w9 X hE hX hd K hK
      have d25 : RdIX X w9 [1, 2] (u 78) := hd 25 (by kernel_rfl)
      have d23 : u 76 = .bool true := hd 23 (by kernel_rfl)
      clear hd
      simp only [overlay, List.setIfInBounds_toArray, List.set, d23] at hK ⊢
      have e9 : Ext wk23 w9 := (Ext.refl wk23).drew.trans hE
      go_wp2_with fail
      refine (ints_rd d25 hX.hi).mono ?_
      rintro e w8 ⟨x8, rfl, hx8, hE8⟩
      go_wp2_with fail
      exact hK _ _ X hE8 kept_m (hX.ext hE8) hx8
    · refine ⟨_, 80, rfl, by kernel_rfl, ?_⟩
      intro u w9 X hE hX hd K hK
      have d24 : u 77 = .agg #[(.int .i64 kx14), (.slice pax14 lax14 max14), (.slice pbx14 lbx14 mbx14), (.slice pcx14 lcx14 mcx14)] := hd 24 (by kernel_rfl)
      have d26 : RdX X w9 (vecV [1, 2]) (u 79) := hd 26 (by kernel_rfl)
      have d23 : u 76 = .bool true := hd 23 (by kernel_rfl)
      clear hd
      simp only [overlay, List.setIfInBounds_toArray, List.set, d24, d23] at hK ⊢
      have e9 : Ext wk23 w9 := (Ext.refl wk23).drew.trans hE
      go_wp2_with fail
      refine (same_tr ((RdX.old HAc.out e9 hX.lo)).rd (d26).rd rfl rfl).mono ?_
      rintro e w8 ⟨rfl, hE8⟩
      go_wp2_with fail
      exact hK _ _ X hE8 kept_m (hX.ext hE8) rfl
    · refine ⟨_, 81, rfl, by kernel_rfl, ?_⟩
      intro u w9 X hE hX hd K hK
      have d23 : u 76 = .bool true := hd 23 (by kernel_rfl)
      have d27 : u 80 = .bool true := hd 27 (by kernel_rfl)
      clear hd
      simp only [overlay, List.setIfInBounds_toArray, List.set, d23, d27] at hK ⊢
      go_wp2_with fail
      exact hK _ _ X (Ext.refl _) kept_m hX rfl
    · refine ⟨_, 82, rfl, by kernel_rfl, ?_⟩
      intro u w9 X hE hX hd K hK
      have d28 : u 81 = .bool true := hd 28 (by kernel_rfl)
      clear hd
      simp only [overlay, List.setIfInBounds_toArray, List.set, d28] at hK ⊢
      go_wp2_with fail
      exact hK _ _ X (Ext.refl _) kept_m hX rfl
    · refine ⟨_, 83, rfl, by kernel_rfl, ?_⟩
      intro u w9 X hE hX hd K hK
      have d29 : u 82 = .bool true := hd 29 (by kernel_rfl)
      clear hd
      simp only [overlay, List.setIfInBounds_toArray, List.set, d29] at hK ⊢
      go_wp2_with fail
      exact hK _ _ X (Ext.refl _) kept_m hX rfl
    · refine ⟨_, 84, rfl, by kernel_rfl, ?_⟩
      intro u w9 X hE hX hd K hK
      have d30 : u 83 = .int .i64 0 := hd 30 (by kernel_rfl)
      have d29 : u 82 = .bool true := hd 29 (by kernel_rfl)
      clear hd
      simp only [overlay, List.setIfInBounds_toArray, List.set, d30, d29] at hK ⊢
      go_wp2_with fail
      exact hK _ _ X (Ext.refl _) kept_m hX rfl
    · refine ⟨_, 85, rfl, by kernel_rfl, ?_⟩
      intro u w9 X hE hX hd K hK
      have d29 : u 82 = .bool true := hd 29 (by kernel_rfl)
      have d31 : u 84 = .bool true := hd 31 (by kernel_rfl)
      clear hd
      simp only [overlay, List.setIfInBounds_toArray, List.set, d29, d31] at hK ⊢
      go_wp2_with fail
      exact hK _ _ X (Ext.refl _) kept_m hX rfl
    · refine ⟨_, 86, rfl, by kernel_rfl, ?_⟩
      intro u w9 X hE hX hd K hK
      have d32 : u 85 = .bool true := hd 32 (by kernel_rfl)
      clear hd
      simp only [overlay, List.setIfInBounds_toArray, List.set, d32] at hK ⊢
      go_wp2_with fail
      exact hK _ _ X (Ext.refl _) kept_m hX rfl
    · refine ⟨_, 87, rfl, by kernel_rfl, ?_⟩
      intro u w9 X hE hX hd K hK
      have d33 : u 86 = .bool true := hd 33 (by kernel_rfl)
      clear hd
      simp only [overlay, List.setIfInBounds_toArray, List.set, d33] at hK ⊢
      have e9 : Ext wk23 w9 := (Ext.refl wk23).drew.trans hE
      obtain ⟨s0, s1, s2, s3⟩ := (HBd.out.ext e9).cell
      go_wp2_with fail
      exact hK _ _ X (Ext.refl _) kept_m hX rfl
    · refine ⟨_, 88, rfl, by kernel_rfl, ?_⟩
      intro u w9 X hE hX hd K hK
      have d33 : u 86 = .bool true := hd 33 (by kernel_rfl)
      clear hd
      simp only [overlay, List.setIfInBounds_toArray, List.set, d33] at hK ⊢
      go_wp2_with fail
      exact hK _ _ X ((Ext.refl _).alloc _) kept_m (hX.ext ((Ext.refl _).alloc _)) (rdix_lit w9 [2] (by decide) (by decide) hX.hi)
    · refine ⟨_, 89, rfl, by kernel_rfl, ?_⟩
      intro u w9 X hE hX hd K hK
      have d33 : u 86 = .bool true := hd 33 (by kernel_rfl)
      clear hd
      simp only [overlay, List.setIfInBounds_toArray, List.set, d33] at hK ⊢
      go_wp2_with fail
      exact hK _ _ X ((Ext.refl _).alloc _) kept_m (hX.ext ((Ext.refl _).alloc _)) (rdix_lit w9 [32, 32] (by decide) (by decide) hX.hi)
    · refine ⟨_, 90, rfl, by kernel_rfl, ?_⟩
      intro u w9 X hE hX hd K hK
      have d35 : RdIX X w9 [2] (u 88) := hd 35 (by kernel_rfl)
      have d36 : RdIX X w9 [32, 32] (u 89) := hd 36 (by kernel_rfl)
      have d33 : u 86 = .bool true := hd 33 (by kernel_rfl)
      clear hd
      simp only [overlay, List.setIfInBounds_toArray, List.set, d33] at hK ⊢
      obtain ⟨x1, y1, hv1, hk1, hi1⟩ := d35
      obtain ⟨x2, y2, hv2, hk2, hi2⟩ := d36
      simp only [hv1, hv2] at hK ⊢
      go_wp2_with fail
      exact hK _ _ X (Ext.refl _) kept_m hX (rdx_mk 2 (by decide) hk1 hi1 hk2 hi2)
    · refine ⟨_, 91, rfl, by kernel_rfl, ?_⟩
      intro u w9 X hE hX hd K hK
      have d34 : u 87 = .agg #[(.int .i64 kx19), (.slice pax19 lax19 max19), (.slice pbx19 lbx19 mbx19), (.slice pcx19 lcx19 mcx19)] := hd 34 (by kernel_rfl)
      have d37 : RdX X w9 (.mk 2 [2] [32, 32] []) (u 90) := hd 37 (by kernel_rfl)
      have d33 : u 86 = .bool true := hd 33 (by kernel_rfl)
      clear hd
      simp only [overlay, List.setIfInBounds_toArray, List.set, d34, d33] at hK ⊢
      have e9 : Ext wk23 w9 := (Ext.refl wk23).drew.trans hE
      go_wp2_with fail
      refine (same_tr ((RdX.old HAd.out e9 hX.lo)).rd (d37).rd rfl rfl).mono ?_
      rintro e w8 ⟨rfl, hE8⟩
      go_wp2_with fail
      exact hK _ _ X hE8 kept_m (hX.ext hE8) rfl
    · refine ⟨_, 92, rfl, by kernel_rfl, ?_⟩
      intro u w9 X hE hX hd K hK
      have d33 : u 86 = .bool true := hd 33 (by kernel_rfl)
      have d38 : u 91 = .bool true := hd 38 (by kernel_rfl)
      clear hd
      simp only [overlay, List.setIfInBounds_toArray, List.set, d33, d38] at hK ⊢
      go_wp2_with fail
      exact hK _ _ X (Ext.refl _) kept_m hX rfl
    · refine ⟨_, 93, rfl, by kernel_rfl, ?_⟩
      intro u w9 X hE hX hd K hK
      have d39 : u 92 = .bool true := hd 39 (by kernel_rfl)
      clear hd
      simp only [overlay, List.setIfInBounds_toArray, List.set, d39] at hK ⊢
      go_wp2_with fail
      exact hK _ _ X (Ext.refl _) kept_m hX rfl
    · refine ⟨_, 94, rfl, by kernel_rfl, ?_⟩
      intro u w9 X hE hX hd K hK
      have d40 : u 93 = .bool true := hd 40 (by kernel_rfl)
      clear hd
      simp only [overlay, List.setIfInBounds_toArray, List.set, d40] at hK ⊢
      go_wp2_with fail
      exact hK _ _ X (Ext.refl _) kept_m hX rfl
    · refine ⟨_, 95, rfl, by kernel_rfl, ?_⟩
      intro u w9 X hE hX hd K hK
      have d41 : u 94 = .int .i64 16 := hd 41 (by kernel_rfl)
      have d40 : u 93 = .bool true := hd 40 (by kernel_rfl)
      clear hd
      simp only [overlay, List.setIfInBounds_toArray, List.set, d41, d40] at hK ⊢
      go_wp2_with fail
      exact hK _ _ X (Ext.refl _) kept_m hX rfl
    · refine ⟨_, 96, rfl, by kernel_rfl, ?_⟩
      intro u w9 X hE hX hd K hK
      have d40 : u 93 = .bool true := hd 40 (by kernel_rfl)
      have d42 : u 95 = .bool true := hd 42 (by kernel_rfl)
      clear hd
      simp only [overlay, List.setIfInBounds_toArray, List.set, d40, d42] at hK ⊢
      go_wp2_with fail
      exact hK _ _ X (Ext.refl _) kept_m hX rfl
    · refine ⟨_, 0, rfl, by kernel_rfl, ?_⟩
      intro u w9 X hE hX hd K hK
      have d43 : u 96 = .bool true := hd 43 (by kernel_rfl)
      clear hd
      simp only [overlay, List.setIfInBounds_toArray, List.set, d43] at hK ⊢
      go_wp2_with fail
      exact hK _ _ X (Ext.refl _) kept_m hX rfl
  · exact mem_nil_m
  intro u w9 X hE hX hd
  have d0 : u 53 = .int .i64 0 := hd 0 (by decide)
  have d1 : u 54 = .bool true := hd 1 (by decide)
  have d2 : u 55 = .bool true := hd 2 (by decide)
  have d3 : u 56 = .agg #[(.int .i64 kx5), (.slice pax5 lax5 max5), (.slice pbx5 lbx5 mbx5), (.slice pcx5 lcx5 mcx5)] := hd 3 (by decide)
  have d4 : RdIX X w9 [0, 0, 1, 2, 3] (u 57) := hd 4 (by decide)
  have d5 : RdX X w9 (vecV [0, 0, 1, 2, 3]) (u 58) := hd 5 (by decide)
  have d6 : u 59 = .bool true := hd 6 (by decide)
  have d7 : u 60 = .bool true := hd 7 (by decide)
  have d8 : u 61 = .bool true := hd 8 (by decide)
  have d9 : u 62 = .int .i64 0 := hd 9 (by decide)
  have d10 : u 63 = .bool true := hd 10 (by decide)
  have d11 : u 64 = .bool true := hd 11 (by decide)
  have d12 : u 65 = .bool true := hd 12 (by decide)
  have d13 : u 66 = .agg #[(.int .i64 kz8), (.slice paz8 laz8 maz8), (.slice pbz8 lbz8 mbz8), (.slice pcz8 lcz8 mcz8)] := hd 13 (by decide)
  have d14 : RdIX X w9 [1, 2] (u 67) := hd 14 (by decide)
  have d15 : RdIX X w9 [2, 3] (u 68) := hd 15 (by decide)
  have d16 : RdX X w9 (.mk 1 [1, 2] [2, 3] []) (u 69) := hd 16 (by decide)
  have d17 : u 70 = .bool true := hd 17 (by decide)
  have d18 : u 71 = .bool true := hd 18 (by decide)
  have d19 : u 72 = .bool true := hd 19 (by decide)
  have d20 : u 73 = .int .i64 0 := hd 20 (by decide)
  have d21 : u 74 = .bool true := hd 21 (by decide)
  have d22 : u 75 = .bool true := hd 22 (by decide)
  have d23 : u 76 = .bool true := hd 23 (by decide)
  have d24 : u 77 = .agg #[(.int .i64 kx14), (.slice pax14 lax14 max14), (.slice pbx14 lbx14 mbx14), (.slice pcx14 lcx14 mcx14)] := hd 24 (by decide)
  have d25 : RdIX X w9 [1, 2] (u 78) := hd 25 (by decide)
  have d26 : RdX X w9 (vecV [1, 2]) (u 79) := hd 26 (by decide)
  have d27 : u 80 = .bool true := hd 27 (by decide)
  have d28 : u 81 = .bool true := hd 28 (by decide)
  have d29 : u 82 = .bool true := hd 29 (by decide)
  have d30 : u 83 = .int .i64 0 := hd 30 (by decide)
  have d31 : u 84 = .bool true := hd 31 (by decide)
  have d32 : u 85 = .bool true := hd 32 (by decide)
  have d33 : u 86 = .bool true := hd 33 (by decide)
  have d34 : u 87 = .agg #[(.int .i64 kx19), (.slice pax19 lax19 max19), (.slice pbx19 lbx19 mbx19), (.slice pcx19 lcx19 mcx19)] := hd 34 (by decide)
  have d35 : RdIX X w9 [2] (u 88) := hd 35 (by decide)
  have d36 : RdIX X w9 [32, 32] (u 89) := hd 36 (by decide)
  have d37 : RdX X w9 (.mk 2 [2] [32, 32] []) (u 90) := hd 37 (by decide)
  have d38 : u 91 = .bool true := hd 38 (by decide)
  have d39 : u 92 = .bool true := hd 39 (by decide)
  have d40 : u 93 = .bool true := hd 40 (by decide)
  have d41 : u 94 = .int .i64 16 := hd 41 (by decide)
  have d42 : u 95 = .bool true := hd 42 (by decide)
  have d43 : u 96 = .bool true := hd 43 (by decide)
  have d44 : u 0 = .bool true := hd 44 (by decide)
  clear hd
  simp only [overlay, List.setIfInBounds_toArray, List.set, d0, d1, d2, d3, d6, d7, d8, d9, d10, d11, d12, d13, d17, d18, d19, d20, d21, d22, d23, d24, d27, d28, d29, d30, d31, d32, d33, d34, d38, d39, d40, d41, d42, d43, d44]
  have e9 : Ext wk23 w9 := (Ext.refl wk23).drew.trans hE
  clear d0 d1 d2 d3 d4 d5 d6 d7 d8 d9 d10 d11 d12 d13 d14 d15 d16 d17 d18 d19 d20 d21 d22 d23 d24 d25 d26 d27 d28 d29 d30 d31 d32 d33 d34 d35 d36 d37 d38 d39 d40 d41 d42 d43 d44
  clear hX hE
  generalize u 57 = t57z24
  generalize u 58 = t58z24
  generalize u 67 = t67z24
  generalize u 68 = t68z24
  generalize u 69 = t69z24
  generalize u 78 = t78z24
  generalize u 79 = t79z24
  generalize u 88 = t88z24
  generalize u 89 = t89z24
  generalize u 90 = t90z24
  clear u
  have HBm := Lib.hid (HBm.out.ext e9)
  have HAm := Lib.hid (HAm.out.ext e9)
  have HBa := Lib.hid (HBa.out.ext e9)
  have HAa := Lib.hid (HAa.out.ext e9)
  have HBb := Lib.hid (HBb.out.ext e9)
  have HAb := Lib.hid (HAb.out.ext e9)
  have HBc := Lib.hid (HBc.out.ext e9)
  have HAc := Lib.hid (HAc.out.ext e9)
  have HBd := Lib.hid (HBd.out.ext e9)
  have HAd := Lib.hid (HAd.out.ext e9)
  have HBk := Lib.hid (HBk.out.ext e9)
  have HAk := Lib.hid (HAk.out.ext e9)
  have HE := Lib.hid (HE.out.trans (e9))
  clear e9
  go_wp2_with fail
  go_ret
  exact ⟨rfl, HE.out⟩
end Go.Proofs.Ytcmnlnamgnbemaa
