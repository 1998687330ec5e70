/-
  THE WALK of law25.lives; contracts over readings. (Printed by gen_sawk.py.)
-/
import Derived.Test.YtgkemmdghmklfaaM25B
namespace Go.Proofs.Ytgkemmdghmklfaa
set_option linter.unusedSimpArgs false
set_option linter.unusedVariables false
open Go.RowKit

theorem FreshN.arrB {B : Nat} {w : World} {t : Arr} {c0 c1 c2 c3 : Value} (h : FreshN B w t c0 c1 c2 c3) : ArrAt (fun b => B ≤ b) w t c0 c1 c2 c3 := by
  obtain ⟨k, s, n, it⟩ := t
  obtain ⟨rfl, rfl, rfl, k1, k2, ho, p, c, rfl, hk, hi⟩ := h
  obtain ⟨p2, c2, e2, q2, i2⟩ := ho.ints
  subst e2
  unfold ArrAt
  exact ⟨rfl, ⟨k1, k2⟩, ⟨p, c, rfl, hk, hi.mono fun b hb _ => ⟨hb.1, rfl⟩⟩, ⟨p2, c2, rfl, q2, i2.mono fun b hb _ => ⟨hb.1, rfl⟩⟩, nilA _ _⟩
theorem sints_rd {X : Nat → Prop} {w : World} {l : List Int} {v : Value} (h : RdIX X w l v) (hX : ∀ b, X b → b < w.heap.size) : Calls Try.prog 104 #[v] w fun e w' => ∃ x, e = .returned x ∧ RdX X w' (vecV l) x ∧ Ext w w' := by
  obtain ⟨p, c, rfl, hk, hi⟩ := h
  refine (s25ints_any _ p c l w hi hk).mono ?_
  rintro e w' ⟨e0, e1, e2, e3, rfl, hA, hE⟩
  exact ⟨_, rfl, RdX.new hA (fun b hb _ => hb.imp id (fun h => h.2)) hX, hE⟩
def txtV (l : List Int) : Arr := .mk 2 [(l.length : Int)] l []
theorem stext_rd {X : Nat → Prop} {w : World} {l : List Int} {v : Value} (h : RdIX X w l v) (hX : ∀ b, X b → b < w.heap.size) : Calls Try.prog 105 #[v] w fun e w' => ∃ x, e = .returned x ∧ RdX X w' (txtV l) x ∧ Ext w w' := by
  obtain ⟨p, c, rfl, hk, hi⟩ := h
  refine (s25text_any _ p c l w hi hk).mono ?_
  rintro e w' ⟨e0, e1, e2, e3, rfl, hA, hE⟩
  exact ⟨_, rfl, RdX.new hA (fun b hb _ => hb.imp id (fun h => h.2)) hX, hE⟩
theorem sfind_at {X : Nat → Prop} {w : World} {a b t : Arr} {n : Int} {v1 v2 : Value} (ex : searchV a b = t) (en : searchE a b = n) (h1 : RdX X w a v1) (h2 : RdX X w b v2) (hX : ∀ b, X b → b < w.heap.size) : Calls Try.prog 60 #[v1, v2] w fun e w' => ∃ x, e = .returned (.tuple #[x, .int .i64 n]) ∧ RdX X w' t x ∧ Ext w w' := by
  obtain ⟨c0, c1, c2, c3, rfl, hA⟩ := h1
  obtain ⟨d0, d1, d2, d3, rfl, hB⟩ := h2
  refine (sfind_any _ _ a b _ _ _ _ _ _ _ _ w hA hB).mono ?_
  rintro e w' ⟨e0, e1, e2, e3, rfl, hC, hE⟩
  rw [ex] at hC
  rw [en]
  exact ⟨_, rfl, RdX.new hC.arrB (fun b hb _ => .inl hb) hX, hE⟩
theorem sin_at {X : Nat → Prop} {w : World} {a b t : Arr} {n : Int} {v1 v2 : Value} (ex : inV a b = t) (en : searchE b a = n) (h1 : RdX X w a v1) (h2 : RdX X w b v2) (hX : ∀ b, X b → b < w.heap.size) : Calls Try.prog 62 #[v1, v2] w fun e w' => ∃ x, e = .returned (.tuple #[x, .int .i64 n]) ∧ RdX X w' t x ∧ Ext w w' := by
  obtain ⟨c0, c1, c2, c3, rfl, hA⟩ := h1
  obtain ⟨d0, d1, d2, d3, rfl, hB⟩ := h2
  refine (sin_any _ _ a b _ _ _ _ _ _ _ _ w hA hB).mono ?_
  rintro e w' ⟨e0, e1, e2, e3, rfl, hC, hE⟩
  rw [ex] at hC
  rw [en]
  exact ⟨_, rfl, RdX.new hC.arrB (fun b hb _ => .inl hb) hX, hE⟩
theorem suniq_at {X : Nat → Prop} {w : World} {a t : Arr} {n : Int} {v1 : Value} (ex : uniqV a = t) (en : uniqE a = n) (h1 : RdX X w a v1) (hX : ∀ b, X b → b < w.heap.size) : Calls Try.prog 64 #[v1] w fun e w' => ∃ x, e = .returned (.tuple #[x, .int .i64 n]) ∧ RdX X w' t x ∧ Ext w w' := by
  obtain ⟨c0, c1, c2, c3, rfl, hA⟩ := h1
  refine (suniq_any _ a _ _ _ _ w hA).mono ?_
  rintro e w' ⟨e0, e1, e2, e3, rfl, hC, hE⟩
  rw [ex] at hC
  rw [en]
  exact ⟨_, rfl, RdX.new hC (fun b hb _ => .inl hb) hX, hE⟩
theorem swhere_at {X : Nat → Prop} {w : World} {a t : Arr} {n : Int} {v1 : Value} (ex : whereV a = (t, n)) (h1 : RdX X w a v1) (hX : ∀ b, X b → b < w.heap.size) : Calls Try.prog 66 #[v1] w fun e w' => ∃ x, e = .returned (.tuple #[x, .int .i64 n]) ∧ RdX X w' t x ∧ Ext w w' := by
  obtain ⟨c0, c1, c2, c3, rfl, hA⟩ := h1
  refine (swhere_any _ a _ _ _ _ w hA).mono ?_
  rintro e w' ⟨e0, e1, e2, e3, rfl, hC, hE⟩
  rw [ex] at hC ⊢
  exact ⟨_, rfl, RdX.new hC (fun b hb _ => .inl hb) hX, hE⟩

theorem lit_arr2s (w : World) (k : Int) (s n : List Int) (o : Obj) (hk : -9223372036854775808 ≤ k ∧ k ≤ 9223372036854775807) (h1 : s.length ≤ 100) (h2 : n.length ≤ 100) (b1 : ∀ x ∈ s, -9223372036854775808 ≤ x ∧ x ≤ 9223372036854775807) (b2 : ∀ x ∈ n, -9223372036854775808 ≤ x ∧ x ≤ 9223372036854775807) :
    ArrAt (fun _ => True) (((w.alloc (.cells (s.map (Value.int .i64)).toArray 3)).alloc (.cells (n.map (Value.int .i64)).toArray 3)).alloc o) (.mk k s n []) (.int .i64 k) (.slice (some ⟨w.heap.size, 0, none⟩) s.length s.length) (.slice (some ⟨w.heap.size + 1, 0, none⟩) n.length n.length) (.slice none 0 0) := by
  unfold ArrAt
  refine ⟨rfl, hk, ⟨_, _, rfl, ⟨Nat.le_refl _, by omega, by omega⟩, ?_⟩, ⟨_, _, rfl, ⟨Nat.le_refl _, by omega, by omega⟩, ?_⟩, nilA _ _⟩
  · exact (((rowI_new w s).ints b1).mono (G := fun _ => True) (fun b _ _ => ⟨trivial, rfl⟩)).ext (((Ext.refl _).alloc _).alloc _)
  · have h := (rowI_new (w.alloc (.cells (s.map (Value.int .i64)).toArray 3)) n).ints b2
    rw [World.size_alloc] at h
    exact (h.mono (G := fun _ => True) (fun b _ _ => ⟨trivial, rfl⟩)).ext ((Ext.refl _).alloc _)
theorem rdx_mkn {X : Nat → Prop} {w : World} (k : Int) (hk : -9223372036854775808 ≤ k ∧ k ≤ 9223372036854775807) {p1 : Option Addr} {c1 : Nat} {l1 : List Int} (h1 : SlOk l1.length c1) (i1 : IntsAt (fun b => b < w.heap.size ∧ ¬ X b) w p1 l1) :
    RdX X w (.mk k [] l1 []) (.agg #[.int .i64 k, .slice none 0 0, .slice p1 l1.length c1, .slice none 0 0]) := by
  refine ⟨_, _, _, _, rfl, ?_⟩
  unfold ArrAt
  exact ⟨rfl, hk, nilI _ _, ⟨_, _, rfl, h1, i1⟩, nilA _ _⟩
theorem rdx_litn (w : World) (k : Int) (l : List Int) (hk : -9223372036854775808 ≤ k ∧ k ≤ 9223372036854775807) (h8 : l.length ≤ 100) (hl : ∀ x ∈ l, -9223372036854775808 ≤ x ∧ x ≤ 9223372036854775807) : RdX (fun _ => False) (w.alloc (.cells (l.map (Value.int .i64)).toArray 3)) (.mk k [] l []) (.agg #[.int .i64 k, .slice none 0 0, .slice (some ⟨w.heap.size, 0, none⟩) l.length l.length, .slice none 0 0]) := by
  obtain ⟨p, c, hv, hk1, hi⟩ := rdix_lit0 w l h8 hl
  simp only [Value.slice.injEq] at hv
  obtain ⟨rfl, _, rfl⟩ := hv
  exact rdx_mkn k hk hk1 hi
def slM : Arr := .mk 1 [2, 2] [1, 2, 3, 4] []
theorem sl1 : searchV (vecV [10, 20, 30]) (vecV [20, 40]) = vecV [1, 3] := by rfl
theorem sl2 : searchE (vecV [10, 20, 30]) (vecV [20, 40]) = 0 := by rfl
theorem sl3 : searchV slM (vecV [3, 4]) = .mk 1 [] [1] [] := by rfl
theorem sl4 : searchE slM (vecV [3, 4]) = 0 := by rfl
theorem sl5 : inV (txtV [98]) (txtV [97, 98, 99]) = vecV [1] := by rfl
theorem sl6 : searchE (txtV [97, 98, 99]) (txtV [98]) = 0 := by rfl
theorem sl7 : uniqV (txtV [98, 97, 110, 97, 110, 97]) = txtV [98, 97, 110] := by rfl
theorem sl8 : uniqE (txtV [98, 97, 110, 97, 110, 97]) = 0 := by rfl
theorem sl9 : whereV (vecV [0, 2, 1]) = (vecV [1, 1, 2], 0) := by rfl
theorem sl10 : searchV slM (.mk 1 [] [5] []) = Arr.zero := by rfl
theorem sl11 : searchE slM (.mk 1 [] [5] []) = 15 := by rfl

set_option maxRecDepth 100000 in
set_option maxHeartbeats 8000000 in
theorem slives_any (w : World) : Calls Try.prog 59 #[] w fun e w' => e = .returned (.bool true) ∧ Ext w w' := by
  go_enter Try.func59, Try.ntmps59
  have HE := Lib.hid (Ext.refl w)
  go_upto_region 2 with (fail)
  have hEn : Ext w (((w.alloc (.cells #[.int .i64 2, .int .i64 2] 3)).alloc (.cells #[.int .i64 1, .int .i64 2, .int .i64 3, .int .i64 4] 3)).alloc (.cells #[(.int .i64 1), (.slice (some ⟨w.heap.size, 0, none⟩) 2 2), (.slice (some ⟨w.heap.size + 1, 0, none⟩) 4 4), (.slice none 0 0)] 26)) := (((Ext.refl _).alloc _).alloc _).alloc _
  have hBn := box_new ((w.alloc (.cells #[.int .i64 2, .int .i64 2] 3)).alloc (.cells #[.int .i64 1, .int .i64 2, .int .i64 3, .int .i64 4] 3)) (.int .i64 1) (.slice (some ⟨w.heap.size, 0, none⟩) 2 2) (.slice (some ⟨w.heap.size + 1, 0, none⟩) 4 4) (.slice none 0 0)
  rw [World.size_alloc, World.size_alloc] at hBn
  have hAn : ArrAt (fun _ => True) (((w.alloc (.cells #[.int .i64 2, .int .i64 2] 3)).alloc (.cells #[.int .i64 1, .int .i64 2, .int .i64 3, .int .i64 4] 3)).alloc (.cells #[(.int .i64 1), (.slice (some ⟨w.heap.size, 0, none⟩) 2 2), (.slice (some ⟨w.heap.size + 1, 0, none⟩) 4 4), (.slice none 0 0)] 26)) slM (.int .i64 1) (.slice (some ⟨w.heap.size, 0, none⟩) 2 2) (.slice (some ⟨w.heap.size + 1, 0, none⟩) 4 4) (.slice none 0 0) := lit_arr2s w 1 [2, 2] [1, 2, 3, 4] _ (by decide) (by decide) (by decide) (by decide) (by decide)
  generalize ((w.alloc (.cells #[.int .i64 2, .int .i64 2] 3)).alloc (.cells #[.int .i64 1, .int .i64 2, .int .i64 3, .int .i64 4] 3)).alloc (.cells #[(.int .i64 1), (.slice (some ⟨w.heap.size, 0, none⟩) 2 2), (.slice (some ⟨w.heap.size + 1, 0, none⟩) 4 4), (.slice none 0 0)] 26) = wk0 at *
  replace HE := Lib.hid (HE.out.trans hEn)
  have HBm := Lib.hid hBn
  have HAm := Lib.hid hAn
  clear hEn hBn hAn
  go_wp2_with fail
  refine (sints_rd (rdix_lit0 wk0 [10, 20, 30] (by decide) (by decide)) (fun _ h => False.elim h)).mono ?_
  rintro e wf2 ⟨x1, rfl, hx1, hEx1⟩
  replace hEx1 := ((Ext.refl wk0).alloc (.cells #[.int .i64 10, .int .i64 20, .int .i64 30] 3)).trans hEx1
  go_wp2_with fail
  refine (sints_rd (rdix_lit0 wf2 [20, 40] (by decide) (by decide)) (fun _ h => False.elim h)).mono ?_
  rintro e wf4 ⟨x3, rfl, hx3, hEx3⟩
  replace hEx3 := ((Ext.refl wf2).alloc (.cells #[.int .i64 20, .int .i64 40] 3)).trans hEx3
  replace hx1 := hx1.mono0 hEx3
  go_wp2_with fail
  refine (sfind_at sl1 sl2 hx1 hx3 (fun _ h => False.elim h)).mono ?_
  rintro e wf6 ⟨x5, rfl, hx5, hEx5⟩
  obtain ⟨c0, c1, c2, c3, rfl, hA9⟩ := hx5
  obtain ⟨ky7, pay7, lay7, may7, pby7, lby7, mby7, pcy7, lcy7, mcy7, rfl, rfl, rfl, rfl⟩ := hA9.form
  have hEn := (((((Ext.refl wk0).trans hEx1).trans hEx3).trans hEx5)).alloc (.cells #[(.int .i64 ky7), (.slice pay7 lay7 may7), (.slice pby7 lby7 mby7), (.slice pcy7 lcy7 mcy7)] 26)
  have hBn := box_new wf6 (.int .i64 ky7) (.slice pay7 lay7 may7) (.slice pby7 lby7 mby7) (.slice pcy7 lcy7 mcy7)
  have hAn := hA9.ext ((Ext.refl _).alloc (.cells #[(.int .i64 ky7), (.slice pay7 lay7 may7), (.slice pby7 lby7 mby7), (.slice pcy7 lcy7 mcy7)] 26))
  clear hA9 hEx5 hEx1 hEx3 hx1 hx3
  have HF := Lib.hid (And.intro hEn (And.intro hBn hAn))
  clear hEn hBn hAn
  go_upto_region 3 with (fail)
  obtain ⟨hEn, hBn, hAn⟩ := HF.out
  clear HF
  generalize hbz : wf6.heap.size = by7 at *
  clear hbz
  generalize wf6.alloc (.cells #[(.int .i64 ky7), (.slice pay7 lay7 may7), (.slice pby7 lby7 mby7), (.slice pcy7 lcy7 mcy7)] 26) = wk8 at *
  replace HBm := Lib.hid (HBm.out.ext hEn)
  replace HAm := Lib.hid (HAm.out.ext hEn)
  replace HE := Lib.hid (HE.out.trans (hEn))
  have HBa := Lib.hid hBn
  have HAa := Lib.hid hAn
  clear hEn hBn hAn
  refine wp_region_y2 [MProp.is (.agg #[(.int .i64 1), (.slice (some ⟨w.heap.size, 0, none⟩) 2 2), (.slice (some ⟨w.heap.size + 1, 0, none⟩) 4 4), (.slice none 0 0)]), MProp.rdi [3, 4], MProp.rd (vecV [3, 4]), MProp.rd2 (.mk 1 [] [1] []) 0, MProp.rd2 (.mk 1 [] [1] []) 0, MProp.rd (.mk 1 [] [1] []), MProp.is (.int .i64 0), MProp.box] [0, 1, 2, 3, 4, 5, 6, 7] [6] [26, 27, 28, 29, 25, 30, 31, 4] 8 9 (by kernel_rfl) (by kernel_rfl) (by kernel_rfl) rfl rfl ?_ ?_ ?_
  · refine mem_cons_m ?_ (mem_cons_m ?_ (mem_cons_m ?_ (mem_cons_m ?_ (mem_cons_m ?_ (mem_cons_m ?_ (mem_cons_m ?_ (mem_cons_m ?_ (mem_nil_m))))))))
    · refine ⟨_, 26, rfl, by kernel_rfl, ?_⟩
      intro u w9 X hE hX hd K hK
      clear hd
      simp only [overlay, List.setIfInBounds_toArray, List.set] at hK ⊢
      have e9 : Ext wk8 w9 := (Ext.refl wk8).drew.trans hE
      obtain ⟨s0, s1, s2, s3⟩ := (HBm.out.ext e9).cell
      go_wp2_with fail
      exact hK _ _ X (Ext.refl _) kept_m hX rfl
    · refine ⟨_, 27, rfl, by kernel_rfl, ?_⟩
      intro u w9 X hE hX hd K hK
      clear hd
      simp only [overlay, List.setIfInBounds_toArray, List.set] at hK ⊢
      go_wp2_with fail
      exact hK _ _ X ((Ext.refl _).alloc _) kept_m (hX.ext ((Ext.refl _).alloc _)) (rdix_lit w9 [3, 4] (by decide) (by decide) hX.hi)
    · refine ⟨_, 28, rfl, by kernel_rfl, ?_⟩
      intro u w9 X hE hX hd K hK
      have d1 : RdIX X w9 [3, 4] (u 27) := hd 1 (by kernel_rfl)
      clear hd
      simp only [overlay, List.setIfInBounds_toArray, List.set] at hK ⊢
      have e9 : Ext wk8 w9 := (Ext.refl wk8).drew.trans hE
      go_wp2_with fail
      refine (sints_rd d1 hX.hi).mono ?_
      rintro e w8 ⟨x8, rfl, hx8, hE8⟩
      go_wp2_with fail
      exact hK _ _ X hE8 kept_m (hX.ext hE8) hx8
    · refine ⟨_, 29, rfl, by kernel_rfl, ?_⟩
      intro u w9 X hE hX hd K hK
      have d0 : u 26 = .agg #[(.int .i64 1), (.slice (some ⟨w.heap.size, 0, none⟩) 2 2), (.slice (some ⟨w.heap.size + 1, 0, none⟩) 4 4), (.slice none 0 0)] := hd 0 (by kernel_rfl)
      have d2 : RdX X w9 (vecV [3, 4]) (u 28) := hd 2 (by kernel_rfl)
      clear hd
      simp only [overlay, List.setIfInBounds_toArray, List.set, d0] at hK ⊢
      have e9 : Ext wk8 w9 := (Ext.refl wk8).drew.trans hE
      go_wp2_with fail
      refine (sfind_at sl3 sl4 (RdX.old HAm.out e9 hX.lo) d2 hX.hi).mono ?_
      rintro e w8 ⟨x8, rfl, hx8, hE8⟩
      go_wp2_with fail
      exact hK _ _ X hE8 kept_m (hX.ext hE8) ⟨x8, rfl, hx8⟩
    · refine ⟨_, 25, rfl, by kernel_rfl, ?_⟩
      intro u w9 X hE hX hd K hK
      have d3 : ∃ x, u 29 = .tuple #[x, .int .i64 0] ∧ RdX X w9 (.mk 1 [] [1] []) x := hd 3 (by kernel_rfl)
      clear hd
      simp only [overlay, List.setIfInBounds_toArray, List.set] at hK ⊢
      obtain ⟨x8, hv8, hx8⟩ := d3
      simp only [hv8] at hK ⊢
      go_wp2_with fail
      exact hK _ _ X (Ext.refl _) kept_m hX ⟨x8, rfl, hx8⟩
    · refine ⟨_, 30, rfl, by kernel_rfl, ?_⟩
      intro u w9 X hE hX hd K hK
      have d4 : ∃ x, u 25 = .tuple #[x, .int .i64 0] ∧ RdX X w9 (.mk 1 [] [1] []) x := hd 4 (by kernel_rfl)
      clear hd
      simp only [overlay, List.setIfInBounds_toArray, List.set] at hK ⊢
      obtain ⟨x8, hv8, hx8⟩ := d4
      simp only [hv8] at hK ⊢
      go_wp2_with fail
      exact hK _ _ X (Ext.refl _) kept_m hX hx8
    · refine ⟨_, 31, rfl, by kernel_rfl, ?_⟩
      intro u w9 X hE hX hd K hK
      have d4 : ∃ x, u 25 = .tuple #[x, .int .i64 0] ∧ RdX X w9 (.mk 1 [] [1] []) x := hd 4 (by kernel_rfl)
      clear hd
      simp only [overlay, List.setIfInBounds_toArray, List.set] at hK ⊢
      obtain ⟨x8, hv8, hx8⟩ := d4
      simp only [hv8] at hK ⊢
      go_wp2_with fail
      exact hK _ _ X (Ext.refl _) kept_m hX rfl
    · refine ⟨_, 4, rfl, by kernel_rfl, ?_⟩
      intro u w9 X hE hX hd K hK
      clear hd
      simp only [overlay, List.setIfInBounds_toArray, List.set] at hK ⊢
      go_wp2_with fail
      exact hK _ _ (fun b => X b ∨ b = w9.heap.size) ((Ext.refl _).alloc _) added_m (hX.add hE _) ⟨_, rfl, box_new _ _ _ _ _, .inr rfl⟩
  · refine mem_cons_m ?_ (mem_nil_m)
    · refine ⟨_, rfl, ?_⟩
      intro u w9 X hd
      have d4 : ∃ x, u 25 = .tuple #[x, .int .i64 0] ∧ RdX X w9 (.mk 1 [] [1] []) x := hd 4 (by kernel_rfl)
      clear hd
      obtain ⟨x8, hv8, hx8⟩ := d4
      simp only [overlay, List.setIfInBounds_toArray, List.set, hv8]
      exact ⟨.int .i64 0, .inl ⟨by kernel_rfl, fun w8 => by go_simp⟩, rfl⟩
  intro u w9 X hE hX hd
  have d0 : u 26 = .agg #[(.int .i64 1), (.slice (some ⟨w.heap.size, 0, none⟩) 2 2), (.slice (some ⟨w.heap.size + 1, 0, none⟩) 4 4), (.slice none 0 0)] := hd 0 (by decide)
  have d1 : RdIX X w9 [3, 4] (u 27) := hd 1 (by decide)
  have d2 : RdX X w9 (vecV [3, 4]) (u 28) := hd 2 (by decide)
  have d3 : ∃ x, u 29 = .tuple #[x, .int .i64 0] ∧ RdX X w9 (.mk 1 [] [1] []) x := hd 3 (by decide)
  have d4 : ∃ x, u 25 = .tuple #[x, .int .i64 0] ∧ RdX X w9 (.mk 1 [] [1] []) x := hd 4 (by decide)
  have d5 : RdX X w9 (.mk 1 [] [1] []) (u 30) := hd 5 (by decide)
  have d6 : u 31 = .int .i64 0 := hd 6 (by decide)
  have d7 : ∃ b, u 4 = .pointer (some ⟨b, 0, none⟩) ∧ Box4 w9 b (.int .i64 0) (.slice none 0 0) (.slice none 0 0) (.slice none 0 0) ∧ X b := hd 7 (by decide)
  clear hd
  simp only [overlay, List.setIfInBounds_toArray, List.set, d0, d6]
  have e9 : Ext wk8 w9 := (Ext.refl wk8).drew.trans hE
  obtain ⟨boz9, hvb, hbox, hxb⟩ := d7
  obtain ⟨c0, c1, c2, c3, hva, hA9⟩ := d5
  obtain ⟨kz9, paz9, laz9, maz9, pbz9, lbz9, mbz9, pcz9, lcz9, mcz9, rfl, rfl, rfl, rfl⟩ := hA9.form
  have hbo := hX boz9 hxb
  simp only [hvb, hva]
  obtain ⟨s0, s1, s2, s3⟩ := hbox.cell
  have f0 := hbox.free 0
  have f1 := hbox.free 1
  have f2 := hbox.free 2
  have f3 := hbox.free 3
  obtain ⟨gg1, gg2, gg3⟩ := hbox.put4 e9 hbo.1 (.int .i64 kz9) (.slice paz9 laz9 maz9) (.slice pbz9 lbz9 mbz9) (.slice pcz9 lcz9 mcz9)
  have hAn := ArrAt.mono (G := fun _ => True) (fun b hb _ => ⟨trivial, gg3 b (fun e => hb.2 (by rw [e]; exact hxb))⟩) _ _ _ _ _ hA9
  have HGG := Lib.hid (And.intro gg1 (And.intro gg2 hAn))
  clear gg1 gg2 gg3 hAn hA9 hbo hxb hbox
  clear d0 d1 d2 d3 d4 d6
  clear hX hE
  generalize u 27 = t27z9 at *
  generalize u 28 = t28z9 at *
  generalize u 29 = t29z9 at *
  generalize u 25 = t25z9 at *
  clear hvb hva
  clear u
  go_wp2_with fail
  refine OnlyN.mk ?_
  obtain ⟨gg1, gg2, hAn⟩ := HGG.out
  clear HGG s0 s1 s2 s3 f0 f1 f2 f3 e9
  generalize ((((w9.setCell ⟨boz9, 0, none⟩ (.int .i64 kz9)).setCell ⟨boz9, 1, none⟩ (.slice paz9 laz9 maz9)).setCell ⟨boz9, 2, none⟩ (.slice pbz9 lbz9 mbz9)).setCell ⟨boz9, 3, none⟩ (.slice pcz9 lcz9 mcz9)) = wk10 at *
  replace HBm := Lib.hid (HBm.out.ext gg1)
  replace HAm := Lib.hid (HAm.out.ext gg1)
  replace HBa := Lib.hid (HBa.out.ext gg1)
  replace HAa := Lib.hid (HAa.out.ext gg1)
  replace HE := Lib.hid (HE.out.trans (gg1))
  have HBb := Lib.hid gg2
  have HAb := Lib.hid hAn
  clear gg1 gg2 hAn
  go_upto_region 4 with (fail)
  go_wp2_with fail
  refine (stext_rd (rdix_lit0 wk10 [98] (by decide) (by decide)) (fun _ h => False.elim h)).mono ?_
  rintro e wf12 ⟨x11, rfl, hx11, hEx11⟩
  replace hEx11 := ((Ext.refl wk10).alloc (.cells #[.int .i64 98] 3)).trans hEx11
  go_wp2_with fail
  refine (stext_rd (rdix_lit0 wf12 [97, 98, 99] (by decide) (by decide)) (fun _ h => False.elim h)).mono ?_
  rintro e wf14 ⟨x13, rfl, hx13, hEx13⟩
  replace hEx13 := ((Ext.refl wf12).alloc (.cells #[.int .i64 97, .int .i64 98, .int .i64 99] 3)).trans hEx13
  replace hx11 := hx11.mono0 hEx13
  go_wp2_with fail
  refine (sin_at sl5 sl6 hx11 hx13 (fun _ h => False.elim h)).mono ?_
  rintro e wf16 ⟨x15, rfl, hx15, hEx15⟩
  obtain ⟨c0, c1, c2, c3, rfl, hA9⟩ := hx15
  obtain ⟨ky17, pay17, lay17, may17, pby17, lby17, mby17, pcy17, lcy17, mcy17, rfl, rfl, rfl, rfl⟩ := hA9.form
  have hEn := (((((Ext.refl wk10).trans hEx11).trans hEx13).trans hEx15)).alloc (.cells #[(.int .i64 ky17), (.slice pay17 lay17 may17), (.slice pby17 lby17 mby17), (.slice pcy17 lcy17 mcy17)] 26)
  have hBn := box_new wf16 (.int .i64 ky17) (.slice pay17 lay17 may17) (.slice pby17 lby17 mby17) (.slice pcy17 lcy17 mcy17)
  have hAn := hA9.ext ((Ext.refl _).alloc (.cells #[(.int .i64 ky17), (.slice pay17 lay17 may17), (.slice pby17 lby17 mby17), (.slice pcy17 lcy17 mcy17)] 26))
  clear hA9 hEx15 hEx11 hEx13 hx11 hx13
  have HF := Lib.hid (And.intro hEn (And.intro hBn hAn))
  clear hEn hBn hAn
  go_upto_region 5 with (fail)
  obtain ⟨hEn, hBn, hAn⟩ := HF.out
  clear HF
  generalize hbz : wf16.heap.size = by17 at *
  clear hbz
  generalize wf16.alloc (.cells #[(.int .i64 ky17), (.slice pay17 lay17 may17), (.slice pby17 lby17 mby17), (.slice pcy17 lcy17 mcy17)] 26) = wk18 at *
  replace HBm := Lib.hid (HBm.out.ext hEn)
  replace HAm := Lib.hid (HAm.out.ext hEn)
  replace HBa := Lib.hid (HBa.out.ext hEn)
  replace HAa := Lib.hid (HAa.out.ext hEn)
  replace HBb := Lib.hid (HBb.out.ext hEn)
  replace HAb := Lib.hid (HAb.out.ext hEn)
  replace HE := Lib.hid (HE.out.trans (hEn))
  have HBc := Lib.hid hBn
  have HAc := Lib.hid hAn
  clear hEn hBn hAn
  go_wp2_with fail
  refine (stext_rd (rdix_lit0 wk18 [98, 97, 110, 97, 110, 97] (by decide) (by decide)) (fun _ h => False.elim h)).mono ?_
  rintro e wf20 ⟨x19, rfl, hx19, hEx19⟩
  replace hEx19 := ((Ext.refl wk18).alloc (.cells #[.int .i64 98, .int .i64 97, .int .i64 110, .int .i64 97, .int .i64 110, .int .i64 97] 3)).trans hEx19
  go_wp2_with fail
  refine (suniq_at sl7 sl8 hx19 (fun _ h => False.elim h)).mono ?_
  rintro e wf22 ⟨x21, rfl, hx21, hEx21⟩
  obtain ⟨c0, c1, c2, c3, rfl, hA9⟩ := hx21
  obtain ⟨ky23, pay23, lay23, may23, pby23, lby23, mby23, pcy23, lcy23, mcy23, rfl, rfl, rfl, rfl⟩ := hA9.form
  have hEn := ((((Ext.refl wk18).trans hEx19).trans hEx21)).alloc (.cells #[(.int .i64 ky23), (.slice pay23 lay23 may23), (.slice pby23 lby23 mby23), (.slice pcy23 lcy23 mcy23)] 26)
  have hBn := box_new wf22 (.int .i64 ky23) (.slice pay23 lay23 may23) (.slice pby23 lby23 mby23) (.slice pcy23 lcy23 mcy23)
  have hAn := hA9.ext ((Ext.refl _).alloc (.cells #[(.int .i64 ky23), (.slice pay23 lay23 may23), (.slice pby23 lby23 mby23), (.slice pcy23 lcy23 mcy23)] 26))
  clear hA9 hEx21 hEx19 hx19
  have HF := Lib.hid (And.intro hEn (And.intro hBn hAn))
  clear hEn hBn hAn
  go_upto_region 6 with (fail)
  obtain ⟨hEn, hBn, hAn⟩ := HF.out
  clear HF
  generalize hbz : wf22.heap.size = by23 at *
  clear hbz
  generalize wf22.alloc (.cells #[(.int .i64 ky23), (.slice pay23 lay23 may23), (.slice pby23 lby23 mby23), (.slice pcy23 lcy23 mcy23)] 26) = wk24 at *
  replace HBm := Lib.hid (HBm.out.ext hEn)
  replace HAm := Lib.hid (HAm.out.ext hEn)
  replace HBa := Lib.hid (HBa.out.ext hEn)
  replace HAa := Lib.hid (HAa.out.ext hEn)
  replace HBb := Lib.hid (HBb.out.ext hEn)
  replace HAb := Lib.hid (HAb.out.ext hEn)
  replace HBc := Lib.hid (HBc.out.ext hEn)
  replace HAc := Lib.hid (HAc.out.ext hEn)
  replace HE := Lib.hid (HE.out.trans (hEn))
  have HBd := Lib.hid hBn
  have HAd := Lib.hid hAn
  clear hEn hBn hAn
  go_wp2_with fail
  refine (sints_rd (rdix_lit0 wk24 [0, 2, 1] (by decide) (by decide)) (fun _ h => False.elim h)).mono ?_
  rintro e wf26 ⟨x25, rfl, hx25, hEx25⟩
  replace hEx25 := ((Ext.refl wk24).alloc (.cells #[.int .i64 0, .int .i64 2, .int .i64 1] 3)).trans hEx25
  go_wp2_with fail
  refine (swhere_at sl9 hx25 (fun _ h => False.elim h)).mono ?_
  rintro e wf28 ⟨x27, rfl, hx27, hEx27⟩
  obtain ⟨c0, c1, c2, c3, rfl, hA9⟩ := hx27
  obtain ⟨ky29, pay29, lay29, may29, pby29, lby29, mby29, pcy29, lcy29, mcy29, rfl, rfl, rfl, rfl⟩ := hA9.form
  have hEn := ((((Ext.refl wk24).trans hEx25).trans hEx27)).alloc (.cells #[(.int .i64 ky29), (.slice pay29 lay29 may29), (.slice pby29 lby29 mby29), (.slice pcy29 lcy29 mcy29)] 26)
  have hBn := box_new wf28 (.int .i64 ky29) (.slice pay29 lay29 may29) (.slice pby29 lby29 mby29) (.slice pcy29 lcy29 mcy29)
  have hAn := hA9.ext ((Ext.refl _).alloc (.cells #[(.int .i64 ky29), (.slice pay29 lay29 may29), (.slice pby29 lby29 mby29), (.slice pcy29 lcy29 mcy29)] 26))
  clear hA9 hEx27 hEx25 hx25
  have HF := Lib.hid (And.intro hEn (And.intro hBn hAn))
  clear hEn hBn hAn
  go_upto_region 7 with (fail)
  obtain ⟨hEn, hBn, hAn⟩ := HF.out
  clear HF
  generalize hbz : wf28.heap.size = by29 at *
  clear hbz
  generalize wf28.alloc (.cells #[(.int .i64 ky29), (.slice pay29 lay29 may29), (.slice pby29 lby29 mby29), (.slice pcy29 lcy29 mcy29)] 26) = wk30 at *
  replace HBm := Lib.hid (HBm.out.ext hEn)
  replace HAm := Lib.hid (HAm.out.ext hEn)
  replace HBa := Lib.hid (HBa.out.ext hEn)
  replace HAa := Lib.hid (HAa.out.ext hEn)
  replace HBb := Lib.hid (HBb.out.ext hEn)
  replace HAb := Lib.hid (HAb.out.ext hEn)
  replace HBc := Lib.hid (HBc.out.ext hEn)
  replace HAc := Lib.hid (HAc.out.ext hEn)
  replace HBd := Lib.hid (HBd.out.ext hEn)
  replace HAd := Lib.hid (HAd.out.ext hEn)
  replace HE := Lib.hid (HE.out.trans (hEn))
  have HBk := Lib.hid hBn
  have HAk := Lib.hid hAn
  clear hEn hBn hAn
  obtain ⟨sm0, sm1, sm2, sm3⟩ := HBm.out.cell
  go_wp2_with fail
  refine (sfind_at sl10 sl11 (RdX.old (X := fun _ => False) HAm.out ((Ext.refl _).alloc _) (fun _ h => False.elim h)) (rdx_litn wk30 1 [5] (by decide) (by decide) (by decide)) (fun _ h => False.elim h)).mono ?_
  rintro e wf32 ⟨x31, rfl, hx31, hEx31⟩
  clear sm0 sm1 sm2 sm3
  obtain ⟨c0, c1, c2, c3, rfl, hA9⟩ := hx31
  obtain ⟨ky33, pay33, lay33, may33, pby33, lby33, mby33, pcy33, lcy33, mcy33, rfl, rfl, rfl, rfl⟩ := hA9.form
  have hEn := ((((Ext.refl wk30).trans ((Ext.refl wk30).alloc (.cells #[.int .i64 5] 3))).trans hEx31)).alloc (.cells #[(.int .i64 ky33), (.slice pay33 lay33 may33), (.slice pby33 lby33 mby33), (.slice pcy33 lcy33 mcy33)] 26)
  have hBn := box_new wf32 (.int .i64 ky33) (.slice pay33 lay33 may33) (.slice pby33 lby33 mby33) (.slice pcy33 lcy33 mcy33)
  have hAn := hA9.ext ((Ext.refl _).alloc (.cells #[(.int .i64 ky33), (.slice pay33 lay33 may33), (.slice pby33 lby33 mby33), (.slice pcy33 lcy33 mcy33)] 26))
  clear hA9 hEx31
  have HF := Lib.hid (And.intro hEn (And.intro hBn hAn))
  clear hEn hBn hAn
  go_upto_region 8 with (fail)
  obtain ⟨hEn, hBn, hAn⟩ := HF.out
  clear HF
  generalize hbz : wf32.heap.size = by33 at *
  clear hbz
  generalize wf32.alloc (.cells #[(.int .i64 ky33), (.slice pay33 lay33 may33), (.slice pby33 lby33 mby33), (.slice pcy33 lcy33 mcy33)] 26) = wk34 at *
  replace HBm := Lib.hid (HBm.out.ext hEn)
  replace HAm := Lib.hid (HAm.out.ext hEn)
  replace HBa := Lib.hid (HBa.out.ext hEn)
  replace HAa := Lib.hid (HAa.out.ext hEn)
  replace HBb := Lib.hid (HBb.out.ext hEn)
  replace HAb := Lib.hid (HAb.out.ext hEn)
  replace HBc := Lib.hid (HBc.out.ext hEn)
  replace HAc := Lib.hid (HAc.out.ext hEn)
  replace HBd := Lib.hid (HBd.out.ext hEn)
  replace HAd := Lib.hid (HAd.out.ext hEn)
  replace HBk := Lib.hid (HBk.out.ext hEn)
  replace HAk := Lib.hid (HAk.out.ext hEn)
  replace HE := Lib.hid (HE.out.trans (hEn))
  have HBz := Lib.hid hBn
  have HAz := Lib.hid hAn
  clear hEn hBn hAn
  refine wp_region_x0 (MProp.is (.int .i64 0) :: MProp.is (.bool true) :: MProp.is (.bool true) :: MProp.is (.agg #[(.int .i64 ky7), (.slice pay7 lay7 may7), (.slice pby7 lby7 mby7), (.slice pcy7 lcy7 mcy7)]) :: MProp.rdi [1, 3] :: MProp.rd (vecV [1, 3]) :: MProp.is (.bool true) :: MProp.is (.bool true) :: MProp.is (.bool true) :: MProp.is (.int .i64 0) :: MProp.is (.bool true) :: MProp.is (.bool true) :: MProp.is (.bool true) :: MProp.is (.agg #[(.int .i64 kz9), (.slice paz9 laz9 maz9), (.slice pbz9 lbz9 mbz9), (.slice pcz9 lcz9 mcz9)]) :: MProp.rdi [1] :: MProp.rd (.mk 1 [] [1] []) :: MProp.is (.bool true) :: MProp.is (.bool true) :: MProp.is (.bool true) :: MProp.is (.int .i64 0) :: MProp.is (.bool true) :: MProp.is (.bool true) :: MProp.is (.bool true) :: MProp.is (.agg #[(.int .i64 ky17), (.slice pay17 lay17 may17), (.slice pby17 lby17 mby17), (.slice pcy17 lcy17 mcy17)]) :: MProp.rdi [1] :: MProp.rd (vecV [1]) :: MProp.is (.bool true) :: MProp.is (.bool true) :: MProp.is (.bool true) :: MProp.is (.int .i64 0) :: MProp.is (.bool true) :: MProp.is (.bool true) :: MProp.is (.bool true) :: MProp.is (.agg #[(.int .i64 ky23), (.slice pay23 lay23 may23), (.slice pby23 lby23 mby23), (.slice pcy23 lcy23 mcy23)]) :: MProp.rdi [98, 97, 110] :: MProp.rd (txtV [98, 97, 110]) :: MProp.is (.bool true) :: MProp.is (.bool true) :: MProp.is (.bool true) :: MProp.is (.int .i64 0) :: MProp.is (.bool true) :: MProp.is (.bool true) :: MProp.is (.bool true) :: MProp.is (.agg #[(.int .i64 ky29), (.slice pay29 lay29 may29), (.slice pby29 lby29 mby29), (.slice pcy29 lcy29 mcy29)]) :: MProp.rdi [1, 1, 2] :: MProp.rd (vecV [1, 1, 2]) :: MProp.is (.bool true) :: MProp.is (.bool true) :: MProp.is (.bool true) :: MProp.is (.int .i64 15) :: MProp.is (.bool true) :: MProp.is (.bool true) :: MProp.is (.bool true) :: []) (0 :: 1 :: 2 :: 3 :: 4 :: 5 :: 6 :: 7 :: 8 :: 9 :: 10 :: 11 :: 12 :: 13 :: 14 :: 15 :: 16 :: 17 :: 18 :: 19 :: 20 :: 21 :: 22 :: 23 :: 24 :: 25 :: 26 :: 27 :: 28 :: 29 :: 30 :: 31 :: 32 :: 33 :: 34 :: 35 :: 36 :: 37 :: 38 :: 39 :: 40 :: 41 :: 42 :: 43 :: 44 :: 45 :: 46 :: 47 :: 48 :: 49 :: 50 :: 51 :: 52 :: []) [] (59 :: 60 :: 61 :: 62 :: 63 :: 64 :: 65 :: 66 :: 67 :: 68 :: 69 :: 70 :: 71 :: 72 :: 73 :: 74 :: 75 :: 76 :: 77 :: 78 :: 79 :: 80 :: 81 :: 82 :: 83 :: 84 :: 85 :: 86 :: 87 :: 88 :: 89 :: 90 :: 91 :: 92 :: 93 :: 94 :: 95 :: 96 :: 97 :: 98 :: 99 :: 100 :: 101 :: 102 :: 103 :: 104 :: 105 :: 106 :: 107 :: 108 :: 109 :: 110 :: 0 :: []) (by kernel_rfl) (by kernel_rfl) (by kernel_rfl) ?_ ?_ ?_
  · refine mem_cons_m ?_ (mem_cons_m ?_ (mem_cons_m ?_ (mem_cons_m ?_ (mem_cons_m ?_ (mem_cons_m ?_ (mem_cons_m ?_ (mem_cons_m ?_ (mem_cons_m ?_ (mem_cons_m ?_ (mem_cons_m ?_ (mem_cons_m ?_ (mem_cons_m ?_ (mem_cons_m ?_ (mem_cons_m ?_ (mem_cons_m ?_ (mem_cons_m ?_ (mem_cons_m ?_ (mem_cons_m ?_ (mem_cons_m ?_ (mem_cons_m ?_ (mem_cons_m ?_ (mem_cons_m ?_ (mem_cons_m ?_ (mem_cons_m ?_ (mem_cons_m ?_ (mem_cons_m ?_ (mem_cons_m ?_ (mem_cons_m ?_ (mem_cons_m ?_ (mem_cons_m ?_ (mem_cons_m ?_ (mem_cons_m ?_ (mem_cons_m ?_ (mem_cons_m ?_ (mem_cons_m ?_ (mem_cons_m ?_ (mem_cons_m ?_ (mem_cons_m ?_ (mem_cons_m ?_ (mem_cons_m ?_ (mem_cons_m ?_ (mem_cons_m ?_ (mem_cons_m ?_ (mem_cons_m ?_ (mem_cons_m ?_ (mem_cons_m ?_ (mem_cons_m ?_ (mem_cons_m ?_ (mem_cons_m ?_ (mem_cons_m ?_ (mem_cons_m ?_ (mem_cons_m ?_ (mem_nil_m)))))))))))))))))))))))))))))))))))))))))))))))))))))
    · refine ⟨_, 59, rfl, by kernel_rfl, ?_⟩
      intro u w9 X hE hX hd K hK
      clear hd
      simp only [overlay, List.setIfInBounds_toArray, List.set] at hK ⊢
      go_wp2_with fail
      exact hK _ _ X (Ext.refl _) kept_m hX rfl
    · refine ⟨_, 60, rfl, by kernel_rfl, ?_⟩
      intro u w9 X hE hX hd K hK
      have d0 : u 59 = .int .i64 0 := hd 0 (by kernel_rfl)
      clear hd
      simp only [overlay, List.setIfInBounds_toArray, List.set, d0] at hK ⊢
      go_wp2_with fail
      exact hK _ _ X (Ext.refl _) kept_m hX rfl
    · refine ⟨_, 61, rfl, by kernel_rfl, ?_⟩
      intro u w9 X hE hX hd K hK
      have d1 : u 60 = .bool true := hd 1 (by kernel_rfl)
      clear hd
      simp only [overlay, List.setIfInBounds_toArray, List.set, d1] at hK ⊢
      go_wp2_with fail
      exact hK _ _ X (Ext.refl _) kept_m hX rfl
    · refine ⟨_, 62, rfl, by kernel_rfl, ?_⟩
      intro u w9 X hE hX hd K hK
      have d2 : u 61 = .bool true := hd 2 (by kernel_rfl)
      clear hd
      simp only [overlay, List.setIfInBounds_toArray, List.set, d2] at hK ⊢
      have e9 : Ext wk34 w9 := (Ext.refl wk34).drew.trans hE
      obtain ⟨s0, s1, s2, s3⟩ := (HBa.out.ext e9).cell
      go_wp2_with fail
      exact hK _ _ X (Ext.refl _) kept_m hX rfl
    · refine ⟨_, 63, rfl, by kernel_rfl, ?_⟩
      intro u w9 X hE hX hd K hK
      have d2 : u 61 = .bool true := hd 2 (by kernel_rfl)
      clear hd
      simp only [overlay, List.setIfInBounds_toArray, List.set, d2] at hK ⊢
      go_wp2_with fail
      exact hK _ _ X ((Ext.refl _).alloc _) kept_m (hX.ext ((Ext.refl _).alloc _)) (rdix_lit w9 [1, 3] (by decide) (by decide) hX.hi)
    · refine ⟨_, 64, rfl, by kernel_rfl, ?_⟩
      intro u w9 X hE hX hd K hK
      have d4 : RdIX X w9 [1, 3] (u 63) := hd 4 (by kernel_rfl)
      have d2 : u 61 = .bool true := hd 2 (by kernel_rfl)
      clear hd
      simp only [overlay, List.setIfInBounds_toArray, List.set, d2] at hK ⊢
      have e9 : Ext wk34 w9 := (Ext.refl wk34).drew.trans hE
      go_wp2_with fail
      refine (sints_rd d4 hX.hi).mono ?_
      rintro e w8 ⟨x8, rfl, hx8, hE8⟩
      go_wp2_with fail
      exact hK _ _ X hE8 kept_m (hX.ext hE8) hx8
    · refine ⟨_, 65, rfl, by kernel_rfl, ?_⟩
      intro u w9 X hE hX hd K hK
      have d3 : u 62 = .agg #[(.int .i64 ky7), (.slice pay7 lay7 may7), (.slice pby7 lby7 mby7), (.slice pcy7 lcy7 mcy7)] := hd 3 (by kernel_rfl)
      have d5 : RdX X w9 (vecV [1, 3]) (u 64) := hd 5 (by kernel_rfl)
      have d2 : u 61 = .bool true := hd 2 (by kernel_rfl)
      clear hd
      simp only [overlay, List.setIfInBounds_toArray, List.set, d3, d2] at hK ⊢
      have e9 : Ext wk34 w9 := (Ext.refl wk34).drew.trans hE
      go_wp2_with fail
      refine (same_true ((RdX.old HAa.out e9 hX.lo)).rd (d5).rd rfl rfl).mono ?_
      rintro e w8 ⟨rfl, hE8⟩
      go_wp2_with fail
      exact hK _ _ X hE8 kept_m (hX.ext hE8) rfl
    · refine ⟨_, 66, rfl, by kernel_rfl, ?_⟩
      intro u w9 X hE hX hd K hK
      have d2 : u 61 = .bool true := hd 2 (by kernel_rfl)
      have d6 : u 65 = .bool true := hd 6 (by kernel_rfl)
      clear hd
      simp only [overlay, List.setIfInBounds_toArray, List.set, d2, d6] at hK ⊢
      go_wp2_with fail
      exact hK _ _ X (Ext.refl _) kept_m hX rfl
    · refine ⟨_, 67, rfl, by kernel_rfl, ?_⟩
      intro u w9 X hE hX hd K hK
      have d7 : u 66 = .bool true := hd 7 (by kernel_rfl)
      clear hd
      simp only [overlay, List.setIfInBounds_toArray, List.set, d7] at hK ⊢
      go_wp2_with fail
      exact hK _ _ X (Ext.refl _) kept_m hX rfl
    · refine ⟨_, 68, rfl, by kernel_rfl, ?_⟩
      intro u w9 X hE hX hd K hK
      have d8 : u 67 = .bool true := hd 8 (by kernel_rfl)
      clear hd
      simp only [overlay, List.setIfInBounds_toArray, List.set, d8] at hK ⊢
      go_wp2_with fail
      exact hK _ _ X (Ext.refl _) kept_m hX rfl
    · refine ⟨_, 69, rfl, by kernel_rfl, ?_⟩
      intro u w9 X hE hX hd K hK
      have d9 : u 68 = .int .i64 0 := hd 9 (by kernel_rfl)
      have d8 : u 67 = .bool true := hd 8 (by kernel_rfl)
      clear hd
      simp only [overlay, List.setIfInBounds_toArray, List.set, d9, d8] at hK ⊢
      go_wp2_with fail
      exact hK _ _ X (Ext.refl _) kept_m hX rfl
    · refine ⟨_, 70, rfl, by kernel_rfl, ?_⟩
      intro u w9 X hE hX hd K hK
      have d8 : u 67 = .bool true := hd 8 (by kernel_rfl)
      have d10 : u 69 = .bool true := hd 10 (by kernel_rfl)
      clear hd
      simp only [overlay, List.setIfInBounds_toArray, List.set, d8, d10] at hK ⊢
      go_wp2_with fail
      exact hK _ _ X (Ext.refl _) kept_m hX rfl
    · refine ⟨_, 71, rfl, by kernel_rfl, ?_⟩
      intro u w9 X hE hX hd K hK
      have d11 : u 70 = .bool true := hd 11 (by kernel_rfl)
      clear hd
      simp only [overlay, List.setIfInBounds_toArray, List.set, d11] at hK ⊢
      go_wp2_with fail
      exact hK _ _ X (Ext.refl _) kept_m hX rfl
    · refine ⟨_, 72, rfl, by kernel_rfl, ?_⟩
      intro u w9 X hE hX hd K hK
      have d12 : u 71 = .bool true := hd 12 (by kernel_rfl)
      clear hd
      simp only [overlay, List.setIfInBounds_toArray, List.set, d12] at hK ⊢
      have e9 : Ext wk34 w9 := (Ext.refl wk34).drew.trans hE
      obtain ⟨s0, s1, s2, s3⟩ := (HBb.out.ext e9).cell
      go_wp2_with fail
      exact hK _ _ X (Ext.refl _) kept_m hX rfl
    · refine ⟨_, 73, rfl, by kernel_rfl, ?_⟩
      intro u w9 X hE hX hd K hK
      have d12 : u 71 = .bool true := hd 12 (by kernel_rfl)
      clear hd
      simp only [overlay, List.setIfInBounds_toArray, List.set, d12] at hK ⊢
      go_wp2_with fail
      exact hK _ _ X ((Ext.refl _).alloc _) kept_m (hX.ext ((Ext.refl _).alloc _)) (rdix_lit w9 [1] (by decide) (by decide) hX.hi)
    · refine ⟨_, 74, rfl, by kernel_rfl, ?_⟩
      intro u w9 X hE hX hd K hK
      have d14 : RdIX X w9 [1] (u 73) := hd 14 (by kernel_rfl)
      have d12 : u 71 = .bool true := hd 12 (by kernel_rfl)
      clear hd
      simp only [overlay, List.setIfInBounds_toArray, List.set, d12] at hK ⊢
      obtain ⟨x1, y1, hv1, hk1, hi1⟩ := d14
      simp only [hv1] at hK ⊢
      go_wp2_with fail
      exact hK _ _ X (Ext.refl _) kept_m hX (rdx_mkn 1 (by decide) hk1 hi1)
    · refine ⟨_, 75, rfl, by kernel_rfl, ?_⟩
      intro u w9 X hE hX hd K hK
      have d13 : u 72 = .agg #[(.int .i64 kz9), (.slice paz9 laz9 maz9), (.slice pbz9 lbz9 mbz9), (.slice pcz9 lcz9 mcz9)] := hd 13 (by kernel_rfl)
      have d15 : RdX X w9 (.mk 1 [] [1] []) (u 74) := hd 15 (by kernel_rfl)
      have d12 : u 71 = .bool true := hd 12 (by kernel_rfl)
      clear hd
      simp only [overlay, List.setIfInBounds_toArray, List.set, d13, d12] at hK ⊢
      have e9 : Ext wk34 w9 := (Ext.refl wk34).drew.trans hE
      go_wp2_with fail
      refine (same_true ((RdX.old HAb.out e9 hX.lo)).rd (d15).rd rfl rfl).mono ?_
      rintro e w8 ⟨rfl, hE8⟩
      go_wp2_with fail
      exact hK _ _ X hE8 kept_m (hX.ext hE8) rfl
    · refine ⟨_, 76, rfl, by kernel_rfl, ?_⟩
      intro u w9 X hE hX hd K hK
      have d12 : u 71 = .bool true := hd 12 (by kernel_rfl)
      have d16 : u 75 = .bool true := hd 16 (by kernel_rfl)
      clear hd
      simp only [overlay, List.setIfInBounds_toArray, List.set, d12, d16] at hK ⊢
      go_wp2_with fail
      exact hK _ _ X (Ext.refl _) kept_m hX rfl
    · refine ⟨_, 77, rfl, by kernel_rfl, ?_⟩
      intro u w9 X hE hX hd K hK
      have d17 : u 76 = .bool true := hd 17 (by kernel_rfl)
      clear hd
      simp only [overlay, List.setIfInBounds_toArray, List.set, d17] at hK ⊢
      go_wp2_with fail
      exact hK _ _ X (Ext.refl _) kept_m hX rfl
    · refine ⟨_, 78, rfl, by kernel_rfl, ?_⟩
      intro u w9 X hE hX hd K hK
      have d18 : u 77 = .bool true := hd 18 (by kernel_rfl)
      clear hd
      simp only [overlay, List.setIfInBounds_toArray, List.set, d18] at hK ⊢
      go_wp2_with fail
      exact hK _ _ X (Ext.refl _) kept_m hX rfl
    · refine ⟨_, 79, rfl, by kernel_rfl, ?_⟩
      intro u w9 X hE hX hd K hK
      have d19 : u 78 = .int .i64 0 := hd 19 (by kernel_rfl)
      have d18 : u 77 = .bool true := hd 18 (by kernel_rfl)
      clear hd
      simp only [overlay, List.setIfInBounds_toArray, List.set, d19, d18] at hK ⊢
      go_wp2_with fail
      exact hK _ _ X (Ext.refl _) kept_m hX rfl
    · refine ⟨_, 80, rfl, by kernel_rfl, ?_⟩
      intro u w9 X hE hX hd K hK
      have d18 : u 77 = .bool true := hd 18 (by kernel_rfl)
      have d20 : u 79 = .bool true := hd 20 (by kernel_rfl)
      clear hd
      simp only [overlay, List.setIfInBounds_toArray, List.set, d18, d20] at hK ⊢
      go_wp2_with fail
      exact hK _ _ X (Ext.refl _) kept_m hX rfl
    · refine ⟨_, 81, rfl, by kernel_rfl, ?_⟩
      intro u w9 X hE hX hd K hK
      have d21 : u 80 = .bool true := hd 21 (by kernel_rfl)
      clear hd
      simp only [overlay, List.setIfInBounds_toArray, List.set, d21] at hK ⊢
      go_wp2_with fail
      exact hK _ _ X (Ext.refl _) kept_m hX rfl
    · refine ⟨_, 82, rfl, by kernel_rfl, ?_⟩
      intro u w9 X hE hX hd K hK
      have d22 : u 81 = .bool true := hd 22 (by kernel_rfl)
      clear hd
      simp only [overlay, List.setIfInBounds_toArray, List.set, d22] at hK ⊢
      have e9 : Ext wk34 w9 := (Ext.refl wk34).drew.trans hE
      obtain ⟨s0, s1, s2, s3⟩ := (HBc.out.ext e9).cell
      go_wp2_with fail
      exact hK _ _ X (Ext.refl _) kept_m hX rfl
    · refine ⟨_, 83, rfl, by kernel_rfl, ?_⟩
      intro u w9 X hE hX hd K hK
      have d22 : u 81 = .bool true := hd 22 (by kernel_rfl)
      clear hd
      simp only [overlay, List.setIfInBounds_toArray, List.set, d22] at hK ⊢
      go_wp2_with fail
      exact hK _ _ X ((Ext.refl _).alloc _) kept_m (hX.ext ((Ext.refl _).alloc _)) (rdix_lit w9 [1] (by decide) (by decide) hX.hi)
    · refine ⟨_, 84, rfl, by kernel_rfl, ?_⟩
      intro u w9 X hE hX hd K hK
      have d24 : RdIX X w9 [1] (u 83) := hd 24 (by kernel_rfl)
      have d22 : u 81 = .bool true := hd 22 (by kernel_rfl)
      clear hd
      simp only [overlay, List.setIfInBounds_toArray, List.set, d22] at hK ⊢
      have e9 : Ext wk34 w9 := (Ext.refl wk34).drew.trans hE
      go_wp2_with fail
      refine (sints_rd d24 hX.hi).mono ?_
      rintro e w8 ⟨x8, rfl, hx8, hE8⟩
      go_wp2_with fail
      exact hK _ _ X hE8 kept_m (hX.ext hE8) hx8
    · refine ⟨_, 85, rfl, by kernel_rfl, ?_⟩
      intro u w9 X hE hX hd K hK
      have d23 : u 82 = .agg #[(.int .i64 ky17), (.slice pay17 lay17 may17), (.slice pby17 lby17 mby17), (.slice pcy17 lcy17 mcy17)] := hd 23 (by kernel_rfl)
      have d25 : RdX X w9 (vecV [1]) (u 84) := hd 25 (by kernel_rfl)
      have d22 : u 81 = .bool true := hd 22 (by kernel_rfl)
      clear hd
      simp only [overlay, List.setIfInBounds_toArray, List.set, d23, d22] at hK ⊢
      have e9 : Ext wk34 w9 := (Ext.refl wk34).drew.trans hE
      go_wp2_with fail
      refine (same_true ((RdX.old HAc.out e9 hX.lo)).rd (d25).rd rfl rfl).mono ?_
      rintro e w8 ⟨rfl, hE8⟩
      go_wp2_with fail
      exact hK _ _ X hE8 kept_m (hX.ext hE8) rfl
    · refine ⟨_, 86, rfl, by kernel_rfl, ?_⟩
      intro u w9 X hE hX hd K hK
      have d22 : u 81 = .bool true := hd 22 (by kernel_rfl)
      have d26 : u 85 = .bool true := hd 26 (by kernel_rfl)
      clear hd
      simp only [overlay, List.setIfInBounds_toArray, List.set, d22, d26] at hK ⊢
      go_wp2_with fail
      exact hK _ _ X (Ext.refl _) kept_m hX rfl
    · refine ⟨_, 87, rfl, by kernel_rfl, ?_⟩
      intro u w9 X hE hX hd K hK
      have d27 : u 86 = .bool true := hd 27 (by kernel_rfl)
      clear hd
      simp only [overlay, List.setIfInBounds_toArray, List.set, d27] at hK ⊢
      go_wp2_with fail
      exact hK _ _ X (Ext.refl _) kept_m hX rfl
    · refine ⟨_, 88, rfl, by kernel_rfl, ?_⟩
      intro u w9 X hE hX hd K hK
      have d28 : u 87 = .bool true := hd 28 (by kernel_rfl)
      clear hd
      simp only [overlay, List.setIfInBounds_toArray, List.set, d28] at hK ⊢
      go_wp2_with fail
      exact hK _ _ X (Ext.refl _) kept_m hX rfl
    · refine ⟨_, 89, rfl, by kernel_rfl, ?_⟩
      intro u w9 X hE hX hd K hK
      have d29 : u 88 = .int .i64 0 := hd 29 (by kernel_rfl)
      have d28 : u 87 = .bool true := hd 28 (by kernel_rfl)
      clear hd
      simp only [overlay, List.setIfInBounds_toArray, List.set, d29, d28] at hK ⊢
      go_wp2_with fail
      exact hK _ _ X (Ext.refl _) kept_m hX rfl
    · refine ⟨_, 90, rfl, by kernel_rfl, ?_⟩
      intro u w9 X hE hX hd K hK
      have d28 : u 87 = .bool true := hd 28 (by kernel_rfl)
      have d30 : u 89 = .bool true := hd 30 (by kernel_rfl)
      clear hd
      simp only [overlay, List.setIfInBounds_toArray, List.set, d28, d30] at hK ⊢
      go_wp2_with fail
      exact hK _ _ X (Ext.refl _) kept_m hX rfl
    · refine ⟨_, 91, rfl, by kernel_rfl, ?_⟩
      intro u w9 X hE hX hd K hK
      have d31 : u 90 = .bool true := hd 31 (by kernel_rfl)
      clear hd
      simp only [overlay, List.setIfInBounds_toArray, List.set, d31] at hK ⊢
      go_wp2_with fail
      exact hK _ _ X (Ext.refl _) kept_m hX rfl
    · refine ⟨_, 92, rfl, by kernel_rfl, ?_⟩
      intro u w9 X hE hX hd K hK
      have d32 : u 91 = .bool true := hd 32 (by kernel_rfl)
      clear hd
      simp only [overlay, List.setIfInBounds_toArray, List.set, d32] at hK ⊢
      have e9 : Ext wk34 w9 := (Ext.refl wk34).drew.trans hE
      obtain ⟨s0, s1, s2, s3⟩ := (HBd.out.ext e9).cell
      go_wp2_with fail
      exact hK _ _ X (Ext.refl _) kept_m hX rfl
    · refine ⟨_, 93, rfl, by kernel_rfl, ?_⟩
      intro u w9 X hE hX hd K hK
      have d32 : u 91 = .bool true := hd 32 (by kernel_rfl)
      clear hd
      simp only [overlay, List.setIfInBounds_toArray, List.set, d32] at hK ⊢
      go_wp2_with fail
      exact hK _ _ X ((Ext.refl _).alloc _) kept_m (hX.ext ((Ext.refl _).alloc _)) (rdix_lit w9 [98, 97, 110] (by decide) (by decide) hX.hi)
    · refine ⟨_, 94, rfl, by kernel_rfl, ?_⟩
      intro u w9 X hE hX hd K hK
      have d34 : RdIX X w9 [98, 97, 110] (u 93) := hd 34 (by kernel_rfl)
      have d32 : u 91 = .bool true := hd 32 (by kernel_rfl)
      clear hd
      simp only [overlay, List.setIfInBounds_toArray, List.set, d32] at hK ⊢
      have e9 : Ext wk34 w9 := (Ext.refl wk34).drew.trans hE
      go_wp2_with fail
      refine (stext_rd d34 hX.hi).mono ?_
      rintro e w8 ⟨x8, rfl, hx8, hE8⟩
      go_wp2_with fail
      exact hK _ _ X hE8 kept_m (hX.ext hE8) hx8
    · refine ⟨_, 95, rfl, by kernel_rfl, ?_⟩
      intro u w9 X hE hX hd K hK
      have d33 : u 92 = .agg #[(.int .i64 ky23), (.slice pay23 lay23 may23), (.slice pby23 lby23 mby23), (.slice pcy23 lcy23 mcy23)] := hd 33 (by kernel_rfl)
      have d35 : RdX X w9 (txtV [98, 97, 110]) (u 94) := hd 35 (by kernel_rfl)
      have d32 : u 91 = .bool true := hd 32 (by kernel_rfl)
      clear hd
      simp only [overlay, List.setIfInBounds_toArray, List.set, d33, d32] at hK ⊢
      have e9 : Ext wk34 w9 := (Ext.refl wk34).drew.trans hE
      go_wp2_with fail
      refine (same_true ((RdX.old HAd.out e9 hX.lo)).rd (d35).rd rfl rfl).mono ?_
      rintro e w8 ⟨rfl, hE8⟩
      go_wp2_with fail
      exact hK _ _ X hE8 kept_m (hX.ext hE8) rfl
    · refine ⟨_, 96, rfl, by kernel_rfl, ?_⟩
      intro u w9 X hE hX hd K hK
      have d32 : u 91 = .bool true := hd 32 (by kernel_rfl)
      have d36 : u 95 = .bool true := hd 36 (by kernel_rfl)
      clear hd
      simp only [overlay, List.setIfInBounds_toArray, List.set, d32, d36] at hK ⊢
      go_wp2_with fail
      exact hK _ _ X (Ext.refl _) kept_m hX rfl
    · refine ⟨_, 97, rfl, by kernel_rfl, ?_⟩
      intro u w9 X hE hX hd K hK
      have d37 : u 96 = .bool true := hd 37 (by kernel_rfl)
      clear hd
      simp only [overlay, List.setIfInBounds_toArray, List.set, d37] at hK ⊢
      go_wp2_with fail
      exact hK _ _ X (Ext.refl _) kept_m hX rfl
    · refine ⟨_, 98, rfl, by kernel_rfl, ?_⟩
      intro u w9 X hE hX hd K hK
      have d38 : u 97 = .bool true := hd 38 (by kernel_rfl)
      clear hd
      simp only [overlay, List.setIfInBounds_toArray, List.set, d38] at hK ⊢
      go_wp2_with fail
      exact hK _ _ X (Ext.refl _) kept_m hX rfl
    · refine ⟨_, 99, rfl, by kernel_rfl, ?_⟩
      intro u w9 X hE hX hd K hK
      have d39 : u 98 = .int .i64 0 := hd 39 (by kernel_rfl)
      have d38 : u 97 = .bool true := hd 38 (by kernel_rfl)
      clear hd
      simp only [overlay, List.setIfInBounds_toArray, List.set, d39, d38] at hK ⊢
      go_wp2_with fail
      exact hK _ _ X (Ext.refl _) kept_m hX rfl
    · refine ⟨_, 100, rfl, by kernel_rfl, ?_⟩
      intro u w9 X hE hX hd K hK
      have d38 : u 97 = .bool true := hd 38 (by kernel_rfl)
      have d40 : u 99 = .bool true := hd 40 (by kernel_rfl)
      clear hd
      simp only [overlay, List.setIfInBounds_toArray, List.set, d38, d40] at hK ⊢
      go_wp2_with fail
      exact hK _ _ X (Ext.refl _) kept_m hX rfl
    · refine ⟨_, 101, rfl, by kernel_rfl, ?_⟩
      intro u w9 X hE hX hd K hK
      have d41 : u 100 = .bool true := hd 41 (by kernel_rfl)
      clear hd
      simp only [overlay, List.setIfInBounds_toArray, List.set, d41] at hK ⊢
      go_wp2_with fail
      exact hK _ _ X (Ext.refl _) kept_m hX rfl
    · refine ⟨_, 102, rfl, by kernel_rfl, ?_⟩
      intro u w9 X hE hX hd K hK
      have d42 : u 101 = .bool true := hd 42 (by kernel_rfl)
      clear hd
      simp only [overlay, List.setIfInBounds_toArray, List.set, d42] at hK ⊢
      have e9 : Ext wk34 w9 := (Ext.refl wk34).drew.trans hE
      obtain ⟨s0, s1, s2, s3⟩ := (HBk.out.ext e9).cell
      go_wp2_with fail
      exact hK _ _ X (Ext.refl _) kept_m hX rfl
    · refine ⟨_, 103, rfl, by kernel_rfl, ?_⟩
      intro u w9 X hE hX hd K hK
      have d42 : u 101 = .bool true := hd 42 (by kernel_rfl)
      clear hd
      simp only [overlay, List.setIfInBounds_toArray, List.set, d42] at hK ⊢
      go_wp2_with fail
      exact hK _ _ X ((Ext.refl _).alloc _) kept_m (hX.ext ((Ext.refl _).alloc _)) (rdix_lit w9 [1, 1, 2] (by decide) (by decide) hX.hi)
    · refine ⟨_, 104, rfl, by kernel_rfl, ?_⟩
      intro u w9 X hE hX hd K hK
      have d44 : RdIX X w9 [1, 1, 2] (u 103) := hd 44 (by kernel_rfl)
      have d42 : u 101 = .bool true := hd 42 (by kernel_rfl)
      clear hd
      simp only [overlay, List.setIfInBounds_toArray, List.set, d42] at hK ⊢
      have e9 : Ext wk34 w9 := (Ext.refl wk34).drew.trans hE
      go_wp2_with fail
      refine (sints_rd d44 hX.hi).mono ?_
      rintro e w8 ⟨x8, rfl, hx8, hE8⟩
      go_wp2_with fail
      exact hK _ _ X hE8 kept_m (hX.ext hE8) hx8
    · refine ⟨_, 105, rfl, by kernel_rfl, ?_⟩
      intro u w9 X hE hX hd K hK
      have d43 : u 102 = .agg #[(.int .i64 ky29), (.slice pay29 lay29 may29), (.slice pby29 lby29 mby29), (.slice pcy29 lcy29 mcy29)] := hd 43 (by kernel_rfl)
      have d45 : RdX X w9 (vecV [1, 1, 2]) (u 104) := hd 45 (by kernel_rfl)
      have d42 : u 101 = .bool true := hd 42 (by kernel_rfl)
      clear hd
      simp only [overlay, List.setIfInBounds_toArray, List.set, d43, d42] at hK ⊢
      have e9 : Ext wk34 w9 := (Ext.refl wk34).drew.trans hE
      go_wp2_with fail
      refine (same_true ((RdX.old HAk.out e9 hX.lo)).rd (d45).rd rfl rfl).mono ?_
      rintro e w8 ⟨rfl, hE8⟩
      go_wp2_with fail
      exact hK _ _ X hE8 kept_m (hX.ext hE8) rfl
    · refine ⟨_, 106, rfl, by kernel_rfl, ?_⟩
      intro u w9 X hE hX hd K hK
      have d42 : u 101 = .bool true := hd 42 (by kernel_rfl)
      have d46 : u 105 = .bool true := hd 46 (by kernel_rfl)
      clear hd
      simp only [overlay, List.setIfInBounds_toArray, List.set, d42, d46] at hK ⊢
      go_wp2_with fail
      exact hK _ _ X (Ext.refl _) kept_m hX rfl
    · refine ⟨_, 107, rfl, by kernel_rfl, ?_⟩
      intro u w9 X hE hX hd K hK
      have d47 : u 106 = .bool true := hd 47 (by kernel_rfl)
      clear hd
      simp only [overlay, List.setIfInBounds_toArray, List.set, d47] at hK ⊢
      go_wp2_with fail
      exact hK _ _ X (Ext.refl _) kept_m hX rfl
    · refine ⟨_, 108, rfl, by kernel_rfl, ?_⟩
      intro u w9 X hE hX hd K hK
      have d48 : u 107 = .bool true := hd 48 (by kernel_rfl)
      clear hd
      simp only [overlay, List.setIfInBounds_toArray, List.set, d48] at hK ⊢
      go_wp2_with fail
      exact hK _ _ X (Ext.refl _) kept_m hX rfl
    · refine ⟨_, 109, rfl, by kernel_rfl, ?_⟩
      intro u w9 X hE hX hd K hK
      have d49 : u 108 = .int .i64 15 := hd 49 (by kernel_rfl)
      have d48 : u 107 = .bool true := hd 48 (by kernel_rfl)
      clear hd
      simp only [overlay, List.setIfInBounds_toArray, List.set, d49, d48] at hK ⊢
      go_wp2_with fail
      exact hK _ _ X (Ext.refl _) kept_m hX rfl
    · refine ⟨_, 110, rfl, by kernel_rfl, ?_⟩
      intro u w9 X hE hX hd K hK
      have d48 : u 107 = .bool true := hd 48 (by kernel_rfl)
      have d50 : u 109 = .bool true := hd 50 (by kernel_rfl)
      clear hd
      simp only [overlay, List.setIfInBounds_toArray, List.set, d48, d50] at hK ⊢
      go_wp2_with fail
      exact hK _ _ X (Ext.refl _) kept_m hX rfl
    · refine ⟨_, 0, rfl, by kernel_rfl, ?_⟩
      intro u w9 X hE hX hd K hK
      have d51 : u 110 = .bool true := hd 51 (by kernel_rfl)
      clear hd
      simp only [overlay, List.setIfInBounds_toArray, List.set, d51] at hK ⊢
      go_wp2_with fail
      exact hK _ _ X (Ext.refl _) kept_m hX rfl
  · exact mem_nil_m
  intro u w9 X hE hX hd
  have d0 : u 59 = .int .i64 0 := hd 0 (by decide)
  have d1 : u 60 = .bool true := hd 1 (by decide)
  have d2 : u 61 = .bool true := hd 2 (by decide)
  have d3 : u 62 = .agg #[(.int .i64 ky7), (.slice pay7 lay7 may7), (.slice pby7 lby7 mby7), (.slice pcy7 lcy7 mcy7)] := hd 3 (by decide)
  have d4 : RdIX X w9 [1, 3] (u 63) := hd 4 (by decide)
  have d5 : RdX X w9 (vecV [1, 3]) (u 64) := hd 5 (by decide)
  have d6 : u 65 = .bool true := hd 6 (by decide)
  have d7 : u 66 = .bool true := hd 7 (by decide)
  have d8 : u 67 = .bool true := hd 8 (by decide)
  have d9 : u 68 = .int .i64 0 := hd 9 (by decide)
  have d10 : u 69 = .bool true := hd 10 (by decide)
  have d11 : u 70 = .bool true := hd 11 (by decide)
  have d12 : u 71 = .bool true := hd 12 (by decide)
  have d13 : u 72 = .agg #[(.int .i64 kz9), (.slice paz9 laz9 maz9), (.slice pbz9 lbz9 mbz9), (.slice pcz9 lcz9 mcz9)] := hd 13 (by decide)
  have d14 : RdIX X w9 [1] (u 73) := hd 14 (by decide)
  have d15 : RdX X w9 (.mk 1 [] [1] []) (u 74) := hd 15 (by decide)
  have d16 : u 75 = .bool true := hd 16 (by decide)
  have d17 : u 76 = .bool true := hd 17 (by decide)
  have d18 : u 77 = .bool true := hd 18 (by decide)
  have d19 : u 78 = .int .i64 0 := hd 19 (by decide)
  have d20 : u 79 = .bool true := hd 20 (by decide)
  have d21 : u 80 = .bool true := hd 21 (by decide)
  have d22 : u 81 = .bool true := hd 22 (by decide)
  have d23 : u 82 = .agg #[(.int .i64 ky17), (.slice pay17 lay17 may17), (.slice pby17 lby17 mby17), (.slice pcy17 lcy17 mcy17)] := hd 23 (by decide)
  have d24 : RdIX X w9 [1] (u 83) := hd 24 (by decide)
  have d25 : RdX X w9 (vecV [1]) (u 84) := hd 25 (by decide)
  have d26 : u 85 = .bool true := hd 26 (by decide)
  have d27 : u 86 = .bool true := hd 27 (by decide)
  have d28 : u 87 = .bool true := hd 28 (by decide)
  have d29 : u 88 = .int .i64 0 := hd 29 (by decide)
  have d30 : u 89 = .bool true := hd 30 (by decide)
  have d31 : u 90 = .bool true := hd 31 (by decide)
  have d32 : u 91 = .bool true := hd 32 (by decide)
  have d33 : u 92 = .agg #[(.int .i64 ky23), (.slice pay23 lay23 may23), (.slice pby23 lby23 mby23), (.slice pcy23 lcy23 mcy23)] := hd 33 (by decide)
  have d34 : RdIX X w9 [98, 97, 110] (u 93) := hd 34 (by decide)
  have d35 : RdX X w9 (txtV [98, 97, 110]) (u 94) := hd 35 (by decide)
  have d36 : u 95 = .bool true := hd 36 (by decide)
  have d37 : u 96 = .bool true := hd 37 (by decide)
  have d38 : u 97 = .bool true := hd 38 (by decide)
  have d39 : u 98 = .int .i64 0 := hd 39 (by decide)
  have d40 : u 99 = .bool true := hd 40 (by decide)
  have d41 : u 100 = .bool true := hd 41 (by decide)
  have d42 : u 101 = .bool true := hd 42 (by decide)
  have d43 : u 102 = .agg #[(.int .i64 ky29), (.slice pay29 lay29 may29), (.slice pby29 lby29 mby29), (.slice pcy29 lcy29 mcy29)] := hd 43 (by decide)
  have d44 : RdIX X w9 [1, 1, 2] (u 103) := hd 44 (by decide)
  have d45 : RdX X w9 (vecV [1, 1, 2]) (u 104) := hd 45 (by decide)
  have d46 : u 105 = .bool true := hd 46 (by decide)
  have d47 : u 106 = .bool true := hd 47 (by decide)
  have d48 : u 107 = .bool true := hd 48 (by decide)
  have d49 : u 108 = .int .i64 15 := hd 49 (by decide)
  have d50 : u 109 = .bool true := hd 50 (by decide)
  have d51 : u 110 = .bool true := hd 51 (by decide)
  have d52 : u 0 = .bool true := hd 52 (by decide)
  clear hd
  simp only [overlay, List.setIfInBounds_toArray, List.set, d0, d1, d2, d3, d6, d7, d8, d9, d10, d11, d12, d13, d16, d17, d18, d19, d20, d21, d22, d23, d26, d27, d28, d29, d30, d31, d32, d33, d36, d37, d38, d39, d40, d41, d42, d43, d46, d47, d48, d49, d50, d51, d52]
  have e9 : Ext wk34 w9 := (Ext.refl wk34).drew.trans hE
  clear d0 d1 d2 d3 d4 d5 d6 d7 d8 d9 d10 d11 d12 d13 d14 d15 d16 d17 d18 d19 d20 d21 d22 d23 d24 d25 d26 d27 d28 d29 d30 d31 d32 d33 d34 d35 d36 d37 d38 d39 d40 d41 d42 d43 d44 d45 d46 d47 d48 d49 d50 d51 d52
  clear hX hE
  generalize u 63 = t63z35
  generalize u 64 = t64z35
  generalize u 73 = t73z35
  generalize u 74 = t74z35
  generalize u 83 = t83z35
  generalize u 84 = t84z35
  generalize u 93 = t93z35
  generalize u 94 = t94z35
  generalize u 103 = t103z35
  generalize u 104 = t104z35
  clear u
  obtain ⟨wk36, rfl⟩ : ∃ wx : World, wx = w9 := ⟨_, rfl⟩
  replace HBm := Lib.hid (HBm.out.ext e9)
  replace HAm := Lib.hid (HAm.out.ext e9)
  replace HBa := Lib.hid (HBa.out.ext e9)
  replace HAa := Lib.hid (HAa.out.ext e9)
  replace HBb := Lib.hid (HBb.out.ext e9)
  replace HAb := Lib.hid (HAb.out.ext e9)
  replace HBc := Lib.hid (HBc.out.ext e9)
  replace HAc := Lib.hid (HAc.out.ext e9)
  replace HBd := Lib.hid (HBd.out.ext e9)
  replace HAd := Lib.hid (HAd.out.ext e9)
  replace HBk := Lib.hid (HBk.out.ext e9)
  replace HAk := Lib.hid (HAk.out.ext e9)
  replace HBz := Lib.hid (HBz.out.ext e9)
  replace HAz := Lib.hid (HAz.out.ext e9)
  replace HE := Lib.hid (HE.out.trans (e9))
  clear e9
  go_wp2_with fail
  go_ret
  exact ⟨rfl, HE.out⟩
end Go.Proofs.Ytgkemmdghmklfaa
