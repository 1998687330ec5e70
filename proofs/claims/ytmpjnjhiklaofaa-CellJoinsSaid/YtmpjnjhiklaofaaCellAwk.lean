/-
  THE WALK of law04.awake: the chapter's examples; contracts over readings. (Printed by gen_cellawk.py.)
-/
import Derived.Test.YtmpjnjhiklaofaaCJoin
import Derived.Test.YtmpjnjhiklaofaaL04N
import Derived.Test.YtmpjnjhiklaofaaArrs
namespace Go.Proofs.Ytmpjnjhiklaofaa
set_option linter.unusedSimpArgs false
set_option linter.unusedVariables false
open Go.RowKit

/-- Some slice that reads as the list of arrays. -/
def RdArs (w : World) (l : List Arr) (v : Value) : Prop := ∃ (F : Nat → Prop) (p : Option Addr) (c : Nat), v = .slice p l.length c ∧ ItOk l.length c ∧ ItemsAt F w p 0 l
theorem RdArs.ext {w w' : World} {l : List Arr} {v : Value} (h : RdArs w l v) (e : Ext w w') : RdArs w' l v := by
  obtain ⟨F, p, c, h1, h2, h3⟩ := h
  exact ⟨F, p, c, h1, h2, h3.ext e⟩
theorem RdAll.ext {w w' : World} {l : List Int} {v : Value} (h : RdAll w l v) (e : Ext w w') : RdAll w' l v := by
  obtain ⟨p, c, h1, h2, h3⟩ := h
  exact ⟨p, c, h1, h2, h3.ext e⟩
theorem RdAA.ars {B : Nat} {w : World} {l : List Arr} {v : Value} (h : RdAA B w l v) : RdArs w l v := by
  obtain ⟨p, c, h1, h2, h3⟩ := h
  exact ⟨_, p, c, h1, h2, h3⟩
theorem RdIX.all {X : Nat → Prop} {w : World} {l : List Int} {v : Value} (h : RdIX X w l v) : RdAll w l v := by
  obtain ⟨p, c, h1, h2, h3⟩ := h
  exact ⟨p, c, h1, h2, h3.mono fun _ _ _ => ⟨trivial, rfl⟩⟩
def MProp.rall (l : List Int) : MProp := ⟨fun _ w v => RdAll w l v, fun _ _ _ _ _ e _ h => h.ext e⟩
def MProp.rars (l : List Arr) : MProp := ⟨fun _ w v => RdArs w l v, fun _ _ _ _ _ e _ h => h.ext e⟩
theorem mat_rd {X : Nat → Prop} {w : World} {l : List Int} {v : Value} {r q : Int} (h : RdIX X w l v) (hr : -9223372036854775808 ≤ r ∧ r ≤ 9223372036854775807) (hq : -9223372036854775808 ≤ q ∧ q ≤ 9223372036854775807) (hX : ∀ b, X b → b < w.heap.size) :
    Calls Try.prog 76 #[.int .i64 r, .int .i64 q, v] w fun e w' => ∃ x, e = .returned x ∧ RdX X w' (.mk 1 [r, q] l []) x ∧ Ext w w' := by
  obtain ⟨p, c, rfl, hk, hi⟩ := h
  refine (mat_any _ p c l r q w hi hk hr hq).mono ?_
  rintro e w' ⟨e0, e1, e2, e3, rfl, hA, hE⟩
  exact ⟨_, rfl, RdX.new hA (fun b hb _ => hb.imp id (fun h => h.2)) hX, hE⟩
theorem crank_is {w : World} {k r n : Int} (ex : rankV k r = n) (hk : -9223372036854775808 ≤ k ∧ k ≤ 9223372036854775807) (hr : -9223372036854775808 ≤ r ∧ r ≤ 9223372036854775807) : Calls Try.prog 39 #[.int .i64 k, .int .i64 r] w fun e w' => e = .returned (.int .i64 n) ∧ Ext w w' := by
  have h := crank_any k r w hk hr
  rw [ex] at h
  exact same_ext h
theorem frame_rd {w : World} {t : Arr} {v : Value} {k : Int} {l : List Int} (ex : frameV t k = l) (h : Rd w t v) (hk : -9223372036854775808 ≤ k ∧ k ≤ 9223372036854775807) : Calls Try.prog 42 #[v, .int .i64 k] w fun e w' => ∃ x, e = .returned x ∧ RdAll w' l x ∧ Ext w w' := by
  obtain ⟨F, c0, c1, c2, c3, rfl, hA⟩ := h
  rw [← ex]
  exact cframe_any F t _ _ _ _ k w hA hk
theorem cells_rd {w : World} {t : Arr} {v : Value} {k : Int} {l : List Arr} (ex : cellsV t k = l) (h : Rd w t v) (hk : -9223372036854775808 ≤ k ∧ k ≤ 9223372036854775807) : Calls Try.prog 45 #[v, .int .i64 k] w fun e w' => ∃ x, e = .returned x ∧ RdArs w' l x ∧ Ext w w' := by
  obtain ⟨F, c0, c1, c2, c3, rfl, hA⟩ := h
  rw [← ex]
  refine (ccells_any F t _ _ _ _ k w hA hk).mono ?_
  rintro e w' ⟨x, rfl, h, hE⟩
  exact ⟨x, rfl, h.ars, hE⟩
theorem ints_true {w : World} {l : List Int} {v1 v2 : Value} (h1 : RdAll w l v1) (h2 : RdAll w l v2) : Calls Try.prog 26 #[v1, v2] w fun e w' => e = .returned (.bool true) ∧ Ext w w' := by
  obtain ⟨p, c, rfl, ⟨_, _, k1⟩, i1⟩ := h1
  obtain ⟨q, d, rfl, ⟨_, _, k2⟩, i2⟩ := h2
  have h := ints_any _ _ p q c d l l w i1 i2 k1 k2
  rw [beq_self_eq_true] at h
  exact h
theorem arrays_true {w : World} {l : List Arr} {v1 v2 : Value} (h1 : RdArs w l v1) (h2 : RdArs w l v2) : Calls Try.prog 44 #[v1, v2] w fun e w' => e = .returned (.bool true) ∧ Ext w w' := by
  obtain ⟨F, p, c, rfl, ⟨_, _, k1⟩, i1⟩ := h1
  obtain ⟨G, q, d, rfl, ⟨_, _, k2⟩, i2⟩ := h2
  have h := arrays_any F G p q c d l l w i1 i2 k1 k2
  rw [(sameL_eq l l).2 rfl] at h
  exact h
theorem join_rd {X : Nat → Prop} {w : World} {f : List Int} {l : List Arr} {k t : Arr} {n : Int} {v1 v2 v3 : Value} (ex : joinV f l k = (t, n)) (h1 : RdAll w f v1) (h2 : RdArs w l v2) (h3 : Rd w k v3) (hX : ∀ b, X b → b < w.heap.size) :
    Calls Try.prog 47 #[v1, v2, v3] w fun e w' => ∃ x, e = .returned (.tuple #[x, .int .i64 n]) ∧ RdX X w' t x ∧ Ext w w' := by
  obtain ⟨p, c, rfl, k1, i1⟩ := h1
  obtain ⟨G, q, d, rfl, k2, i2⟩ := h2
  obtain ⟨F, c0, c1, c2, c3, rfl, hA⟩ := h3
  refine (cjoin_any _ G F f p c l q d k _ _ _ _ w i1 k1 i2 k2 hA).mono ?_
  rintro e w' ⟨e0, e1, e2, e3, rfl, hA, hE⟩
  rw [ex] at hA ⊢
  exact ⟨_, rfl, RdX.new hA (fun b hb _ => .inl hb) hX, hE⟩
theorem pad_rd {X : Nat → Prop} {w : World} {x t : Arr} {s : List Int} {n : Int} {v1 v2 : Value} (ex : padR x s = (t, n)) (hr : rightV x = 0) (hs : shapeRight s = true) (hl : x.sh.length ≤ s.length) (hf : FrOk (leadV x.sh s.length) s) (h1 : Rd w x v1) (h2 : RdAll w s v2) (hX : ∀ b, X b → b < w.heap.size) :
    Calls Try.prog 49 #[v1, v2] w fun e w' => ∃ y, e = .returned (.tuple #[y, .int .i64 n]) ∧ RdX X w' t y ∧ Ext w w' := by
  obtain ⟨p, c, rfl, k1, i1⟩ := h2
  obtain ⟨F, c0, c1, c2, c3, rfl, hA⟩ := h1
  obtain ⟨kx, sx, nx, ix⟩ := x
  refine (cpadr_any F _ kx sx nx ix _ _ _ _ s p c w hA i1 k1 hr hs hl hf).mono ?_
  rintro e w' ⟨e0, e1, e2, e3, rfl, hA, hE⟩
  rw [ex] at hA ⊢
  exact ⟨_, rfl, RdX.new hA (fun b hb _ => .inl hb) hX, hE⟩
theorem items2 {F G : Nat → Prop} {w : World} (T : TypeId) {t1 t2 : Arr} {a0 a1 a2 a3 b0 b1 b2 b3 : Value} (h1 : ArrAt F w t1 a0 a1 a2 a3) (h2 : ArrAt G w t2 b0 b1 b2 b3) :
    ItemsAt (fun _ => True) (w.alloc (.cells #[a0, a1, a2, a3, b0, b1, b2, b3] T)) (some ⟨w.heap.size, 0, none⟩) 0 [t1, t2] := by
  have hE : Ext w (w.alloc (.cells #[a0, a1, a2, a3, b0, b1, b2, b3] T)) := (Ext.refl _).alloc _
  have key : ∀ {K : Nat → Prop} {t : Arr} {x0 x1 x2 x3 : Value}, ArrAt K w t x0 x1 x2 x3 → ArrAt (fun _ => True) (w.alloc (.cells #[a0, a1, a2, a3, b0, b1, b2, b3] T)) t x0 x1 x2 x3 := fun h => ArrAt.mono (fun _ _ _ => ⟨trivial, rfl⟩) _ _ _ _ _ (h.ext hE)
  unfold ItemsAt
  refine ⟨⟨_, _, a0, a1, a2, a3, rfl, trivial, by simp, by simp, by simp, by simp, key h1⟩, ?_⟩
  unfold ItemsAt
  refine ⟨⟨_, _, b0, b1, b2, b3, rfl, trivial, by simp, by simp, by simp, by simp, key h2⟩, ?_⟩
  unfold ItemsAt
  trivial
def caM : Arr := .mk 1 [2, 3] [1, 2, 3, 4, 5, 6] []
def caA : Arr := .mk 1 [2, 3] [1, 2, 3, 4, 0, 0] []
def caB : Arr := .mk 1 [2, 3] [7, 8, 0, 0, 0, 0] []
theorem ca1 : joinV [2] [vecV [1, 2, 3], numV 4] (numV 0) = (caA, 0) := by rfl
theorem ca2 : padR (vecV [7, 8]) [2, 3] = (caB, 0) := by rfl
theorem ca3 : rightV (vecV [7, 8]) = 0 := by rfl
theorem ca4 : FrOk (leadV (vecV [7, 8]).sh [2, 3].length) [2, 3] := ⟨by rfl, fun j hj => by
  match j, hj with
  | 0, _ => decide
  | 1, _ => decide⟩
theorem ca5 : frameV caM 1 = [2] := by rfl
theorem ca6 : cellsV caM 1 = [vecV [1, 2, 3], vecV [4, 5, 6]] := by rfl

set_option maxRecDepth 1000000 in
set_option maxHeartbeats 8000000 in
theorem cellawake_any (w : World) : Calls Try.prog 41 #[] w fun e w' => e = .returned (.bool true) ∧ Ext w w' := by
  go_enter Try.func41, Try.ntmps41
  have HE := Lib.hid (Ext.refl w)
  go_wp2_with fail
  refine (mat_rd (rdix_lit0 w [1, 2, 3, 4, 5, 6] (by decide) (by decide)) (by decide) (by decide) (fun _ h => False.elim h)).mono ?_
  rintro e wf2 ⟨x1, rfl, hx1, hEx1⟩
  obtain ⟨c0, c1, c2, c3, rfl, hA9⟩ := hx1
  obtain ⟨ky3, pay3, lay3, may3, pby3, lby3, mby3, pcy3, lcy3, mcy3, rfl, rfl, rfl, rfl⟩ := hA9.form
  have hEn := ((((Ext.refl w).trans ((Ext.refl w).alloc (.cells #[.int .i64 1, .int .i64 2, .int .i64 3, .int .i64 4, .int .i64 5, .int .i64 6] 3))).trans hEx1)).alloc (.cells #[(.int .i64 ky3), (.slice pay3 lay3 may3), (.slice pby3 lby3 mby3), (.slice pcy3 lcy3 mcy3)] 26)
  have hBn := box_new wf2 (.int .i64 ky3) (.slice pay3 lay3 may3) (.slice pby3 lby3 mby3) (.slice pcy3 lcy3 mcy3)
  have hAn := hA9.ext ((Ext.refl _).alloc (.cells #[(.int .i64 ky3), (.slice pay3 lay3 may3), (.slice pby3 lby3 mby3), (.slice pcy3 lcy3 mcy3)] 26))
  clear hA9 hEx1
  have HF := Lib.hid (And.intro hEn (And.intro hBn hAn))
  clear hEn hBn hAn
  go_upto_region 2 with (fail)
  obtain ⟨hEn, hBn, hAn⟩ := HF.out
  clear HF
  generalize hbz : wf2.heap.size = by3 at *
  clear hbz
  generalize wf2.alloc (.cells #[(.int .i64 ky3), (.slice pay3 lay3 may3), (.slice pby3 lby3 mby3), (.slice pcy3 lcy3 mcy3)] 26) = wk4 at *
  replace HE := Lib.hid (HE.out.trans (hEn))
  have HBm := Lib.hid hBn
  have HAm := Lib.hid hAn
  clear hEn hBn hAn
  have hl3 := rdix_lit0 (wk4.alloc (.cells #[.int .i64 2] 3)) [1, 2, 3] (by decide) (by decide)
  rw [World.size_alloc] at hl3
  go_wp2_with fail
  refine (vec_rd (X := fun _ => False) hl3 (fun _ h => False.elim h)).mono ?_
  rintro e wa ⟨x1, rfl, h1, hE1⟩
  have e1 : Ext wk4 wa := (((Ext.refl wk4).alloc _).alloc _).trans hE1
  have hl2 := (rdix_lit0 wk4 [2] (by decide) (by decide)).mono (((Ext.refl (wk4.alloc (.cells #[.int .i64 2] 3))).alloc _).trans hE1) (X' := fun _ => False) (fun _ h => h.elim)
  go_wp2_with fail
  refine (num_rd (X := fun _ => False) (n := 4) (by decide) (fun _ h => False.elim h)).mono ?_
  rintro e wb ⟨x2, rfl, h2, hE2⟩
  replace h1 := h1.mono0 hE2
  replace hl2 := hl2.mono hE2 (X' := fun _ => False) (fun _ h => h.elim)
  replace e1 := e1.trans hE2
  obtain ⟨c0, c1, c2, c3, rfl, hA1⟩ := h1
  obtain ⟨ku1, pau1, lau1, mau1, pbu1, lbu1, mbu1, pcu1, lcu1, mcu1, rfl, rfl, rfl, rfl⟩ := hA1.form
  obtain ⟨c0, c1, c2, c3, rfl, hA2⟩ := h2
  obtain ⟨ku2, pau2, lau2, mau2, pbu2, lbu2, mbu2, pcu2, lcu2, mcu2, rfl, rfl, rfl, rfl⟩ := hA2.form
  have hIT := items2 26 hA1 hA2
  have hEi : Ext wb (wb.alloc (.cells #[(.int .i64 ku1), (.slice pau1 lau1 mau1), (.slice pbu1 lbu1 mbu1), (.slice pcu1 lcu1 mcu1), (.int .i64 ku2), (.slice pau2 lau2 mau2), (.slice pbu2 lbu2 mbu2), (.slice pcu2 lcu2 mcu2)] 26)) := (Ext.refl _).alloc _
  have HIT := Lib.hid hIT
  have HL2 := Lib.hid hl2
  have HE1 := Lib.hid e1
  have HEI := Lib.hid hEi
  clear hIT hl2 hl3 e1 hEi hA1 hA2 hE1 hE2
  go_wp2_with fail
  refine (num_rd (X := fun _ => False) (n := 0) (by decide) (fun _ h => False.elim h)).mono ?_
  rintro e wc ⟨x3, rfl, h3, hE3⟩
  have hEI2 := HEI.out.trans hE3
  have hars : RdArs wc [vecV [1, 2, 3], numV 4] (.slice (some ⟨wb.heap.size, 0, none⟩) 2 2) := ⟨_, _, _, rfl, ⟨by simp, by simp, by simp⟩, HIT.out.ext hE3⟩
  have hl2 := HL2.out.mono hEI2 (X' := fun _ => False) (fun _ h => h.elim)
  have e1 := HE1.out.trans hEI2
  have HARS := Lib.hid hars
  replace HL2 := Lib.hid hl2
  replace HE1 := Lib.hid e1
  clear hars hl2 e1 hE3 HIT HEI hEI2
  go_wp2_with fail
  refine (join_rd (X := fun _ => False) ca1 HL2.out.all HARS.out h3.rd (fun _ h => False.elim h)).mono ?_
  rintro e wd ⟨x4, rfl, h4, hE4⟩
  have hEx := HE1.out.trans hE4
  clear HARS HL2 HE1 hE4 h3
  obtain ⟨c0, c1, c2, c3, rfl, hA9⟩ := h4
  obtain ⟨ky5, pay5, lay5, may5, pby5, lby5, mby5, pcy5, lcy5, mcy5, rfl, rfl, rfl, rfl⟩ := hA9.form
  have hEn := (hEx).alloc (.cells #[(.int .i64 ky5), (.slice pay5 lay5 may5), (.slice pby5 lby5 mby5), (.slice pcy5 lcy5 mcy5)] 26)
  have hBn := box_new wd (.int .i64 ky5) (.slice pay5 lay5 may5) (.slice pby5 lby5 mby5) (.slice pcy5 lcy5 mcy5)
  have hAn := hA9.ext ((Ext.refl _).alloc (.cells #[(.int .i64 ky5), (.slice pay5 lay5 may5), (.slice pby5 lby5 mby5), (.slice pcy5 lcy5 mcy5)] 26))
  clear hA9 
  have HF := Lib.hid (And.intro hEn (And.intro hBn hAn))
  clear hEn hBn hAn
  go_upto_region 3 with (fail)
  obtain ⟨hEn, hBn, hAn⟩ := HF.out
  clear HF
  generalize hbz : wd.heap.size = by5 at *
  clear hbz
  generalize wd.alloc (.cells #[(.int .i64 ky5), (.slice pay5 lay5 may5), (.slice pby5 lby5 mby5), (.slice pcy5 lcy5 mcy5)] 26) = wk6 at *
  replace HBm := Lib.hid (HBm.out.ext hEn)
  replace HAm := Lib.hid (HAm.out.ext hEn)
  replace HE := Lib.hid (HE.out.trans (hEn))
  have HBa := Lib.hid hBn
  have HAa := Lib.hid hAn
  clear hEn hBn hAn
  go_wp2_with fail
  refine (vec_rd (rdix_lit0 wk6 [7, 8] (by decide) (by decide)) (fun _ h => False.elim h)).mono ?_
  rintro e wf8 ⟨x7, rfl, hx7, hEx7⟩
  replace hEx7 := ((Ext.refl wk6).alloc (.cells #[.int .i64 7, .int .i64 8] 3)).trans hEx7
  replace hx7 := hx7.mono0 ((Ext.refl wf8).alloc (.cells #[.int .i64 2, .int .i64 3] 3))
  go_wp2_with fail
  refine (pad_rd ca2 ca3 rfl (by decide) ca4 hx7.rd (rdix_lit0 wf8 [2, 3] (by decide) (by decide)).all (fun _ h => False.elim h)).mono ?_
  rintro e wf10 ⟨x9, rfl, hx9, hEx9⟩
  obtain ⟨c0, c1, c2, c3, rfl, hA9⟩ := hx9
  obtain ⟨ky11, pay11, lay11, may11, pby11, lby11, mby11, pcy11, lcy11, mcy11, rfl, rfl, rfl, rfl⟩ := hA9.form
  have hEn := (((((Ext.refl wk6).trans hEx7).trans ((Ext.refl wf8).alloc (.cells #[.int .i64 2, .int .i64 3] 3))).trans hEx9)).alloc (.cells #[(.int .i64 ky11), (.slice pay11 lay11 may11), (.slice pby11 lby11 mby11), (.slice pcy11 lcy11 mcy11)] 26)
  have hBn := box_new wf10 (.int .i64 ky11) (.slice pay11 lay11 may11) (.slice pby11 lby11 mby11) (.slice pcy11 lcy11 mcy11)
  have hAn := hA9.ext ((Ext.refl _).alloc (.cells #[(.int .i64 ky11), (.slice pay11 lay11 may11), (.slice pby11 lby11 mby11), (.slice pcy11 lcy11 mcy11)] 26))
  clear hA9 hEx9 hEx7 hx7
  have HF := Lib.hid (And.intro hEn (And.intro hBn hAn))
  clear hEn hBn hAn
  go_upto_region 4 with (fail)
  obtain ⟨hEn, hBn, hAn⟩ := HF.out
  clear HF
  generalize hbz : wf10.heap.size = by11 at *
  clear hbz
  generalize wf10.alloc (.cells #[(.int .i64 ky11), (.slice pay11 lay11 may11), (.slice pby11 lby11 mby11), (.slice pcy11 lcy11 mcy11)] 26) = wk12 at *
  replace HBm := Lib.hid (HBm.out.ext hEn)
  replace HAm := Lib.hid (HAm.out.ext hEn)
  replace HBa := Lib.hid (HBa.out.ext hEn)
  replace HAa := Lib.hid (HAa.out.ext hEn)
  replace HE := Lib.hid (HE.out.trans (hEn))
  have HBb := Lib.hid hBn
  have HAb := Lib.hid hAn
  clear hEn hBn hAn
  refine wp_region_x1 (MProp.is (.int .i64 1) :: MProp.is (.bool true) :: MProp.is (.bool true) :: MProp.is (.agg #[(.int .i64 ky3), (.slice pay3 lay3 may3), (.slice pby3 lby3 mby3), (.slice pcy3 lcy3 mcy3)]) :: MProp.rall [2] :: MProp.rdi [2] :: MProp.is (.bool true) :: MProp.is (.bool true) :: MProp.is (.bool true) :: MProp.is (.agg #[(.int .i64 ky3), (.slice pay3 lay3 may3), (.slice pby3 lby3 mby3), (.slice pcy3 lcy3 mcy3)]) :: MProp.rars [vecV [1, 2, 3], vecV [4, 5, 6]] :: MProp.rdi [1, 2, 3] :: MProp.rd (vecV [1, 2, 3]) :: MProp.rdi [4, 5, 6] :: MProp.rd (vecV [4, 5, 6]) :: MProp.rars [vecV [1, 2, 3], vecV [4, 5, 6]] :: MProp.is (.bool true) :: MProp.is (.bool true) :: MProp.is (.bool true) :: MProp.is (.int .i64 0) :: MProp.is (.bool true) :: MProp.is (.bool true) :: MProp.is (.bool true) :: MProp.is (.int .i64 0) :: MProp.is (.bool true) :: MProp.is (.bool true) :: MProp.is (.bool true) :: MProp.is (.agg #[(.int .i64 ky5), (.slice pay5 lay5 may5), (.slice pby5 lby5 mby5), (.slice pcy5 lcy5 mcy5)]) :: MProp.rdi [1, 2, 3, 4, 0, 0] :: MProp.rd (caA) :: MProp.is (.bool true) :: MProp.is (.bool true) :: MProp.is (.bool true) :: MProp.is (.agg #[(.int .i64 ky11), (.slice pay11 lay11 may11), (.slice pby11 lby11 mby11), (.slice pcy11 lcy11 mcy11)]) :: MProp.rdi [7, 8, 0, 0, 0, 0] :: MProp.rd (caB) :: MProp.is (.bool true) :: MProp.is (.bool true) :: []) (0 :: 1 :: 2 :: 3 :: 4 :: 5 :: 6 :: 7 :: 8 :: 9 :: 10 :: 11 :: 12 :: 13 :: 14 :: 15 :: 16 :: 17 :: 18 :: 19 :: 20 :: 21 :: 22 :: 23 :: 24 :: 25 :: 26 :: 27 :: 28 :: 29 :: 30 :: 31 :: 32 :: 33 :: 34 :: 35 :: 36 :: 37 :: []) [] (25 :: 26 :: 27 :: 28 :: 29 :: 30 :: 31 :: 32 :: 33 :: 34 :: 35 :: 36 :: 37 :: 38 :: 39 :: 40 :: 41 :: 42 :: 43 :: 44 :: 45 :: 46 :: 47 :: 48 :: 49 :: 50 :: 51 :: 52 :: 53 :: 54 :: 55 :: 56 :: 57 :: 58 :: 59 :: 60 :: 61 :: 62 :: []) 38 (by kernel_rfl) (by kernel_rfl) (by kernel_rfl) rfl ?_ ?_ ?_
  · refine mem_cons_m ?_ (mem_cons_m ?_ (mem_cons_m ?_ (mem_cons_m ?_ (mem_cons_m ?_ (mem_cons_m ?_ (mem_cons_m ?_ (mem_cons_m ?_ (mem_cons_m ?_ (mem_cons_m ?_ (mem_cons_m ?_ (mem_cons_m ?_ (mem_cons_m ?_ (mem_cons_m ?_ (mem_cons_m ?_ (mem_cons_m ?_ (mem_cons_m ?_ (mem_cons_m ?_ (mem_cons_m ?_ (mem_cons_m ?_ (mem_cons_m ?_ (mem_cons_m ?_ (mem_cons_m ?_ (mem_cons_m ?_ (mem_cons_m ?_ (mem_cons_m ?_ (mem_cons_m ?_ (mem_cons_m ?_ (mem_cons_m ?_ (mem_cons_m ?_ (mem_cons_m ?_ (mem_cons_m ?_ (mem_cons_m ?_ (mem_cons_m ?_ (mem_cons_m ?_ (mem_cons_m ?_ (mem_cons_m ?_ (mem_cons_m ?_ (mem_nil_m))))))))))))))))))))))))))))))))))))))
    · refine ⟨_, 25, rfl, by kernel_rfl, ?_⟩
      intro u w9 X hE hX hd K hK
      clear hd
      simp only [overlay, List.setIfInBounds_toArray, List.set] at hK ⊢
      have e9 : Ext wk12 w9 := (Ext.refl wk12).drew.trans hE
      go_wp2_with fail
      refine (crank_is (by rfl) (by decide) (by decide)).mono ?_
      rintro e w8 ⟨rfl, hE8⟩
      go_wp2_with fail
      exact hK _ _ X hE8 kept_m (hX.ext hE8) rfl
    · refine ⟨_, 26, rfl, by kernel_rfl, ?_⟩
      intro u w9 X hE hX hd K hK
      have d0 : u 25 = .int .i64 1 := hd 0 (by kernel_rfl)
      clear hd
      simp only [overlay, List.setIfInBounds_toArray, List.set, d0] at hK ⊢
      go_wp2_with fail
      exact hK _ _ X (Ext.refl _) kept_m hX rfl
    · refine ⟨_, 27, rfl, by kernel_rfl, ?_⟩
      intro u w9 X hE hX hd K hK
      have d1 : u 26 = .bool true := hd 1 (by kernel_rfl)
      clear hd
      simp only [overlay, List.setIfInBounds_toArray, List.set, d1] at hK ⊢
      go_wp2_with fail
      exact hK _ _ X (Ext.refl _) kept_m hX rfl
    · refine ⟨_, 28, rfl, by kernel_rfl, ?_⟩
      intro u w9 X hE hX hd K hK
      have d2 : u 27 = .bool true := hd 2 (by kernel_rfl)
      clear hd
      simp only [overlay, List.setIfInBounds_toArray, List.set, d2] at hK ⊢
      have e9 : Ext wk12 w9 := (Ext.refl wk12).drew.trans hE
      obtain ⟨s0, s1, s2, s3⟩ := (HBm.out.ext e9).cell
      go_wp2_with fail
      exact hK _ _ X (Ext.refl _) kept_m hX rfl
    · refine ⟨_, 29, rfl, by kernel_rfl, ?_⟩
      intro u w9 X hE hX hd K hK
      have d3 : u 28 = .agg #[(.int .i64 ky3), (.slice pay3 lay3 may3), (.slice pby3 lby3 mby3), (.slice pcy3 lcy3 mcy3)] := hd 3 (by kernel_rfl)
      have d2 : u 27 = .bool true := hd 2 (by kernel_rfl)
      clear hd
      simp only [overlay, List.setIfInBounds_toArray, List.set, d3, d2] at hK ⊢
      have e9 : Ext wk12 w9 := (Ext.refl wk12).drew.trans hE
      go_wp2_with fail
      refine (frame_rd ca5 (Rd.mk HAm.out |>.ext e9) (by decide)).mono ?_
      rintro e w8 ⟨x8, rfl, hx8, hE8⟩
      go_wp2_with fail
      exact hK _ _ X hE8 kept_m (hX.ext hE8) hx8
    · refine ⟨_, 30, rfl, by kernel_rfl, ?_⟩
      intro u w9 X hE hX hd K hK
      have d2 : u 27 = .bool true := hd 2 (by kernel_rfl)
      clear hd
      simp only [overlay, List.setIfInBounds_toArray, List.set, d2] at hK ⊢
      go_wp2_with fail
      exact hK _ _ X ((Ext.refl _).alloc _) kept_m (hX.ext ((Ext.refl _).alloc _)) (rdix_lit w9 [2] (by decide) (by decide) hX.hi)
    · refine ⟨_, 31, rfl, by kernel_rfl, ?_⟩
      intro u w9 X hE hX hd K hK
      have d4 : RdAll w9 [2] (u 29) := hd 4 (by kernel_rfl)
      have d5 : RdIX X w9 [2] (u 30) := hd 5 (by kernel_rfl)
      have d2 : u 27 = .bool true := hd 2 (by kernel_rfl)
      clear hd
      simp only [overlay, List.setIfInBounds_toArray, List.set, d2] at hK ⊢
      have e9 : Ext wk12 w9 := (Ext.refl wk12).drew.trans hE
      go_wp2_with fail
      refine (ints_true d4 d5.all).mono ?_
      rintro e w8 ⟨rfl, hE8⟩
      go_wp2_with fail
      exact hK _ _ X hE8 kept_m (hX.ext hE8) rfl
    · refine ⟨_, 32, rfl, by kernel_rfl, ?_⟩
      intro u w9 X hE hX hd K hK
      have d2 : u 27 = .bool true := hd 2 (by kernel_rfl)
      have d6 : u 31 = .bool true := hd 6 (by kernel_rfl)
      clear hd
      simp only [overlay, List.setIfInBounds_toArray, List.set, d2, d6] at hK ⊢
      go_wp2_with fail
      exact hK _ _ X (Ext.refl _) kept_m hX rfl
    · refine ⟨_, 33, rfl, by kernel_rfl, ?_⟩
      intro u w9 X hE hX hd K hK
      have d7 : u 32 = .bool true := hd 7 (by kernel_rfl)
      clear hd
      simp only [overlay, List.setIfInBounds_toArray, List.set, d7] at hK ⊢
      go_wp2_with fail
      exact hK _ _ X (Ext.refl _) kept_m hX rfl
    · refine ⟨_, 34, rfl, by kernel_rfl, ?_⟩
      intro u w9 X hE hX hd K hK
      have d8 : u 33 = .bool true := hd 8 (by kernel_rfl)
      clear hd
      simp only [overlay, List.setIfInBounds_toArray, List.set, d8] at hK ⊢
      have e9 : Ext wk12 w9 := (Ext.refl wk12).drew.trans hE
      obtain ⟨s0, s1, s2, s3⟩ := (HBm.out.ext e9).cell
      go_wp2_with fail
      exact hK _ _ X (Ext.refl _) kept_m hX rfl
    · refine ⟨_, 35, rfl, by kernel_rfl, ?_⟩
      intro u w9 X hE hX hd K hK
      have d9 : u 34 = .agg #[(.int .i64 ky3), (.slice pay3 lay3 may3), (.slice pby3 lby3 mby3), (.slice pcy3 lcy3 mcy3)] := hd 9 (by kernel_rfl)
      have d8 : u 33 = .bool true := hd 8 (by kernel_rfl)
      clear hd
      simp only [overlay, List.setIfInBounds_toArray, List.set, d9, d8] at hK ⊢
      have e9 : Ext wk12 w9 := (Ext.refl wk12).drew.trans hE
      go_wp2_with fail
      refine (cells_rd ca6 (Rd.mk HAm.out |>.ext e9) (by decide)).mono ?_
      rintro e w8 ⟨x8, rfl, hx8, hE8⟩
      go_wp2_with fail
      exact hK _ _ X hE8 kept_m (hX.ext hE8) hx8
    · refine ⟨_, 36, rfl, by kernel_rfl, ?_⟩
      intro u w9 X hE hX hd K hK
      have d8 : u 33 = .bool true := hd 8 (by kernel_rfl)
      clear hd
      simp only [overlay, List.setIfInBounds_toArray, List.set, d8] at hK ⊢
      go_wp2_with fail
      exact hK _ _ X ((Ext.refl _).alloc _) kept_m (hX.ext ((Ext.refl _).alloc _)) (rdix_lit w9 [1, 2, 3] (by decide) (by decide) hX.hi)
    · refine ⟨_, 37, rfl, by kernel_rfl, ?_⟩
      intro u w9 X hE hX hd K hK
      have d11 : RdIX X w9 [1, 2, 3] (u 36) := hd 11 (by kernel_rfl)
      have d8 : u 33 = .bool true := hd 8 (by kernel_rfl)
      clear hd
      simp only [overlay, List.setIfInBounds_toArray, List.set, d8] at hK ⊢
      have e9 : Ext wk12 w9 := (Ext.refl wk12).drew.trans hE
      go_wp2_with fail
      refine (vec_rd d11 hX.hi).mono ?_
      rintro e w8 ⟨x8, rfl, hx8, hE8⟩
      go_wp2_with fail
      exact hK _ _ X hE8 kept_m (hX.ext hE8) hx8
    · refine ⟨_, 38, rfl, by kernel_rfl, ?_⟩
      intro u w9 X hE hX hd K hK
      have d8 : u 33 = .bool true := hd 8 (by kernel_rfl)
      clear hd
      simp only [overlay, List.setIfInBounds_toArray, List.set, d8] at hK ⊢
      go_wp2_with fail
      exact hK _ _ X ((Ext.refl _).alloc _) kept_m (hX.ext ((Ext.refl _).alloc _)) (rdix_lit w9 [4, 5, 6] (by decide) (by decide) hX.hi)
    · refine ⟨_, 39, rfl, by kernel_rfl, ?_⟩
      intro u w9 X hE hX hd K hK
      have d13 : RdIX X w9 [4, 5, 6] (u 38) := hd 13 (by kernel_rfl)
      have d8 : u 33 = .bool true := hd 8 (by kernel_rfl)
      clear hd
      simp only [overlay, List.setIfInBounds_toArray, List.set, d8] at hK ⊢
      have e9 : Ext wk12 w9 := (Ext.refl wk12).drew.trans hE
      go_wp2_with fail
      refine (vec_rd d13 hX.hi).mono ?_
      rintro e w8 ⟨x8, rfl, hx8, hE8⟩
      go_wp2_with fail
      exact hK _ _ X hE8 kept_m (hX.ext hE8) hx8
    · refine ⟨_, 40, rfl, by kernel_rfl, ?_⟩
      intro u w9 X hE hX hd K hK
      have d12 : RdX X w9 (vecV [1, 2, 3]) (u 37) := hd 12 (by kernel_rfl)
      have d14 : RdX X w9 (vecV [4, 5, 6]) (u 39) := hd 14 (by kernel_rfl)
      have d8 : u 33 = .bool true := hd 8 (by kernel_rfl)
      clear hd
      simp only [overlay, List.setIfInBounds_toArray, List.set, d8] at hK ⊢
      obtain ⟨e0, e1, e2, e3, hv12, hA12⟩ := d12
      obtain ⟨g0, g1, g2, g3, hv14, hA14⟩ := d14
      simp only [hv12, hv14] at hK ⊢
      obtain ⟨k1, p1, l1, m1, p2, l2, m2, p3, l3, m3, rfl, rfl, rfl, rfl⟩ := hA12.form
      obtain ⟨k2, p4, l4, m4, p5, l5, m5, p6, l6, m6, rfl, rfl, rfl, rfl⟩ := hA14.form
      have hIT := items2 26 hA12 hA14
      go_wp2_with fail
      exact hK _ _ X ((Ext.refl _).alloc _) kept_m (hX.ext ((Ext.refl _).alloc _)) ⟨_, _, _, rfl, ⟨by simp, by simp, by simp⟩, hIT⟩
    · refine ⟨_, 41, rfl, by kernel_rfl, ?_⟩
      intro u w9 X hE hX hd K hK
      have d10 : RdArs w9 [vecV [1, 2, 3], vecV [4, 5, 6]] (u 35) := hd 10 (by kernel_rfl)
      have d15 : RdArs w9 [vecV [1, 2, 3], vecV [4, 5, 6]] (u 40) := hd 15 (by kernel_rfl)
      have d8 : u 33 = .bool true := hd 8 (by kernel_rfl)
      clear hd
      simp only [overlay, List.setIfInBounds_toArray, List.set, d8] at hK ⊢
      have e9 : Ext wk12 w9 := (Ext.refl wk12).drew.trans hE
      go_wp2_with fail
      refine (arrays_true d10 d15).mono ?_
      rintro e w8 ⟨rfl, hE8⟩
      go_wp2_with fail
      exact hK _ _ X hE8 kept_m (hX.ext hE8) rfl
    · refine ⟨_, 42, rfl, by kernel_rfl, ?_⟩
      intro u w9 X hE hX hd K hK
      have d8 : u 33 = .bool true := hd 8 (by kernel_rfl)
      have d16 : u 41 = .bool true := hd 16 (by kernel_rfl)
      clear hd
      simp only [overlay, List.setIfInBounds_toArray, List.set, d8, d16] at hK ⊢
      go_wp2_with fail
      exact hK _ _ X (Ext.refl _) kept_m hX rfl
    · refine ⟨_, 43, rfl, by kernel_rfl, ?_⟩
      intro u w9 X hE hX hd K hK
      have d17 : u 42 = .bool true := hd 17 (by kernel_rfl)
      clear hd
      simp only [overlay, List.setIfInBounds_toArray, List.set, d17] at hK ⊢
      go_wp2_with fail
      exact hK _ _ X (Ext.refl _) kept_m hX rfl
    · refine ⟨_, 44, rfl, by kernel_rfl, ?_⟩
      intro u w9 X hE hX hd K hK
      have d18 : u 43 = .bool true := hd 18 (by kernel_rfl)
      clear hd
      simp only [overlay, List.setIfInBounds_toArray, List.set, d18] at hK ⊢
      go_wp2_with fail
      exact hK _ _ X (Ext.refl _) kept_m hX rfl
    · refine ⟨_, 45, rfl, by kernel_rfl, ?_⟩
      intro u w9 X hE hX hd K hK
      have d19 : u 44 = .int .i64 0 := hd 19 (by kernel_rfl)
      have d18 : u 43 = .bool true := hd 18 (by kernel_rfl)
      clear hd
      simp only [overlay, List.setIfInBounds_toArray, List.set, d19, d18] at hK ⊢
      go_wp2_with fail
      exact hK _ _ X (Ext.refl _) kept_m hX rfl
    · refine ⟨_, 46, rfl, by kernel_rfl, ?_⟩
      intro u w9 X hE hX hd K hK
      have d18 : u 43 = .bool true := hd 18 (by kernel_rfl)
      have d20 : u 45 = .bool true := hd 20 (by kernel_rfl)
      clear hd
      simp only [overlay, List.setIfInBounds_toArray, List.set, d18, d20] at hK ⊢
      go_wp2_with fail
      exact hK _ _ X (Ext.refl _) kept_m hX rfl
    · refine ⟨_, 47, rfl, by kernel_rfl, ?_⟩
      intro u w9 X hE hX hd K hK
      have d21 : u 46 = .bool true := hd 21 (by kernel_rfl)
      clear hd
      simp only [overlay, List.setIfInBounds_toArray, List.set, d21] at hK ⊢
      go_wp2_with fail
      exact hK _ _ X (Ext.refl _) kept_m hX rfl
    · refine ⟨_, 48, rfl, by kernel_rfl, ?_⟩
      intro u w9 X hE hX hd K hK
      have d22 : u 47 = .bool true := hd 22 (by kernel_rfl)
      clear hd
      simp only [overlay, List.setIfInBounds_toArray, List.set, d22] at hK ⊢
      go_wp2_with fail
      exact hK _ _ X (Ext.refl _) kept_m hX rfl
    · refine ⟨_, 49, rfl, by kernel_rfl, ?_⟩
      intro u w9 X hE hX hd K hK
      have d23 : u 48 = .int .i64 0 := hd 23 (by kernel_rfl)
      have d22 : u 47 = .bool true := hd 22 (by kernel_rfl)
      clear hd
      simp only [overlay, List.setIfInBounds_toArray, List.set, d23, d22] at hK ⊢
      go_wp2_with fail
      exact hK _ _ X (Ext.refl _) kept_m hX rfl
    · refine ⟨_, 50, rfl, by kernel_rfl, ?_⟩
      intro u w9 X hE hX hd K hK
      have d22 : u 47 = .bool true := hd 22 (by kernel_rfl)
      have d24 : u 49 = .bool true := hd 24 (by kernel_rfl)
      clear hd
      simp only [overlay, List.setIfInBounds_toArray, List.set, d22, d24] at hK ⊢
      go_wp2_with fail
      exact hK _ _ X (Ext.refl _) kept_m hX rfl
    · refine ⟨_, 51, rfl, by kernel_rfl, ?_⟩
      intro u w9 X hE hX hd K hK
      have d25 : u 50 = .bool true := hd 25 (by kernel_rfl)
      clear hd
      simp only [overlay, List.setIfInBounds_toArray, List.set, d25] at hK ⊢
      go_wp2_with fail
      exact hK _ _ X (Ext.refl _) kept_m hX rfl
    · refine ⟨_, 52, rfl, by kernel_rfl, ?_⟩
      intro u w9 X hE hX hd K hK
      have d26 : u 51 = .bool true := hd 26 (by kernel_rfl)
      clear hd
      simp only [overlay, List.setIfInBounds_toArray, List.set, d26] at hK ⊢
      have e9 : Ext wk12 w9 := (Ext.refl wk12).drew.trans hE
      obtain ⟨s0, s1, s2, s3⟩ := (HBa.out.ext e9).cell
      go_wp2_with fail
      exact hK _ _ X (Ext.refl _) kept_m hX rfl
    · refine ⟨_, 53, rfl, by kernel_rfl, ?_⟩
      intro u w9 X hE hX hd K hK
      have d26 : u 51 = .bool true := hd 26 (by kernel_rfl)
      clear hd
      simp only [overlay, List.setIfInBounds_toArray, List.set, d26] at hK ⊢
      go_wp2_with fail
      exact hK _ _ X ((Ext.refl _).alloc _) kept_m (hX.ext ((Ext.refl _).alloc _)) (rdix_lit w9 [1, 2, 3, 4, 0, 0] (by decide) (by decide) hX.hi)
    · refine ⟨_, 54, rfl, by kernel_rfl, ?_⟩
      intro u w9 X hE hX hd K hK
      have d28 : RdIX X w9 [1, 2, 3, 4, 0, 0] (u 53) := hd 28 (by kernel_rfl)
      have d26 : u 51 = .bool true := hd 26 (by kernel_rfl)
      clear hd
      simp only [overlay, List.setIfInBounds_toArray, List.set, d26] at hK ⊢
      have e9 : Ext wk12 w9 := (Ext.refl wk12).drew.trans hE
      go_wp2_with fail
      refine (mat_rd d28 (by decide) (by decide) hX.hi).mono ?_
      rintro e w8 ⟨x8, rfl, hx8, hE8⟩
      go_wp2_with fail
      exact hK _ _ X hE8 kept_m (hX.ext hE8) hx8
    · refine ⟨_, 55, rfl, by kernel_rfl, ?_⟩
      intro u w9 X hE hX hd K hK
      have d27 : u 52 = .agg #[(.int .i64 ky5), (.slice pay5 lay5 may5), (.slice pby5 lby5 mby5), (.slice pcy5 lcy5 mcy5)] := hd 27 (by kernel_rfl)
      have d29 : RdX X w9 (caA) (u 54) := hd 29 (by kernel_rfl)
      have d26 : u 51 = .bool true := hd 26 (by kernel_rfl)
      clear hd
      simp only [overlay, List.setIfInBounds_toArray, List.set, d27, d26] at hK ⊢
      have e9 : Ext wk12 w9 := (Ext.refl wk12).drew.trans hE
      go_wp2_with fail
      refine (same_true ((RdX.old HAa.out e9 hX.lo)).rd (d29).rd rfl rfl).mono ?_
      rintro e w8 ⟨rfl, hE8⟩
      go_wp2_with fail
      exact hK _ _ X hE8 kept_m (hX.ext hE8) rfl
    · refine ⟨_, 56, rfl, by kernel_rfl, ?_⟩
      intro u w9 X hE hX hd K hK
      have d26 : u 51 = .bool true := hd 26 (by kernel_rfl)
      have d30 : u 55 = .bool true := hd 30 (by kernel_rfl)
      clear hd
      simp only [overlay, List.setIfInBounds_toArray, List.set, d26, d30] at hK ⊢
      go_wp2_with fail
      exact hK _ _ X (Ext.refl _) kept_m hX rfl
    · refine ⟨_, 57, rfl, by kernel_rfl, ?_⟩
      intro u w9 X hE hX hd K hK
      have d31 : u 56 = .bool true := hd 31 (by kernel_rfl)
      clear hd
      simp only [overlay, List.setIfInBounds_toArray, List.set, d31] at hK ⊢
      go_wp2_with fail
      exact hK _ _ X (Ext.refl _) kept_m hX rfl
    · refine ⟨_, 58, rfl, by kernel_rfl, ?_⟩
      intro u w9 X hE hX hd K hK
      have d32 : u 57 = .bool true := hd 32 (by kernel_rfl)
      clear hd
      simp only [overlay, List.setIfInBounds_toArray, List.set, d32] at hK ⊢
      have e9 : Ext wk12 w9 := (Ext.refl wk12).drew.trans hE
      obtain ⟨s0, s1, s2, s3⟩ := (HBb.out.ext e9).cell
      go_wp2_with fail
      exact hK _ _ X (Ext.refl _) kept_m hX rfl
    · refine ⟨_, 59, rfl, by kernel_rfl, ?_⟩
      intro u w9 X hE hX hd K hK
      have d32 : u 57 = .bool true := hd 32 (by kernel_rfl)
      clear hd
      simp only [overlay, List.setIfInBounds_toArray, List.set, d32] at hK ⊢
      go_wp2_with fail
      exact hK _ _ X ((Ext.refl _).alloc _) kept_m (hX.ext ((Ext.refl _).alloc _)) (rdix_lit w9 [7, 8, 0, 0, 0, 0] (by decide) (by decide) hX.hi)
    · refine ⟨_, 60, rfl, by kernel_rfl, ?_⟩
      intro u w9 X hE hX hd K hK
      have d34 : RdIX X w9 [7, 8, 0, 0, 0, 0] (u 59) := hd 34 (by kernel_rfl)
      have d32 : u 57 = .bool true := hd 32 (by kernel_rfl)
      clear hd
      simp only [overlay, List.setIfInBounds_toArray, List.set, d32] at hK ⊢
      have e9 : Ext wk12 w9 := (Ext.refl wk12).drew.trans hE
      go_wp2_with fail
      refine (mat_rd d34 (by decide) (by decide) hX.hi).mono ?_
      rintro e w8 ⟨x8, rfl, hx8, hE8⟩
      go_wp2_with fail
      exact hK _ _ X hE8 kept_m (hX.ext hE8) hx8
    · refine ⟨_, 61, rfl, by kernel_rfl, ?_⟩
      intro u w9 X hE hX hd K hK
      have d33 : u 58 = .agg #[(.int .i64 ky11), (.slice pay11 lay11 may11), (.slice pby11 lby11 mby11), (.slice pcy11 lcy11 mcy11)] := hd 33 (by kernel_rfl)
      have d35 : RdX X w9 (caB) (u 60) := hd 35 (by kernel_rfl)
      have d32 : u 57 = .bool true := hd 32 (by kernel_rfl)
      clear hd
      simp only [overlay, List.setIfInBounds_toArray, List.set, d33, d32] at hK ⊢
      have e9 : Ext wk12 w9 := (Ext.refl wk12).drew.trans hE
      go_wp2_with fail
      refine (same_true ((RdX.old HAb.out e9 hX.lo)).rd (d35).rd rfl rfl).mono ?_
      rintro e w8 ⟨rfl, hE8⟩
      go_wp2_with fail
      exact hK _ _ X hE8 kept_m (hX.ext hE8) rfl
    · refine ⟨_, 62, rfl, by kernel_rfl, ?_⟩
      intro u w9 X hE hX hd K hK
      have d32 : u 57 = .bool true := hd 32 (by kernel_rfl)
      have d36 : u 61 = .bool true := hd 36 (by kernel_rfl)
      clear hd
      simp only [overlay, List.setIfInBounds_toArray, List.set, d32, d36] at hK ⊢
      go_wp2_with fail
      exact hK _ _ X (Ext.refl _) kept_m hX rfl
  · exact mem_nil_m
  intro u w9 X hE hX hd
  have d0 : u 25 = .int .i64 1 := hd 0 (by decide)
  have d1 : u 26 = .bool true := hd 1 (by decide)
  have d2 : u 27 = .bool true := hd 2 (by decide)
  have d3 : u 28 = .agg #[(.int .i64 ky3), (.slice pay3 lay3 may3), (.slice pby3 lby3 mby3), (.slice pcy3 lcy3 mcy3)] := hd 3 (by decide)
  have d4 : RdAll w9 [2] (u 29) := hd 4 (by decide)
  have d5 : RdIX X w9 [2] (u 30) := hd 5 (by decide)
  have d6 : u 31 = .bool true := hd 6 (by decide)
  have d7 : u 32 = .bool true := hd 7 (by decide)
  have d8 : u 33 = .bool true := hd 8 (by decide)
  have d9 : u 34 = .agg #[(.int .i64 ky3), (.slice pay3 lay3 may3), (.slice pby3 lby3 mby3), (.slice pcy3 lcy3 mcy3)] := hd 9 (by decide)
  have d10 : RdArs w9 [vecV [1, 2, 3], vecV [4, 5, 6]] (u 35) := hd 10 (by decide)
  have d11 : RdIX X w9 [1, 2, 3] (u 36) := hd 11 (by decide)
  have d12 : RdX X w9 (vecV [1, 2, 3]) (u 37) := hd 12 (by decide)
  have d13 : RdIX X w9 [4, 5, 6] (u 38) := hd 13 (by decide)
  have d14 : RdX X w9 (vecV [4, 5, 6]) (u 39) := hd 14 (by decide)
  have d15 : RdArs w9 [vecV [1, 2, 3], vecV [4, 5, 6]] (u 40) := hd 15 (by decide)
  have d16 : u 41 = .bool true := hd 16 (by decide)
  have d17 : u 42 = .bool true := hd 17 (by decide)
  have d18 : u 43 = .bool true := hd 18 (by decide)
  have d19 : u 44 = .int .i64 0 := hd 19 (by decide)
  have d20 : u 45 = .bool true := hd 20 (by decide)
  have d21 : u 46 = .bool true := hd 21 (by decide)
  have d22 : u 47 = .bool true := hd 22 (by decide)
  have d23 : u 48 = .int .i64 0 := hd 23 (by decide)
  have d24 : u 49 = .bool true := hd 24 (by decide)
  have d25 : u 50 = .bool true := hd 25 (by decide)
  have d26 : u 51 = .bool true := hd 26 (by decide)
  have d27 : u 52 = .agg #[(.int .i64 ky5), (.slice pay5 lay5 may5), (.slice pby5 lby5 mby5), (.slice pcy5 lcy5 mcy5)] := hd 27 (by decide)
  have d28 : RdIX X w9 [1, 2, 3, 4, 0, 0] (u 53) := hd 28 (by decide)
  have d29 : RdX X w9 (caA) (u 54) := hd 29 (by decide)
  have d30 : u 55 = .bool true := hd 30 (by decide)
  have d31 : u 56 = .bool true := hd 31 (by decide)
  have d32 : u 57 = .bool true := hd 32 (by decide)
  have d33 : u 58 = .agg #[(.int .i64 ky11), (.slice pay11 lay11 may11), (.slice pby11 lby11 mby11), (.slice pcy11 lcy11 mcy11)] := hd 33 (by decide)
  have d34 : RdIX X w9 [7, 8, 0, 0, 0, 0] (u 59) := hd 34 (by decide)
  have d35 : RdX X w9 (caB) (u 60) := hd 35 (by decide)
  have d36 : u 61 = .bool true := hd 36 (by decide)
  have d37 : u 62 = .bool true := hd 37 (by decide)
  clear hd
  simp only [overlay, List.setIfInBounds_toArray, List.set, d0, d1, d2, d3, d6, d7, d8, d9, d16, d17, d18, d19, d20, d21, d22, d23, d24, d25, d26, d27, d30, d31, d32, d33, d36, d37]
  have e9 : Ext wk12 w9 := (Ext.refl wk12).drew.trans hE
  clear d0 d1 d2 d3 d4 d5 d6 d7 d8 d9 d10 d11 d12 d13 d14 d15 d16 d17 d18 d19 d20 d21 d22 d23 d24 d25 d26 d27 d28 d29 d30 d31 d32 d33 d34 d35 d36 d37
  clear hX hE
  generalize u 29 = t29z13
  generalize u 30 = t30z13
  generalize u 35 = t35z13
  generalize u 36 = t36z13
  generalize u 37 = t37z13
  generalize u 38 = t38z13
  generalize u 39 = t39z13
  generalize u 40 = t40z13
  generalize u 53 = t53z13
  generalize u 54 = t54z13
  generalize u 59 = t59z13
  generalize u 60 = t60z13
  clear u
  obtain ⟨wk14, rfl⟩ : ∃ wx : World, wx = w9 := ⟨_, rfl⟩
  replace HBm := Lib.hid (HBm.out.ext e9)
  replace HAm := Lib.hid (HAm.out.ext e9)
  replace HBa := Lib.hid (HBa.out.ext e9)
  replace HAa := Lib.hid (HAa.out.ext e9)
  replace HBb := Lib.hid (HBb.out.ext e9)
  replace HAb := Lib.hid (HAb.out.ext e9)
  replace HE := Lib.hid (HE.out.trans (e9))
  clear e9
  go_wp2_with fail
  refine OnlyN.mk ?_
  go_wp2_with fail
  go_ret
  exact ⟨rfl, HE.out⟩
end Go.Proofs.Ytmpjnjhiklaofaa
