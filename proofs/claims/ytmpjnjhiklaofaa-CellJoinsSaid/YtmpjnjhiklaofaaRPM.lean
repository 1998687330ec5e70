/-
  THE WALK of arraylangref04.put. (Printed by gen_rput.py.)
-/
import Derived.Test.YtmpjnjhiklaofaaCPadR
import Derived.Test.YtmpjnjhiklaofaaRRight
namespace Go.Proofs.Ytmpjnjhiklaofaa
set_option linter.unusedSimpArgs false
set_option linter.unusedVariables false
open Go.RowKit

set_option maxRecDepth 100000 in
set_option maxHeartbeats 4000000 in
theorem rlead_any (F : Nat → Prop) (p : Option Addr) (c : Nat) (s : List Int) (n : Nat) (w : World) (h : IntsAt F w p s) (hk : SlOk s.length c) (hn : n ≤ 1000) :
    Calls Try.prog 83 #[.slice p s.length c, .int .i64 (n : Int)] w fun e w' => ∃ v, e = .returned v ∧ OwnI w.heap.size (fun _ => False) w' v (leadV s n).length (leadV s n) ∧ Ext w w' := by
  obtain ⟨k1, k2, k3⟩ := hk
  have HS := Lib.hid h
  clear h
  have hE0 : Ext w (w.alloc (.cells #[] 3)) := (Ext.refl _).alloc _
  have hR0 : RowI (w.alloc (.cells #[] 3)) w.heap.size [] := rowI_new' w []
  have hO0 : OwnI w.heap.size (fun _ => False) (w.alloc (.cells #[] 3)) (.slice (some ⟨w.heap.size, 0, none⟩) 0 0) 0 [] := OwnI.of_row hR0 rfl (by omega) (Nat.le_refl _) (fun h => h) (by simp)
  have HE0 := Lib.hid hE0
  have HO0 := Lib.hid hO0
  clear hE0 hR0 hO0
  go_enter Try.func83, Try.ntmps83
  go_wp2_with fail
  generalize w.alloc (.cells #[] 3) = w1 at *
  go_loopw [5, 6] (fun ov iv wr => ∃ (i j : Nat), iv = .int .i64 (i : Int) ∧ i = s.length + j ∧ (i ≤ n ∨ j = 0) ∧ OwnI w.heap.size (fun _ => False) wr ov j (List.replicate j 1) ∧ Ext w wr) (fun _ iv _ => n - (intOf iv).toNat)
  case atStart => exact ⟨s.length, 0, rfl, rfl, .inr rfl, HO0.out, HE0.out⟩
  case round =>
    obtain ⟨i, j, rfl, hij, hin, hO, hE⟩ := hrel
    clear HO0 HE0
    by_cases hlt : i < n
    · obtain ⟨pv, cv, rfl, hcv⟩ := hO.form
      have hEa : Ext wr (wr.alloc (.cells #[.int .i64 1] 3)) := (Ext.refl _).alloc _
      have hnc : (wr.alloc (.cells #[.int .i64 1] 3)).cell? ⟨wr.heap.size, 0, none⟩ = some (.int .i64 1) := by simp
      have hO2 := hO.ext hEa
      have hE2 := hE.trans hEa
      have HO2 := Lib.hid hO2
      have HE2 := Lib.hid hE2
      have HNC := Lib.hid hnc
      clear hO hE hEa hnc hO2 hE2
      go_wp2_with (at_builtin; refine wpList_append_int rfl _ _ rfl w.heap.size _ (.slice pv j cv) j (List.replicate j 1) 1 rfl HO2.out ⟨wr.heap.size, 0, none⟩ 1 rfl HNC.out (fun _ h => h.elim) (by omega) (by omega) HE2.out.lt ?_)
      intro g cap w8 hon8 hgrow hat8 _ _
      have hE8 := HE2.out.grown hgrow HE2.out.lt (fun q e => (HO2.out.2.2.1.lt q e).1)
      have hrep : List.replicate j (1 : Int) ++ [1] = List.replicate (j + 1) 1 := by rw [List.replicate_succ']
      rw [hrep] at hon8
      clear HO2 HE2 HNC hgrow hrep hat8
      go_wp2_with fail
      go_roundw
      case rel => exact ⟨i + 1, j + 1, by go_num, by omega, .inl (by omega), hon8, hE8⟩
      case measure => simp [intOf]; omega
    · have HO := Lib.hid hO
      have HE := Lib.hid hE
      clear hO hE
      go_wp2_with (at_builtin; refine wpList_append_ints rfl _ _ rfl F w.heap.size _ _ j (List.replicate j 1) p c s rfl HO.out rfl (HS.out.ext HE.out) (fun _ h => h.elim) (by omega) HE.out.lt ?_)
      intro v' w8 hO8 hgrow hat8
      have hE8 := HE.out.grown hgrow HE.out.lt (fun q e => (HO.out.2.2.1.lt q e).1)
      clear HO HE hgrow hat8
      go_wp2_with fail
      go_ret
      refine ⟨v', rfl, ?_, hE8⟩
      have hl : (leadV s n).length = j + s.length := by unfold leadV; simp; omega
      rw [hl]
      unfold leadV
      have hj : n - s.length = j := by omega
      rw [hj]
      exact hO8
/-- checked: the array, or the error. -/
theorem rchecked_any (F : Nat → Prop) (x : Arr) (c0 c1 c2 c3 : Value) (w : World) (hx : ArrAt F w x c0 c1 c2 c3) :
    Calls Try.prog 82 #[.agg #[c0, c1, c2, c3]] w fun e w' => ∃ d0 d1 d2 d3, e = .returned (.tuple #[.agg #[d0, d1, d2, d3], .int .i64 (if rightV x = 0 then 0 else 21)]) ∧ ArrAt F w' (if rightV x = 0 then x else Arr.zero) d0 d1 d2 d3 ∧ Ext w w' := by
  have HX := Lib.hid (ArrAt.mono (G := fun b => F b ∧ b < w.heap.size) (w' := w) (fun b hb hlt => ⟨⟨hb, hlt⟩, rfl⟩) _ _ _ _ _ hx)
  obtain ⟨kx, p1, l1, m1, p2, l2, m2, p3, l3, m3, rfl, rfl, rfl, rfl⟩ := hx.form
  clear hx
  generalize hrv : rightV x = r
  have HRV := Lib.hid hrv
  clear hrv
  go_enter Try.func82, Try.ntmps82
  have hE0 : Ext w ((w.alloc (.cells #[.int .i64 kx, .slice p1 l1 m1, .slice p2 l2 m2, .slice p3 l3 m3] 26)).alloc (.cells #[.int .i64 0, .slice none 0 0, .slice none 0 0, .slice none 0 0] 26)) := ((Ext.refl _).alloc _).alloc _
  have hB := (box_new w (.int .i64 kx) (.slice p1 l1 m1) (.slice p2 l2 m2) (.slice p3 l3 m3)).ext ((Ext.refl _).alloc (.cells #[.int .i64 0, .slice none 0 0, .slice none 0 0, .slice none 0 0] 26))
  have hR := box_new (w.alloc (.cells #[.int .i64 kx, .slice p1 l1 m1, .slice p2 l2 m2, .slice p3 l3 m3] 26)) (.int .i64 0) (.slice none 0 0) (.slice none 0 0) (.slice none 0 0)
  rw [World.size_alloc] at hR
  have HE := Lib.hid hE0
  have HBx := Lib.hid hB
  have HBr := Lib.hid hR
  obtain ⟨s0, s1, s2, s3⟩ := hB.cell
  clear hE0 hB hR
  go_wp2_with fail
  generalize hw1 : (w.alloc (.cells #[.int .i64 kx, .slice p1 l1 m1, .slice p2 l2 m2, .slice p3 l3 m3] 26)).alloc (.cells #[.int .i64 0, .slice none 0 0, .slice none 0 0, .slice none 0 0] 26) = w1 at *
  clear hw1
  refine (rright6_any _ x _ _ _ _ w1 (HX.out.ext HE.out)).mono ?_
  rintro e w8 ⟨rfl, hE1⟩
  rw [HRV.out]
  replace HE := Lib.hid (HE.out.trans hE1)
  replace HBx := Lib.hid (HBx.out.ext hE1)
  replace HBr := Lib.hid (HBr.out.ext hE1)
  clear hE1 s0 s1 s2 s3
  have hbz := HBr.out
  obtain ⟨x0, x1, x2, x3⟩ := hbz.cell
  have y0 := hbz.free 0
  have y1 := hbz.free 1
  have y2 := hbz.free 2
  have y3 := hbz.free 3
  obtain ⟨s0, s1, s2, s3⟩ := HBx.out.cell
  by_cases hr : r = 0
  · subst hr
    obtain ⟨gg3, gg4, gg5⟩ := hbz.put4 HE.out (by omega) (.int .i64 kx) (.slice p1 l1 m1) (.slice p2 l2 m2) (.slice p3 l3 m3)
    have hA9 := ArrAt.mono (G := F) (w' := ((((w8.setCell ⟨w.heap.size + 1, 0, none⟩ (.int .i64 kx)).setCell ⟨w.heap.size + 1, 1, none⟩ (.slice p1 l1 m1)).setCell ⟨w.heap.size + 1, 2, none⟩ (.slice p2 l2 m2)).setCell ⟨w.heap.size + 1, 3, none⟩ (.slice p3 l3 m3))) (fun b hb _ => ⟨hb.1, gg5 b (by have := hb.2; omega)⟩) _ _ _ _ _ (HX.out.ext HE.out)
    have HG := Lib.hid (And.intro gg3 (And.intro gg4 hA9))
    clear gg3 gg4 gg5 hA9 hbz
    go_wp2_with fail
    obtain ⟨gg3, gg4, hA9⟩ := HG.out
    clear HG
    revert gg3 gg4 hA9
    generalize ((((w8.setCell ⟨w.heap.size + 1, 0, none⟩ (.int .i64 kx)).setCell ⟨w.heap.size + 1, 1, none⟩ (.slice p1 l1 m1)).setCell ⟨w.heap.size + 1, 2, none⟩ (.slice p2 l2 m2)).setCell ⟨w.heap.size + 1, 3, none⟩ (.slice p3 l3 m3)) = w9
    intro gg3 gg4 hA9
    obtain ⟨z0, z1, z2, z3⟩ := gg4.cell
    refine bodyPost_ret (v := .tuple #[.agg #[.int .i64 kx, .slice p1 l1 m1, .slice p2 l2 m2, .slice p3 l3 m3], .int .i64 0]) ?_ rfl ⟨.int .i64 kx, .slice p1 l1 m1, .slice p2 l2 m2, .slice p3 l3 m3, rfl, hA9, gg3⟩
    simp [results, Try.results82, go_sem, z0, z1, z2, z3]
  · obtain ⟨gg3, gg4, gg5⟩ := hbz.put4 HE.out (by omega) (.int .i64 0) (.slice none 0 0) (.slice none 0 0) (.slice none 0 0)
    have HG := Lib.hid (And.intro gg3 gg4)
    have HNR := Lib.hid hr
    clear gg3 gg4 gg5 hbz
    go_wp2_with fail
    obtain ⟨gg3, gg4⟩ := HG.out
    clear HG
    revert gg3 gg4
    generalize ((((w8.setCell ⟨w.heap.size + 1, 0, none⟩ (.int .i64 0)).setCell ⟨w.heap.size + 1, 1, none⟩ (.slice none 0 0)).setCell ⟨w.heap.size + 1, 2, none⟩ (.slice none 0 0)).setCell ⟨w.heap.size + 1, 3, none⟩ (.slice none 0 0)) = w9
    intro gg3 gg4
    obtain ⟨z0, z1, z2, z3⟩ := gg4.cell
    refine bodyPost_ret (v := .tuple #[.agg #[.int .i64 0, .slice none 0 0, .slice none 0 0, .slice none 0 0], .int .i64 21]) ?_ rfl ⟨.int .i64 0, .slice none 0 0, .slice none 0 0, .slice none 0 0, rfl, Arr.zero_at _ _, gg3⟩
    simp [results, Try.results82, go_sem, z0, z1, z2, z3]
end Go.Proofs.Ytmpjnjhiklaofaa

namespace Go.Proofs.Ytmpjnjhiklaofaa
set_option linter.unusedSimpArgs false
set_option linter.unusedVariables false
open Go.RowKit

/-- What a step leaves: what is older than the base, and the blocks of X, are as they were. -/
def Kp (w0 : World) (X : Nat → Prop) (w w' : World) : Prop := Ext w0 w' ∧ ∀ q, (X q ∨ q < w0.heap.size) → w'.heap[q]? = w.heap[q]?
theorem Kp.refl {w0 w : World} {X : Nat → Prop} (h : Ext w0 w) : Kp w0 X w w := ⟨h, fun _ _ => rfl⟩
theorem Kp.of_ext {w0 w w' : World} {X : Nat → Prop} (h : Ext w0 w) (hx : ∀ q, X q → q < w.heap.size) (e : Ext w w') : Kp w0 X w w' :=
  ⟨h.trans e, fun q hq => e.block (hq.elim (hx q) (fun h' => Nat.lt_of_lt_of_le h' h.lt))⟩
theorem Kp.trans {w0 a b c : World} {X : Nat → Prop} (h : Kp w0 X a b) (k : Kp w0 X b c) : Kp w0 X a c := ⟨k.1, fun q hq => (k.2 q hq).trans (h.2 q hq)⟩
theorem Kp.sub {w0 a b : World} {X Y : Nat → Prop} (h : Kp w0 X a b) (s : ∀ q, Y q → X q) : Kp w0 Y a b := ⟨h.1, fun q hq => h.2 q (hq.imp (s q) id)⟩
theorem Kp.cell {w0 w w' : World} {X : Nat → Prop} {q o : Nat} {v : Value} (h : Kp w0 X w w') (hq : X q ∨ q < w0.heap.size) (hc : w.cell? ⟨q, o, none⟩ = some v) : w'.cell? ⟨q, o, none⟩ = some v :=
  (World.cell?_of_block (a := ⟨q, o, none⟩) (h.2 q hq)).trans hc
theorem Kp.ints {w0 w w' : World} {X F : Nat → Prop} {p : Option Addr} {l : List Int} (h : Kp w0 X w w') (hF : ∀ q, F q → X q ∨ q < w0.heap.size) (hi : IntsAt F w p l) : IntsAt F w' p l := hi.mono fun q hq _ => ⟨hq, h.2 q (hF q hq)⟩
theorem Kp.arr {w0 w w' : World} {X F : Nat → Prop} {x : Arr} {c0 c1 c2 c3 : Value} (h : Kp w0 X w w') (hF : ∀ q, F q → X q ∨ q < w0.heap.size) (hi : ArrAt F w x c0 c1 c2 c3) : ArrAt F w' x c0 c1 c2 c3 :=
  ArrAt.mono (fun q hq _ => ⟨hq, h.2 q (hF q hq)⟩) _ _ _ _ _ hi
theorem Kp.box {w0 w w' : World} {X : Nat → Prop} {b : Nat} {c0 c1 c2 c3 : Value} (h : Kp w0 X w w') (hq : X b) (hb : Box4 w b c0 c1 c2 c3) : Box4 w' b c0 c1 c2 c3 := hb.kept (h.2 b (.inl hq))
theorem Kp.grown {w0 W w7 w8 : World} {X : Nat → Prop} (h : Kp w0 X W w7) (q1 : Ext w0 w8) (q3 : ∀ q, X q → w8.heap[q]? = w7.heap[q]?) : Kp w0 X W w8 :=
  ⟨q1, fun q hq => by
    rcases Classical.em (X q) with hx | hx
    · exact (q3 q hx).trans (h.2 q hq)
    · have hlt : q < w0.heap.size := hq.resolve_left hx
      rw [← h.2 q hq, q1.block hlt, h.1.block hlt]⟩
theorem Kp.step {w0 W w7 w9 : World} {X : Nat → Prop} {b : Nat} (h : Kp w0 X W w7) (q1 : Ext w0 w9) (hf : ∀ q, X q → q ≠ b → w9.heap[q]? = w7.heap[q]?) : Kp w0 (fun x => X x ∧ x ≠ b) W w9 :=
  (h.sub (Y := fun x => X x ∧ x ≠ b) fun _ hq => hq.1).grown q1 fun q hq => hf q hq.1 hq.2

theorem Kp.lt {w0 w w' : World} {X : Nat → Prop} {q : Nat} (h : Kp w0 X w w') (hq : X q) (hl : q < w.heap.size) : q < w'.heap.size := by
  have h1 := h.2 q (.inl hq)
  rw [Array.getElem?_eq_getElem hl] at h1
  exact (Array.getElem?_eq_some_iff.1 h1).1
theorem rput_end {w0 w w4 w9 w10 : World} {X : Nat → Prop} {b10 : Nat} {k : Int} {v1 v2 v3 : Value} {n : List Int} {l : List Arr} (hle : w0.heap.size ≤ w.heap.size) (hXL : ∀ q, X q → q < w.heap.size)
    (hM : MkB w0 w9 (fun x => X x ∨ (w.heap.size ≤ x ∧ x < w4.heap.size)) w.heap.size k v1 v2 v3 n l) (hkp : Kp w0 (fun x => (X x ∨ (w.heap.size ≤ x ∧ x < w4.heap.size)) ∧ x ≠ w.heap.size) w4 w9) (e : Ext w w4) (gg3 : Ext w0 w10) (gg5 : ∀ q, q ≠ b10 → w10.heap[q]? = w9.heap[q]?) (h10 : w.heap.size < b10 ∧ b10 < w4.heap.size) :
    OwnI w0.heap.size (fun x => X x ∨ v3.ownBlock = some x) w10 v2 n.length n ∧ OwnA w0.heap.size (fun x => X x ∨ v2.ownBlock = some x) w10 v3 l.length l ∧ Kp w0 X w w10 := by
  refine ⟨hM.on.same fun g _ hlt hx => ⟨gg5 g fun e => hx (.inl (.inr (by omega))), fun h => hx (h.imp .inl id)⟩, hM.oi.same fun g hlt _ hx => ⟨gg5 g fun e => hx (.inl (.inr (by omega))), fun h => hx (h.imp .inl id)⟩, gg3, fun q hq => ?_⟩
  have hq1 : q < w.heap.size := hq.elim (hXL q) (fun h => by omega)
  rw [gg5 q (by omega), hkp.2 q (hq.imp (fun h => ⟨.inl h, by omega⟩) id), e.block hq1]

theorem rput_len {α : Type} (get : Nat → α) (fill : α) (s fr : List Int) (o : Nat) (hr : rightGo 1 s = true) (h8 : s.length ≤ 8) (hf : FrOk fr s) : (rputV get fill fr s o).length = (prodA 1 s).toNat := by
  rw [rput_map get fill s fr o hr h8 hf]; simp
theorem rput_idx {f : Int} {q : List Int} {o i cnt : Nat} (hr : rightGo 1 (f :: q) = true) (hidx : 0 < prodA 1 (f :: q) → o + (prodA 1 (f :: q)).toNat ≤ cnt) (hi : (i : Int) < f) (hq : 0 < prodA 1 q) : o + i * (prodA 1 q).toNat + (prodA 1 q).toNat ≤ cnt := by
  have h1 := prodA_cons_nat hr
  have h2 : (i + 1) * (prodA 1 q).toNat ≤ f.toNat * (prodA 1 q).toNat := Nat.mul_le_mul_right _ (by omega)
  rw [Nat.succ_mul] at h2
  have := hidx (by omega)
  omega
theorem put_store {w0 w w4 wr w8 w10 : World} {X : Nat → Prop} {k : Int} {v1 v2 v3 v4 v5 : Value} {n n' : List Int} {l l' : List Arr} (hM : MkB w0 wr (fun x => X x ∨ (w.heap.size ≤ x ∧ x < w4.heap.size)) w.heap.size k v1 v2 v3 n l) (hk : Kp w0 (fun x => X x ∨ (w.heap.size ≤ x ∧ x < w4.heap.size)) wr w8)
    (hO1 : OwnI w0.heap.size (fun x => (fun x => X x ∨ (w.heap.size ≤ x ∧ x < w4.heap.size)) x ∨ v5.ownBlock = some x) w8 v4 n'.length n') (hO2 : OwnA w0.heap.size (fun x => (fun x => X x ∨ (w.heap.size ≤ x ∧ x < w4.heap.size)) x ∨ v4.ownBlock = some x) w8 v5 l'.length l')
    (gg1 : Ext w0 w10) (gg2 : Box4 w10 w.heap.size (.int .i64 k) v1 v4 v5) (gg3 : ∀ q, q ≠ w.heap.size → w10.heap[q]? = w8.heap[q]?) : MkB w0 w10 (fun x => X x ∨ (w.heap.size ≤ x ∧ x < w4.heap.size)) w.heap.size k v1 v4 v5 n' l' ∧ Kp w0 (fun x => (X x ∨ (w.heap.size ≤ x ∧ x < w4.heap.size)) ∧ x ≠ w.heap.size) wr w10 := by
  have hkp := hk.step (b := w.heap.size) gg1 (fun q _ hq => gg3 q hq)
  refine ⟨⟨gg1, hM.le, gg2, hM.xb, fun x hx => ?_, hO1.same fun g _ _ hx => ⟨gg3 g fun e => hx (.inl (by rw [e]; exact hM.xb)), hx⟩, hO2.same fun g _ _ hx => ⟨gg3 g fun e => hx (.inl (by rw [e]; exact hM.xb)), hx⟩⟩, hkp⟩
  by_cases hxb : x = w.heap.size
  · rw [hxb]; exact gg2.lt
  · exact hkp.lt ⟨hx, hxb⟩ (hM.xl x hx)

/-- What put hands back. -/
def PutGives (w0 : World) (X : Nat → Prop) (w : World) (k : Int) (v1 : Value) (n : List Int) (l : List Arr) (e : Ending) (w' : World) : Prop :=
  ∃ v2 v3, e = .returned (.agg #[.int .i64 k, v1, v2, v3]) ∧ OwnI w0.heap.size (fun x => X x ∨ v3.ownBlock = some x) w' v2 n.length n ∧ OwnA w0.heap.size (fun x => X x ∨ v2.ownBlock = some x) w' v3 l.length l ∧ Kp w0 X w w'

/-- Part of the rows of put. -/
def rpPart {α : Type} (get : Nat → α) (fill : α) (fr tr : List Int) (o i : Nat) : List α :=
  (List.range i).flatMap fun (i : Nat) => if (i : Int) < fr.headD 0 ∧ 0 < shapeSize fr.tail then rputV get fill fr.tail tr (o + i * (shapeSize fr.tail).toNat) else List.replicate (shapeSize tr).toNat fill
theorem rpPart_succ {α : Type} (get : Nat → α) (fill : α) (fr tr : List Int) (o i : Nat) : rpPart get fill fr tr o (i + 1) = rpPart get fill fr tr o i ++ (if (i : Int) < fr.headD 0 ∧ 0 < shapeSize fr.tail then rputV get fill fr.tail tr (o + i * (shapeSize fr.tail).toNat) else List.replicate (shapeSize tr).toNat fill) := by
  rw [rpPart, List.range_succ, List.flatMap_append]
  simp [rpPart]
theorem rpPart_all {α : Type} (get : Nat → α) (fill : α) (fr tr : List Int) (o : Nat) (t : Int) : rpPart get fill fr tr o t.toNat = rputV get fill fr (t :: tr) o := rfl

set_option maxRecDepth 1000000 in
set_option maxHeartbeats 8000000 in
theorem rput_any (w0 : World) (k ka : Int) (sa na : List Int) (ia : List Arr) (hk : ka = 1 ∨ ka = 2 ∨ ka = 3) (hcn : (if ka = 3 then ia.length else na.length) ≤ 65536) : ∀ (ts fr : List Int) (o : Nat) (w : World) (X : Nat → Prop) (pv1 : Option Addr) (lv1 cv1 : Nat) (v2 v3 : Value) (n : List Int) (l : List Arr) (c0 c1 c2 c3 : Value) (pf : Option Addr) (cf : Nat) (pt : Option Addr) (ct : Nat),
    rightGo 1 ts = true → ts.length ≤ 8 → FrOk fr ts → (0 < prodA 1 fr → o + (prodA 1 fr).toNat ≤ if ka = 3 then ia.length else na.length) → o ≤ 65536 → n.length + (prodA 1 ts).toNat ≤ 200000 → l.length + (prodA 1 ts).toNat ≤ 200000 →
    Ext w0 w → (∀ q, X q → q < w.heap.size) → OwnI w0.heap.size (fun x => X x ∨ v3.ownBlock = some x) w v2 n.length n → OwnA w0.heap.size (fun x => X x ∨ v2.ownBlock = some x) w v3 l.length l →
    ArrAt (fun q => X q ∨ q < w0.heap.size) w (.mk ka sa na ia) c0 c1 c2 c3 → IntsAt (fun q => X q ∨ q < w0.heap.size) w pf fr → SlOk fr.length cf → IntsAt (fun q => X q ∨ q < w0.heap.size) w pt ts → SlOk ts.length ct →
    Calls Try.prog 84 #[.agg #[.int .i64 k, (.slice pv1 lv1 cv1), v2, v3], .agg #[c0, c1, c2, c3], .slice pf fr.length cf, .slice pt ts.length ct, .int .i64 (o : Int)] w (PutGives w0 X w k (.slice pv1 lv1 cv1) (if ka = 3 then n else n ++ rputV (fun i => na.getD i 0) (padN ka) fr ts o) (if ka = 3 then l ++ rputV (fun i => ia.getD i default) padI fr ts o else l)) := by
  intro ts
  induction ts with
  | nil =>
    intro fr o w X pv1 lv1 cv1 v2 v3 n l c0 c1 c2 c3 pf cf pt ct hrt h8 hfo hidx ho hnl hll hE0 hXL hOn hOi ha hfr hfk ht htk
    have hf0 : fr = [] := List.eq_nil_of_length_eq_zero hfo.1
    subst hf0
    have hio : o < if ka = 3 then ia.length else na.length := by
      have := hidx (by simp [prodA])
      simp only [prodA] at this
      omega
    simp only [prodA] at hnl hll
    clear hrt h8 hfo hidx hfr ht
    rw [rputV, rputV]
    obtain ⟨rn, hrn⟩ : ∃ rn, (if ka = 3 then n else n ++ [na.getD o 0]) = rn := ⟨_, rfl⟩
    obtain ⟨rl, hrl⟩ : ∃ rl, (if ka = 3 then l ++ [ia.getD o default] else l) = rl := ⟨_, rfl⟩
    rw [hrn, hrl]
    have HRN := Lib.hid hrn
    have HRL := Lib.hid hrl
    clear hrn hrl
    obtain ⟨pv2, cv2, rfl, _⟩ := hOn.form
    obtain ⟨pv3, cv3, rfl, _, _⟩ := hOi.items (by omega)
    obtain ⟨t1, t1', t1''⟩ := htk
    have ha' := ha
    unfold ArrAt at ha'
    obtain ⟨rfl, hka, ⟨p1, m1, rfl, ⟨o1, o1', o1''⟩, i1⟩, ⟨p2, m2, rfl, ⟨o2, o2', o2''⟩, i2⟩, ⟨p3, m3, rfl, ⟨o3, o3', o3''⟩, i3⟩⟩ := ha'
    have HA := Lib.hid ha
    have HE0 := Lib.hid hE0
    have HXL := Lib.hid hXL
    have HOn := Lib.hid hOn
    have HOi := Lib.hid hOi
    have HI2 := Lib.hid i2
    have HI3 := Lib.hid i3
    clear ha hE0 hXL hOn hOi i1 i2 i3
    go_enter Try.func84, Try.ntmps84
    have hE1 : Ext w (((w.alloc (.cells #[.int .i64 k, (Value.slice pv1 lv1 cv1), (Value.slice pv2 n.length cv2), (Value.slice pv3 l.length cv3)] 26)).alloc (.cells #[.int .i64 ka, .slice p1 sa.length m1, .slice p2 na.length m2, .slice p3 ia.length m3] 26)).alloc (.cells #[.int .i64 0, .slice none 0 0, .slice none 0 0, .slice none 0 0] 26)) := (((Ext.refl _).alloc _).alloc _).alloc _
    have hb5 := (box_new w (.int .i64 k) (Value.slice pv1 lv1 cv1) (Value.slice pv2 n.length cv2) (Value.slice pv3 l.length cv3)).ext (((Ext.refl _).alloc (.cells #[.int .i64 ka, .slice p1 sa.length m1, .slice p2 na.length m2, .slice p3 ia.length m3] 26)).alloc (.cells #[.int .i64 0, .slice none 0 0, .slice none 0 0, .slice none 0 0] 26))
    have hb6 := (box_new (w.alloc (.cells #[.int .i64 k, (Value.slice pv1 lv1 cv1), (Value.slice pv2 n.length cv2), (Value.slice pv3 l.length cv3)] 26)) (.int .i64 ka) (.slice p1 sa.length m1) (.slice p2 na.length m2) (.slice p3 ia.length m3)).ext ((Ext.refl _).alloc (.cells #[.int .i64 0, .slice none 0 0, .slice none 0 0, .slice none 0 0] 26))
    have hb10 := box_new ((w.alloc (.cells #[.int .i64 k, (Value.slice pv1 lv1 cv1), (Value.slice pv2 n.length cv2), (Value.slice pv3 l.length cv3)] 26)).alloc (.cells #[.int .i64 ka, .slice p1 sa.length m1, .slice p2 na.length m2, .slice p3 ia.length m3] 26)) (.int .i64 0) (.slice none 0 0) (.slice none 0 0) (.slice none 0 0)
    rw [World.size_alloc] at hb6 hb10
    rw [World.size_alloc] at hb10
    have HE1 := Lib.hid hE1
    have HB5 := Lib.hid hb5
    have HB6 := Lib.hid hb6
    have HB10 := Lib.hid hb10
    obtain ⟨s0, s1, s2, s3⟩ := hb6.cell
    clear hE1 hb5 hb6 hb10
    go_wp2_with fail
    generalize hww : (((w.alloc (.cells #[.int .i64 k, (Value.slice pv1 lv1 cv1), (Value.slice pv2 n.length cv2), (Value.slice pv3 l.length cv3)] 26)).alloc (.cells #[.int .i64 ka, .slice p1 sa.length m1, .slice p2 na.length m2, .slice p3 ia.length m3] 26)).alloc (.cells #[.int .i64 0, .slice none 0 0, .slice none 0 0, .slice none 0 0] 26)) = w1 at *
    clear hww
    refine (rfill_any _ (.mk ka sa na ia) _ _ _ _ w1 (HA.out.ext HE1.out)).mono ?_
    rintro e w3 ⟨e0, e1, e2, e3, rfl, hF, hE3⟩
    obtain ⟨fk, f1, fl1, fc1, f2, fl2, fc2, f3, fl3, fc3, rfl, rfl, rfl, rfl⟩ := hF.form
    clear s0 s1 s2 s3
    have hEn : Ext w1 (w3.alloc (.cells #[.int .i64 fk, .slice f1 fl1 fc1, .slice f2 fl2 fc2, .slice f3 fl3 fc3] 26)) := hE3.alloc _
    have hE13 := HE1.out.trans hE3
    have hB6l := (HB10.out.ext hE3).lt
    have HBf := Lib.hid (box_new w3 (.int .i64 fk) (.slice f1 fl1 fc1) (.slice f2 fl2 fc2) (.slice f3 fl3 fc3))
    have HAf := Lib.hid (hF.ext ((Ext.refl _).alloc (.cells #[.int .i64 fk, .slice f1 fl1 fc1, .slice f2 fl2 fc2, .slice f3 fl3 fc3] 26)))
    have HE2 := Lib.hid (HE1.out.trans hEn)
    have HBo := Lib.hid (HB5.out.ext hEn)
    have HBa := Lib.hid (HB6.out.ext hEn)
    have HBr := Lib.hid (HB10.out.ext hEn)
    have hbf : w.heap.size + 2 < w3.heap.size ∧ w3.heap.size < (w3.alloc (.cells #[.int .i64 fk, .slice f1 fl1 fc1, .slice f2 fl2 fc2, .slice f3 fl3 fc3] 26)).heap.size := ⟨hB6l, by rw [World.size_alloc]; omega⟩
    have HW1 := Lib.hid (show w.heap.size ≤ w1.heap.size from HE1.out.lt)
    have HW1s := Lib.hid (show w.heap.size < w1.heap.size from HB5.out.lt)
    have HBF := Lib.hid hbf
    clear hE3 hF hEn HB5 HB6 HB10 hE13 hB6l hbf
    go_upto_region 2 with (fail)
    generalize hbf : w3.heap.size = bf at *
    generalize w3.alloc (.cells #[.int .i64 fk, .slice f1 fl1 fc1, .slice f2 fl2 fc2, .slice f3 fl3 fc3] 26) = w4 at *
    clear hbf HE1
    have hle : w0.heap.size ≤ w.heap.size := HE0.out.lt
    have hM : MkB w0 w4 (fun x => X x ∨ (w.heap.size ≤ x ∧ x < w4.heap.size)) w.heap.size k (Value.slice pv1 lv1 cv1) (Value.slice pv2 n.length cv2) (Value.slice pv3 l.length cv3) n l := by
      have h2 := HBF.out
      refine ⟨HE0.out.trans HE2.out, hle, HBo.out, .inr ⟨Nat.le_refl _, by omega⟩, fun x hx => ?_, ?_, ?_⟩
      · rcases hx with hx | hx
        · have := HXL.out x hx; omega
        · exact hx.2
      · refine (HOn.out.same (Y := fun x => (fun x => X x ∨ (w.heap.size ≤ x ∧ x < w4.heap.size)) x ∨ (Value.slice pv3 l.length cv3).ownBlock = some x) (w' := w) fun g _ hlt hx => ⟨rfl, ?_⟩).ext HE2.out
        rintro ((h | h) | h)
        · exact hx (.inl h)
        · omega
        · exact hx (.inr h)
      · refine (HOi.out.same (Y := fun x => (fun x => X x ∨ (w.heap.size ≤ x ∧ x < w4.heap.size)) x ∨ (Value.slice pv2 n.length cv2).ownBlock = some x) (w' := w) fun g hlt _ hx => ⟨rfl, ?_⟩).ext HE2.out
        rintro ((h | h) | h)
        · exact hx (.inl h)
        · omega
        · exact hx (.inr h)
    have hZX : ∀ q, (fun q => X q ∨ q < w0.heap.size) q → (fun q => ((X q ∨ (w.heap.size ≤ q ∧ q < w4.heap.size)) ∧ q ≠ w.heap.size) ∨ q < w0.heap.size) q := fun q hq => hq.imp (fun h => ⟨.inl h, by have := HXL.out q h; omega⟩) id
    have HM := Lib.hid hM
    have HZX := Lib.hid hZX
    have HA4 := Lib.hid (ArrAt.mono (G := (fun q => ((X q ∨ (w.heap.size ≤ q ∧ q < w4.heap.size)) ∧ q ≠ w.heap.size) ∨ q < w0.heap.size)) (w' := w4) (fun q hq hlt => ⟨HZX.out q hq, HE2.out.block hlt⟩) _ _ _ _ _ HA.out)
    clear hM hZX HA HOn HOi HBo
    by_cases hk3 : ka = 3
    · have hk3' : (ka == 3) = true := by simpa using hk3
      rw [if_pos hk3] at hio
      obtain ⟨s0, s1, s2, s3⟩ := HBa.out.cell
      have hrl : l ++ [ia.getD o default] = rl := by have := HRL.out; rwa [if_pos hk3] at this
      have hrn : n = rn := by have := HRN.out; rwa [if_pos hk3] at this
      clear HRN HRL
      subst hrn
      have hxe : ia.getD o default = ia[o] := by rw [List.getD, List.getElem?_eq_getElem hio]; rfl
      rw [hxe] at hrl
      clear hxe
      obtain ⟨bi, off, d0, d1, d2, d3, hp3, hbv, g0, g1, g2, g3, hx⟩ := ItemsAt.get ia _ 0 o HI3.out hio
      rw [Nat.zero_add] at g0 g1 g2 g3
      subst hp3
      have hbm := HZX.out bi hbv
      have hx4 := hx.ext HE2.out
      replace g0 := HE2.out.cell g0
      replace g1 := HE2.out.cell g1
      replace g2 := HE2.out.cell g2
      replace g3 := HE2.out.cell g3
      generalize ia[o] = x at *
      have HRL := Lib.hid hrl
      obtain ⟨xk, xp1, xl1, xc1, xp2, xl2, xc2, xp3, xl3, xc3, rfl, rfl, rfl, rfl⟩ := hx4.form
      clear hrl hx
      have HX4 := Lib.hid hx4
      clear hx4
      go_wp2_with fail
      have hM2 := HM.out
      have hx4 := HX4.out
      clear s1 s2 HX4
      have hma : (fun x => X x ∨ (w.heap.size ≤ x ∧ x < w4.heap.size)) (w.heap.size + 1) := .inr ⟨by omega, by have := HBF.out; omega⟩
      have hmv : (fun x => X x ∨ (w.heap.size ≤ x ∧ x < w4.heap.size)) bi ∨ bi < w0.heap.size := hbm.imp And.left id
      have hS0 : Kp w0 (fun x => X x ∨ (w.heap.size ≤ x ∧ x < w4.heap.size)) w4 w4.drew ∧ w4.drew.cell? ⟨w.heap.size, 3, none⟩ = some (Value.slice pv3 l.length cv3) := ⟨Kp.of_ext hM2.ext hM2.xl ((Ext.refl _).drew), (hM2.next ((Ext.refl _).drew)).box.cell.2.2.2⟩
      refine wp_region_g [0, 1, 2, 3, 4, 5, 6] [7, 8, 9, 10, 11] (fun w' => Kp w0 (fun x => X x ∨ (w.heap.size ≤ x ∧ x < w4.heap.size)) w4 w' ∧ w'.cell? ⟨w.heap.size, 3, none⟩ = some (Value.slice pv3 l.length cv3)) (by kernel_rfl) (by kernel_rfl) hS0 ?_
      iterate 7
        refine wpHead_cons (v := ?_) rfl (by rfl) (fun w' hS => ?_) ?_
        rotate_left
        · obtain ⟨hS1, hS2⟩ := hS
          have e0 := hS1.cell (.inl hma) s0
          have e3 := hS1.cell (.inl hma) s3
          have e5 := hS1.cell hmv g0
          have e6 := hS1.cell hmv g1
          have e7 := hS1.cell hmv g2
          have e8 := hS1.cell hmv g3
          go_simp
          try with_reducible rfl
        try simp only [Act.put, List.setIfInBounds_toArray, List.set]
      unfold wpHead
      refine wpTail_cons rfl (fun K hK => ?_)
      clear s0 s3 g0 g1 g2 g3
      go_wp2_with fail
      refine (rclone_any (SizeOf.sizeOf x + 1) _ x _ _ _ _ _ (by omega) (hx4.ext ((Ext.refl _).drew))).mono ?_
      rintro e w3' ⟨y0', y1', y2', y3', rfl, hy', hE3⟩
      have hEr : Ext w4 w3' := Ext.trans ((Ext.refl _).drew) hE3
      have hM3 := hM2.next hEr
      have hk3' : Kp w0 (fun x => X x ∨ (w.heap.size ≤ x ∧ x < w4.heap.size)) w4 w3' := Kp.of_ext hM2.ext hM2.xl hEr
      go_wp2_with fail
      refine hK _ _ ⟨hk3', hM3.box.cell.2.2.2⟩ ?_
      try simp only [Act.put, List.setIfInBounds_toArray, List.set]
      refine wpTail_cons rfl (fun K hK => ?_)
      have hY := ArrAt.mono (G := Apart w0.heap.size (fun x => (fun x => X x ∨ (w.heap.size ≤ x ∧ x < w4.heap.size)) x ∨ (Value.slice pv2 n.length cv2).ownBlock = some x) (Value.slice pv3 l.length cv3)) (w' := w3') (fun q hq _ => ⟨hM2.apart q hq, rfl⟩) _ _ _ _ _ hy'
      obtain ⟨yk, pq1, mm1, nq1, pq2, mm2, nq2, pq3, mm3, nq3, rfl, rfl, rfl, rfl⟩ := hY.form
      clear hy' hE3 hS0
      go_wp2_with fail
      have hEn : Ext w4 (w3'.alloc (.cells #[.int .i64 yk, .slice pq1 mm1 nq1, .slice pq2 mm2 nq2, .slice pq3 mm3 nq3] 26)) := hEr.alloc _
      have hM4 := hM3.next ((Ext.refl _).alloc (.cells #[.int .i64 yk, .slice pq1 mm1 nq1, .slice pq2 mm2 nq2, .slice pq3 mm3 nq3] 26))
      have hbx4 := box_new w3' (.int .i64 yk) (.slice pq1 mm1 nq1) (.slice pq2 mm2 nq2) (.slice pq3 mm3 nq3)
      have hY4 := hY.ext ((Ext.refl _).alloc (.cells #[.int .i64 yk, .slice pq1 mm1 nq1, .slice pq2 mm2 nq2, .slice pq3 mm3 nq3] 26))
      generalize w3'.alloc (.cells #[.int .i64 yk, .slice pq1 mm1 nq1, .slice pq2 mm2 nq2, .slice pq3 mm3 nq3] 26) = w4' at *
      have hk4 : Kp w0 (fun x => X x ∨ (w.heap.size ≤ x ∧ x < w4.heap.size)) w4 w4' := Kp.of_ext hM2.ext hM2.xl hEn
      clear hM2
      refine hK _ _ ⟨hk4, hM4.box.cell.2.2.2⟩ ?_
      try simp only [Act.put, List.setIfInBounds_toArray, List.set]
      refine wpTail_cons rfl (fun K hK => ?_)
      refine wpList_append_arr rfl _ _ rfl w0.heap.size _ (Value.slice pv3 l.length cv3) l.length l x _ _ _ _ rfl hM4.oi _ _ rfl hbx4 hM4.xl3 hY4 (by omega) hM4.ext.lt ?_
      intro g cap w8 hon8 hgrow hat8 _ _
      obtain ⟨q1, q2, q3⟩ := hM4.grownI hgrow
      obtain ⟨_, _, _, t3⟩ := q2.cell
      have tf := q2.free 3
      obtain ⟨hM8, hfar⟩ := hM4.storedI (l' := l ++ [x]) hgrow (by simp) hon8 (by simpa using hat8)
      have hkp := hk4.step hM8.ext hfar
      refine hK _ _ ⟨hk4.grown q1 q3, t3⟩ ?_
      try simp only [Act.put, List.setIfInBounds_toArray, List.set]
      refine wpTail_free2 rfl rfl (by kernel_rfl) ?_
      clear hM3 hM4 hbx4 hY4 hY hon8 hgrow hat8 q1 q2 q3 hEr hfar hk4 hk3'
      go_wp2_with fail
      refine OnlyN.mk ?_
      clear t3 tf
      rw [HRL.out] at hM8
      generalize (w8.setCell ⟨w.heap.size, 3, none⟩ (.slice (some ⟨g, 0, none⟩) (l.length + 1) cap)) = w9 at *
      obtain ⟨r0, r1, r2, r3⟩ := hM8.box.cell
      have hb10 : w.heap.size < w.heap.size + 1 + 1 ∧ w.heap.size + 1 + 1 < w4.heap.size := by have := HBF.out; omega
      have hbr9 := hkp.box (b := w.heap.size + 1 + 1) ⟨.inr ⟨by omega, hb10.2⟩, by omega⟩ HBr.out
      obtain ⟨x0, x1, x2, x3⟩ := hbr9.cell
      have y0 := hbr9.free 0
      have y1 := hbr9.free 1
      have y2 := hbr9.free 2
      have y3 := hbr9.free 3
      obtain ⟨gg3, gg4, gg5⟩ := hbr9.put4 hM8.ext (by omega) (.int .i64 k) (Value.slice pv1 lv1 cv1) (Value.slice pv2 n.length cv2) (.slice (some ⟨g, 0, none⟩) (l.length + 1) cap)
      have HP := Lib.hid (And.intro (rput_end hle HXL.out hM8 hkp HE2.out gg3 gg5 hb10) gg4)
      clear gg3 gg4 gg5 hbr9 hM8 hkp
      go_wp2_with fail
      obtain ⟨⟨hO1, hO2, hK1⟩, gg4⟩ := HP.out
      clear HP
      generalize ((((w9.setCell ⟨w.heap.size + 1 + 1, 0, none⟩ (.int .i64 k)).setCell ⟨w.heap.size + 1 + 1, 1, none⟩ (Value.slice pv1 lv1 cv1)).setCell ⟨w.heap.size + 1 + 1, 2, none⟩ (Value.slice pv2 n.length cv2)).setCell ⟨w.heap.size + 1 + 1, 3, none⟩ (.slice (some ⟨g, 0, none⟩) (l.length + 1) cap)) = w10 at *
      obtain ⟨z0, z1, z2, z3⟩ := gg4.cell
      refine bodyPost_ret (v := .agg #[.int .i64 k, (Value.slice pv1 lv1 cv1), (Value.slice pv2 n.length cv2), (.slice (some ⟨g, 0, none⟩) (l.length + 1) cap)]) ?_ rfl ⟨_, _, rfl, hO1, hO2, hK1⟩
      simp [results, Try.results84, go_sem, z0, z1, z2, z3]
    · have hk3' : (ka == 3) = false := by simpa using hk3
      rw [if_neg hk3] at hio
      obtain ⟨s0, s1, s2, s3⟩ := HBa.out.cell
      obtain ⟨bv, ov, hp2, hbv, av, av1, av2⟩ := HI2.out o hio
      subst hp2
      have hbm := HZX.out bv hbv
      have av4 := (HE2.out.cell av)
      have hrn : n ++ [na.getD o 0] = rn := by have := HRN.out; rwa [if_neg hk3] at this
      have hrl : l = rl := by have := HRL.out; rwa [if_neg hk3] at this
      clear HRN HRL
      subst hrl
      generalize na.getD o 0 = xv at *
      have HRN := Lib.hid hrn
      clear hrn av
      go_wp2_with fail
      have hM2 := HM.out
      clear s1 s3
      have hma : (fun x => X x ∨ (w.heap.size ≤ x ∧ x < w4.heap.size)) (w.heap.size + 1) := .inr ⟨by omega, by have := HBF.out; omega⟩
      have hmv : (fun x => X x ∨ (w.heap.size ≤ x ∧ x < w4.heap.size)) bv ∨ bv < w0.heap.size := hbm.imp And.left id
      have hS0 : Kp w0 (fun x => X x ∨ (w.heap.size ≤ x ∧ x < w4.heap.size)) w4 w4.drew ∧ w4.drew.cell? ⟨w.heap.size, 2, none⟩ = some (Value.slice pv2 n.length cv2) := ⟨Kp.of_ext hM2.ext hM2.xl ((Ext.refl _).drew), (hM2.next ((Ext.refl _).drew)).box.cell.2.2.1⟩
      refine wp_region_g [0, 1, 2, 3, 4, 5, 6] [7, 8, 9, 10] (fun w' => Kp w0 (fun x => X x ∨ (w.heap.size ≤ x ∧ x < w4.heap.size)) w4 w' ∧ w'.cell? ⟨w.heap.size, 2, none⟩ = some (Value.slice pv2 n.length cv2)) (by kernel_rfl) (by kernel_rfl) hS0 ?_
      iterate 7
        refine wpHead_cons (v := ?_) rfl (by rfl) (fun w' hS => ?_) ?_
        rotate_left
        · obtain ⟨hS1, hS2⟩ := hS
          have e0 := hS1.cell (.inl hma) s0
          have e2 := hS1.cell (.inl hma) s2
          have e5 := hS1.cell hmv av4
          go_simp
          try with_reducible rfl
        try simp only [Act.put, List.setIfInBounds_toArray, List.set]
      unfold wpHead
      refine wpTail_cons rfl (fun K hK => ?_)
      clear s0 s2 av4
      go_wp2_with fail
      have hEn : Ext w4 (w4.alloc (.cells #[.int .i64 xv] 3)).drew := ((Ext.refl _).alloc _).drew
      have hnc : (w4.alloc (.cells #[.int .i64 xv] 3)).drew.cell? ⟨w4.heap.size, 0, none⟩ = some (.int .i64 xv) := by simp
      generalize (w4.alloc (.cells #[.int .i64 xv] 3)).drew = w7 at hEn hnc ⊢
      have hM7 := hM2.next hEn
      have hk7 : Kp w0 (fun x => X x ∨ (w.heap.size ≤ x ∧ x < w4.heap.size)) w4 w7 := Kp.of_ext hM2.ext hM2.xl hEn
      refine hK _ _ ⟨hk7, hM7.box.cell.2.2.1⟩ ?_
      try simp only [Act.put, List.setIfInBounds_toArray, List.set]
      refine wpTail_cons rfl (fun K hK => ?_)
      refine wpList_append_int rfl _ _ rfl w0.heap.size _ (Value.slice pv2 n.length cv2) n.length n xv rfl hM7.on ⟨w4.heap.size, 0, none⟩ 1 rfl hnc hM7.xl2 ⟨av1, av2⟩ (by omega) hM7.ext.lt ?_
      intro g cap w8 hon8 hgrow hat8 _ _
      obtain ⟨q1, q2, q3⟩ := hM7.grownN hgrow
      obtain ⟨_, _, t2, _⟩ := q2.cell
      have tf := q2.free 2
      obtain ⟨hM8, hfar⟩ := hM7.storedN (n' := n ++ [xv]) hgrow (by simp) hon8 (by simpa using hat8)
      have hkp := hk7.step hM8.ext hfar
      refine hK _ _ ⟨hk7.grown q1 q3, t2⟩ ?_
      try simp only [Act.put, List.setIfInBounds_toArray, List.set]
      refine wpTail_free2 rfl rfl (by kernel_rfl) ?_
      clear hM7 hon8 hgrow hat8 q1 q2 q3 hS0 hM2 hnc hk7 hfar
      go_wp2_with fail
      refine OnlyN.mk ?_
      clear t2 tf
      rw [HRN.out] at hM8
      generalize (w8.setCell ⟨w.heap.size, 2, none⟩ (.slice (some ⟨g, 0, none⟩) (n.length + 1) cap)) = w9 at *
      obtain ⟨r0, r1, r2, r3⟩ := hM8.box.cell
      have hb10 : w.heap.size < w.heap.size + 1 + 1 ∧ w.heap.size + 1 + 1 < w4.heap.size := by have := HBF.out; omega
      have hbr9 := hkp.box (b := w.heap.size + 1 + 1) ⟨.inr ⟨by omega, hb10.2⟩, by omega⟩ HBr.out
      obtain ⟨x0, x1, x2, x3⟩ := hbr9.cell
      have y0 := hbr9.free 0
      have y1 := hbr9.free 1
      have y2 := hbr9.free 2
      have y3 := hbr9.free 3
      obtain ⟨gg3, gg4, gg5⟩ := hbr9.put4 hM8.ext (by omega) (.int .i64 k) (Value.slice pv1 lv1 cv1) (.slice (some ⟨g, 0, none⟩) (n.length + 1) cap) (Value.slice pv3 l.length cv3)
      have HP := Lib.hid (And.intro (rput_end hle HXL.out hM8 hkp HE2.out gg3 gg5 hb10) gg4)
      clear gg3 gg4 gg5 hbr9 hM8 hkp
      go_wp2_with fail
      obtain ⟨⟨hO1, hO2, hK1⟩, gg4⟩ := HP.out
      clear HP
      generalize ((((w9.setCell ⟨w.heap.size + 1 + 1, 0, none⟩ (.int .i64 k)).setCell ⟨w.heap.size + 1 + 1, 1, none⟩ (Value.slice pv1 lv1 cv1)).setCell ⟨w.heap.size + 1 + 1, 2, none⟩ (.slice (some ⟨g, 0, none⟩) (n.length + 1) cap)).setCell ⟨w.heap.size + 1 + 1, 3, none⟩ (Value.slice pv3 l.length cv3)) = w10 at *
      obtain ⟨z0, z1, z2, z3⟩ := gg4.cell
      refine bodyPost_ret (v := .agg #[.int .i64 k, (Value.slice pv1 lv1 cv1), (.slice (some ⟨g, 0, none⟩) (n.length + 1) cap), (Value.slice pv3 l.length cv3)]) ?_ rfl ⟨_, _, rfl, hO1, hO2, hK1⟩
      simp [results, Try.results84, go_sem, z0, z1, z2, z3]
  | cons d r ih =>
    intro fr o w X pv1 lv1 cv1 u2 u3 n l c0 c1 c2 c3 pf cf pt ct hrt h8 hfo hidx ho hnl hll hE0 hXL hOn hOi ha hfr hfk ht htk
    obtain ⟨f, q, rfl⟩ : ∃ f q, fr = f :: q := by
      cases fr with
      | nil => have := hfo.1; simp at this
      | cons f q => exact ⟨f, q, rfl⟩
    have hr' := rightGo_tail hrt
    have h8' : r.length ≤ 8 := by simp at h8; omega
    have hfr8 := FrOk.right (f :: q) (d :: r) 1 1 hfo (by omega) (by omega) hrt
    have hq := rightGo_tail hfr8
    have hql : q.length ≤ 8 := by rw [hfo.tail.1]; exact h8'
    have hf := hfo.head
    have hszq := size_prodA hq hql
    have hszr := size_prodA hr' h8'
    have hq0 := prodA_nonneg q 1 (by omega) hq
    have hr0 := prodA_nonneg r 1 (by omega) hr'
    have hqh := shapeSize_hi q
    have hrh := shapeSize_hi r
    have hpc := prodA_cons_nat hrt
    have hidx2 := fun (i : Nat) (h1 : (i : Int) < f) (h2 : 0 < prodA 1 q) => rput_idx hfr8 hidx h1 h2
    have hlen := fun (o : Nat) => rput_len (fun i => na.getD i 0) (padN ka) r q o hr' h8' hfo.tail
    have hlenI := fun (o : Nat) => rput_len (fun i => ia.getD i default) padI r q o hr' h8' hfo.tail
    have hfot := hfo.tail
    obtain ⟨b7, o7, rfl, a7, hd1, hd2⟩ := ht.get (i := 0) (by simp)
    obtain ⟨b8, o8, rfl, a8, hf1, hf2⟩ := hfr.get (i := 0) (by simp)
    simp only [List.getD_cons_zero, Nat.add_zero] at a7 a8 hd1 hd2 hf1 hf2
    obtain ⟨dn, rfl⟩ := Int.eq_ofNat_of_zero_le (show 0 ≤ d by omega)
    have hct := ht.cut (n := r.length) 1 ct htk.1
    have hcf := hfr.cut (n := q.length) 1 cf hfk.1
    simp only [List.drop_succ_cons, List.drop_zero, List.take_length] at hct hcf
    have hb7 : (fun q => X q ∨ q < w0.heap.size) b7 := by obtain ⟨b', o', e, hb, _⟩ := ht 0 (by simp); simp only [Option.some.injEq, Addr.mk.injEq] at e; rw [e.1]; exact hb
    have hb8 : (fun q => X q ∨ q < w0.heap.size) b8 := by obtain ⟨b', o', e, hb, _⟩ := hfr 0 (by simp); simp only [Option.some.injEq, Addr.mk.injEq] at e; rw [e.1]; exact hb
    have hrdt : ∀ w, (Instr.sliceAt 23 (.slice (some ⟨b7, o7, none⟩) ((dn : Int) :: r).length ct) (some (.int .i64 1)) none none).run Try.prog w = .ok (.slice (cutAt (some ⟨b7, o7, none⟩) 1 ct 1) (((dn : Int) :: r).length - 1) (ct - 1)) w := fun w => slice_l (some ⟨b7, o7, none⟩) ((dn : Int) :: r).length ct w 1 (by simp)
    have hrdf : ∀ w, (Instr.sliceAt 23 (.slice (some ⟨b8, o8, none⟩) (f :: q).length cf) (some (.int .i64 1)) none none).run Try.prog w = .ok (.slice (cutAt (some ⟨b8, o8, none⟩) 1 cf 1) ((f :: q).length - 1) (cf - 1)) w := fun w => slice_l (some ⟨b8, o8, none⟩) (f :: q).length cf w 1 (by simp)
    rw [show ((dn : Int) :: r).length - 1 = r.length by simp] at hrdt
    rw [show (f :: q).length - 1 = q.length by simp] at hrdf
    obtain ⟨s7, hs7⟩ : ∃ s7, ((dn : Int) :: r).length = s7 := ⟨_, rfl⟩
    obtain ⟨s8, hs8⟩ : ∃ s8, (f :: q).length = s8 := ⟨_, rfl⟩
    have hs70 : 0 < s7 := by rw [← hs7]; simp
    have hs80 : 0 < s8 := by rw [← hs8]; simp
    have htd : SlOk r.length (ct - 1) := by obtain ⟨x1, x2, x3⟩ := htk; simp only [List.length_cons] at x1; exact ⟨by omega, by omega, by omega⟩
    have hfd : SlOk q.length (cf - 1) := by obtain ⟨x1, x2, x3⟩ := hfk; simp only [List.length_cons] at x1; exact ⟨by omega, by omega, by omega⟩
    rw [hs7] at hrdt htk h8 ⊢
    rw [hs8] at hrdf hfk ⊢
    obtain ⟨h7, h7', h7''⟩ := htk
    obtain ⟨h9, h9', h9''⟩ := hfk
    generalize cutAt (some ⟨b7, o7, none⟩) 1 ct 1 = p7 at *
    generalize cutAt (some ⟨b8, o8, none⟩) 1 cf 1 = p8 at *
    generalize ct - 1 = ct' at *
    generalize cf - 1 = cf' at *
    have HCT := Lib.hid hct
    have HCF := Lib.hid hcf
    have HFOT := Lib.hid hfot
    have HFO := Lib.hid (And.intro hr' hq)
    have HIDX := Lib.hid hidx2
    have HLEN := Lib.hid hlen
    have HLENI := Lib.hid hlenI
    have HSZ := Lib.hid (And.intro hszq hszr)
    obtain ⟨P, hP⟩ : ∃ P : Nat, (prodA 1 r).toNat = P := ⟨_, rfl⟩
    rw [hP] at hpc
    have hP2 : P ≤ 65536 := by omega
    rw [hpc, Int.toNat_natCast] at hnl hll
    have HP := Lib.hid hP
    obtain ⟨rn, hrn⟩ : ∃ rn, (if ka = 3 then n else n ++ rputV (fun i => na.getD i 0) (padN ka) (f :: q) ((dn : Int) :: r) o) = rn := ⟨_, rfl⟩
    obtain ⟨rl, hrl⟩ : ∃ rl, (if ka = 3 then l ++ rputV (fun i => ia.getD i default) padI (f :: q) ((dn : Int) :: r) o else l) = rl := ⟨_, rfl⟩
    rw [hrn, hrl]
    rw [← rpPart_all, Int.toNat_natCast] at hrn hrl
    have HRN := Lib.hid hrn
    have HRL := Lib.hid hrl
    clear hrn hrl hct hcf hfot hr' hq hidx2 hlen hlenI hP hidx hfo hfr8 hrt hpc hfr ht hs7 hs8
    obtain ⟨zq, hzq⟩ : ∃ zq : Nat, shapeSize q = zq := ⟨(shapeSize q).toNat, by omega⟩
    obtain ⟨zr, hzr⟩ : ∃ zr : Nat, shapeSize r = zr := ⟨(shapeSize r).toNat, by omega⟩
    have HZQ := Lib.hid hzq
    have HZR := Lib.hid hzr
    have hzb : zq ≤ 65536 ∧ zr ≤ 65536 := by omega
    have HQ0 := Lib.hid (And.intro hq0 hr0)
    clear hszq hszr hq0 hr0 hqh hrh hzq hzr
    obtain ⟨pv2, cv2, rfl, _⟩ := hOn.form
    obtain ⟨pv3, cv3, rfl, _, _⟩ := hOi.items (by omega)
    have ha' := ha
    unfold ArrAt at ha'
    obtain ⟨rfl, hka, ⟨p1, m1, rfl, ⟨o1, o1', o1''⟩, i1⟩, ⟨p2, m2, rfl, ⟨o2, o2', o2''⟩, i2⟩, ⟨p3, m3, rfl, ⟨o3, o3', o3''⟩, i3⟩⟩ := ha'
    have HA := Lib.hid ha
    have HE0 := Lib.hid hE0
    have HXL := Lib.hid hXL
    have HOn := Lib.hid hOn
    have HOi := Lib.hid hOi
    have HI2 := Lib.hid i2
    have HI3 := Lib.hid i3
    clear ha hE0 hXL hOn hOi i1 i2 i3
    go_enter Try.func84, Try.ntmps84
    have hE1 : Ext w (((w.alloc (.cells #[.int .i64 k, (Value.slice pv1 lv1 cv1), (Value.slice pv2 n.length cv2), (Value.slice pv3 l.length cv3)] 26)).alloc (.cells #[.int .i64 ka, .slice p1 sa.length m1, .slice p2 na.length m2, .slice p3 ia.length m3] 26)).alloc (.cells #[.int .i64 0, .slice none 0 0, .slice none 0 0, .slice none 0 0] 26)) := (((Ext.refl _).alloc _).alloc _).alloc _
    have hb5 := (box_new w (.int .i64 k) (Value.slice pv1 lv1 cv1) (Value.slice pv2 n.length cv2) (Value.slice pv3 l.length cv3)).ext (((Ext.refl _).alloc (.cells #[.int .i64 ka, .slice p1 sa.length m1, .slice p2 na.length m2, .slice p3 ia.length m3] 26)).alloc (.cells #[.int .i64 0, .slice none 0 0, .slice none 0 0, .slice none 0 0] 26))
    have hb6 := (box_new (w.alloc (.cells #[.int .i64 k, (Value.slice pv1 lv1 cv1), (Value.slice pv2 n.length cv2), (Value.slice pv3 l.length cv3)] 26)) (.int .i64 ka) (.slice p1 sa.length m1) (.slice p2 na.length m2) (.slice p3 ia.length m3)).ext ((Ext.refl _).alloc (.cells #[.int .i64 0, .slice none 0 0, .slice none 0 0, .slice none 0 0] 26))
    have hb10 := box_new ((w.alloc (.cells #[.int .i64 k, (Value.slice pv1 lv1 cv1), (Value.slice pv2 n.length cv2), (Value.slice pv3 l.length cv3)] 26)).alloc (.cells #[.int .i64 ka, .slice p1 sa.length m1, .slice p2 na.length m2, .slice p3 ia.length m3] 26)) (.int .i64 0) (.slice none 0 0) (.slice none 0 0) (.slice none 0 0)
    rw [World.size_alloc] at hb6 hb10
    rw [World.size_alloc] at hb10
    have HE1 := Lib.hid hE1
    have HB5 := Lib.hid hb5
    have HB6 := Lib.hid hb6
    have HB10 := Lib.hid hb10
    obtain ⟨s0, s1, s2, s3⟩ := hb6.cell
    clear hE1 hb5 hb6 hb10
    go_wp2_with fail
    generalize hww : (((w.alloc (.cells #[.int .i64 k, (Value.slice pv1 lv1 cv1), (Value.slice pv2 n.length cv2), (Value.slice pv3 l.length cv3)] 26)).alloc (.cells #[.int .i64 ka, .slice p1 sa.length m1, .slice p2 na.length m2, .slice p3 ia.length m3] 26)).alloc (.cells #[.int .i64 0, .slice none 0 0, .slice none 0 0, .slice none 0 0] 26)) = w1 at *
    clear hww
    refine (rfill_any _ (.mk ka sa na ia) _ _ _ _ w1 (HA.out.ext HE1.out)).mono ?_
    rintro e w3 ⟨e0, e1, e2, e3, rfl, hF, hE3⟩
    obtain ⟨fk, f1, fl1, fc1, f2, fl2, fc2, f3, fl3, fc3, rfl, rfl, rfl, rfl⟩ := hF.form
    clear s0 s1 s2 s3
    have hEn : Ext w1 (w3.alloc (.cells #[.int .i64 fk, .slice f1 fl1 fc1, .slice f2 fl2 fc2, .slice f3 fl3 fc3] 26)) := hE3.alloc _
    have hE13 := HE1.out.trans hE3
    have hB6l := (HB10.out.ext hE3).lt
    have HBf := Lib.hid (box_new w3 (.int .i64 fk) (.slice f1 fl1 fc1) (.slice f2 fl2 fc2) (.slice f3 fl3 fc3))
    have HAf := Lib.hid (hF.ext ((Ext.refl _).alloc (.cells #[.int .i64 fk, .slice f1 fl1 fc1, .slice f2 fl2 fc2, .slice f3 fl3 fc3] 26)))
    have HE2 := Lib.hid (HE1.out.trans hEn)
    have HBo := Lib.hid (HB5.out.ext hEn)
    have HBa := Lib.hid (HB6.out.ext hEn)
    have HBr := Lib.hid (HB10.out.ext hEn)
    have hbf : w.heap.size + 2 < w3.heap.size ∧ w3.heap.size < (w3.alloc (.cells #[.int .i64 fk, .slice f1 fl1 fc1, .slice f2 fl2 fc2, .slice f3 fl3 fc3] 26)).heap.size := ⟨hB6l, by rw [World.size_alloc]; omega⟩
    have HW1 := Lib.hid (show w.heap.size ≤ w1.heap.size from HE1.out.lt)
    have HW1s := Lib.hid (show w.heap.size < w1.heap.size from HB5.out.lt)
    have HBF := Lib.hid hbf
    clear hE3 hF hEn HB5 HB6 HB10 hE13 hB6l hbf
    go_upto_region 2 with (fail)
    generalize hbf : w3.heap.size = bf at *
    generalize w3.alloc (.cells #[.int .i64 fk, .slice f1 fl1 fc1, .slice f2 fl2 fc2, .slice f3 fl3 fc3] 26) = w4 at *
    clear hbf HE1
    have hle : w0.heap.size ≤ w.heap.size := HE0.out.lt
    have hM : MkB w0 w4 (fun x => X x ∨ (w.heap.size ≤ x ∧ x < w4.heap.size)) w.heap.size k (Value.slice pv1 lv1 cv1) (Value.slice pv2 n.length cv2) (Value.slice pv3 l.length cv3) n l := by
      have h2 := HBF.out
      refine ⟨HE0.out.trans HE2.out, hle, HBo.out, .inr ⟨Nat.le_refl _, by omega⟩, fun x hx => ?_, ?_, ?_⟩
      · rcases hx with hx | hx
        · have := HXL.out x hx; omega
        · exact hx.2
      · refine (HOn.out.same (Y := fun x => (fun x => X x ∨ (w.heap.size ≤ x ∧ x < w4.heap.size)) x ∨ (Value.slice pv3 l.length cv3).ownBlock = some x) (w' := w) fun g _ hlt hx => ⟨rfl, ?_⟩).ext HE2.out
        rintro ((h | h) | h)
        · exact hx (.inl h)
        · omega
        · exact hx (.inr h)
      · refine (HOi.out.same (Y := fun x => (fun x => X x ∨ (w.heap.size ≤ x ∧ x < w4.heap.size)) x ∨ (Value.slice pv2 n.length cv2).ownBlock = some x) (w' := w) fun g hlt _ hx => ⟨rfl, ?_⟩).ext HE2.out
        rintro ((h | h) | h)
        · exact hx (.inl h)
        · omega
        · exact hx (.inr h)
    have hZX : ∀ q, (fun q => X q ∨ q < w0.heap.size) q → (fun q => ((X q ∨ (w.heap.size ≤ q ∧ q < w4.heap.size)) ∧ q ≠ w.heap.size) ∨ q < w0.heap.size) q := fun q hq => hq.imp (fun h => ⟨.inl h, by have := HXL.out q h; omega⟩) id
    have HM := Lib.hid hM
    have HZX := Lib.hid hZX
    have HA4 := Lib.hid (ArrAt.mono (G := (fun q => ((X q ∨ (w.heap.size ≤ q ∧ q < w4.heap.size)) ∧ q ≠ w.heap.size) ∨ q < w0.heap.size)) (w' := w4) (fun q hq hlt => ⟨HZX.out q hq, HE2.out.block hlt⟩) _ _ _ _ _ HA.out)
    clear hM hZX HA HOn HOi HBo
    have HCT4 := Lib.hid (HCT.out.mono (G := (fun q => ((X q ∨ (w.heap.size ≤ q ∧ q < w4.heap.size)) ∧ q ≠ w.heap.size) ∨ q < w0.heap.size)) (w' := w4) fun q hq hlt => ⟨HZX.out q hq, HE2.out.block hlt⟩)
    have HCF4 := Lib.hid (HCF.out.mono (G := (fun q => ((X q ∨ (w.heap.size ≤ q ∧ q < w4.heap.size)) ∧ q ≠ w.heap.size) ∨ q < w0.heap.size)) (w' := w4) fun q hq hlt => ⟨HZX.out q hq, HE2.out.block hlt⟩)
    replace a7 := HE2.out.cell a7
    replace a8 := HE2.out.cell a8
    have HB7 := Lib.hid (HZX.out _ hb7)
    have HB8 := Lib.hid (HZX.out _ hb8)
    have HAF4 : Hid (ArrAt (fun q => ((X q ∨ (w.heap.size ≤ q ∧ q < w4.heap.size)) ∧ q ≠ w.heap.size) ∨ q < w0.heap.size) w4 (fillV (.mk ka sa na ia)) (.int .i64 fk) (.slice f1 fl1 fc1) (.slice f2 fl2 fc2) (.slice f3 fl3 fc3)) := Lib.hid (ArrAt.mono (fun q hq hlt => ⟨.inl ⟨.inr ⟨by have := HW1.out; omega, hlt⟩, by have := HW1s.out; omega⟩, rfl⟩) _ _ _ _ _ HAf.out)
    have hm5 : (fun x => X x ∨ (w.heap.size ≤ x ∧ x < w4.heap.size)) w.heap.size := HM.out.xb
    have hm6 : (fun x => X x ∨ (w.heap.size ≤ x ∧ x < w4.heap.size)) (w.heap.size + 1) := .inr ⟨by omega, by have := HBF.out; omega⟩
    have hmf : (fun x => X x ∨ (w.heap.size ≤ x ∧ x < w4.heap.size)) bf := .inr ⟨by have := HBF.out; omega, (HBF.out).2⟩
    have hzf : bf ≠ w.heap.size := by have := HBF.out; omega
    have HM5 := Lib.hid hm5
    have HM6 := Lib.hid hm6
    have HMF := Lib.hid (And.intro hmf hzf)
    clear HCT HCF HAf hb7 hb8 HZX hm5 hm6 hmf hzf
    go_wp2_with fail
    refine (r2size_any (fun q => ((X q ∨ (w.heap.size ≤ q ∧ q < w4.heap.size)) ∧ q ≠ w.heap.size) ∨ q < w0.heap.size) p8 cf' q w4 HCF4.out (by unfold lenMax; omega)).mono ?_
    rintro e w5 ⟨rfl, rfl⟩
    rw [HZQ.out]
    go_wp2_with fail
    have HA7 := Lib.hid a7
    have HA8 := Lib.hid a8
    clear a7 a8
    go_loopw [13] (fun iv wr => ∃ (i : Nat) (u2 u3 : Value) (n' : List Int) (l' : List Arr), iv = .int .i64 (i : Int) ∧ i ≤ dn ∧ MkB w0 wr (fun x => X x ∨ (w.heap.size ≤ x ∧ x < w4.heap.size)) w.heap.size k (Value.slice pv1 lv1 cv1) u2 u3 n' l' ∧ Kp w0 (fun x => (X x ∨ (w.heap.size ≤ x ∧ x < w4.heap.size)) ∧ x ≠ w.heap.size) w4 wr ∧ n'.length ≤ n.length + i * P ∧ l'.length ≤ l.length + i * P ∧ Hid ((if ka = 3 then n else n ++ rpPart (fun i => na.getD i 0) (padN ka) (f :: q) r o i) = n') ∧ Hid ((if ka = 3 then l ++ rpPart (fun i => ia.getD i default) padI (f :: q) r o i else l) = l')) (fun iv _ => dn - (intOf iv).toNat)
    case atStart => exact ⟨0, _, _, n, l, rfl, Nat.zero_le _, HM.out, Kp.refl HM.out.ext, by omega, by omega, Lib.hid (by simp [rpPart]), Lib.hid (by simp [rpPart])⟩
    case round =>
    obtain ⟨i, u2, u3, n', l', rfl, hid, hMr, hkr, hnl', hll', HNi, HLi⟩ := hrel
    obtain ⟨wo, rfl⟩ : ∃ wo : World, wo = wr := ⟨_, rfl⟩
    have hip : i * P ≤ dn * P := Nat.mul_le_mul_right _ hid
    obtain ⟨pv2', cv2', rfl, _⟩ := hMr.on.form
    obtain ⟨pv3', cv3', rfl, _, _⟩ := hMr.oi.items (by omega)
    have HMr := Lib.hid hMr
    have HKr := Lib.hid hkr
    have a7 := hkr.cell HB7.out HA7.out
    have a8 := hkr.cell HB8.out HA8.out
    clear hMr hkr HM
    by_cases hlt : i < dn
    rotate_left
    · have hie : i = dn := by omega
      have hge : ¬ ((i : Int) < (dn : Int)) := by omega
      obtain rfl : n' = rn := by rw [← HNi.out, ← HRN.out, hie]
      obtain rfl : l' = rl := by rw [← HLi.out, ← HRL.out, hie]
      have hM8 := HMr.out
      have hkp := HKr.out
      clear hie
      obtain ⟨r0, r1, r2, r3⟩ := hM8.box.cell
      have hb10 : w.heap.size < w.heap.size + 1 + 1 ∧ w.heap.size + 1 + 1 < w4.heap.size := by have := HBF.out; omega
      have hbr9 := hkp.box (b := w.heap.size + 1 + 1) ⟨.inr ⟨by omega, hb10.2⟩, by omega⟩ HBr.out
      obtain ⟨x0, x1, x2, x3⟩ := hbr9.cell
      have y0 := hbr9.free 0
      have y1 := hbr9.free 1
      have y2 := hbr9.free 2
      have y3 := hbr9.free 3
      obtain ⟨gg3, gg4, gg5⟩ := hbr9.put4 hM8.ext (by omega) (.int .i64 k) (Value.slice pv1 lv1 cv1) (.slice pv2' n'.length cv2') (.slice pv3' l'.length cv3')
      have HP := Lib.hid (And.intro (rput_end hle HXL.out hM8 hkp HE2.out gg3 gg5 hb10) gg4)
      clear gg3 gg4 gg5 hbr9 hM8 hkp
      go_wp2_with fail
      obtain ⟨⟨hO1, hO2, hK1⟩, gg4⟩ := HP.out
      clear HP
      generalize ((((wo.setCell ⟨w.heap.size + 1 + 1, 0, none⟩ (.int .i64 k)).setCell ⟨w.heap.size + 1 + 1, 1, none⟩ (Value.slice pv1 lv1 cv1)).setCell ⟨w.heap.size + 1 + 1, 2, none⟩ (.slice pv2' n'.length cv2')).setCell ⟨w.heap.size + 1 + 1, 3, none⟩ (.slice pv3' l'.length cv3')) = w10 at *
      obtain ⟨z0, z1, z2, z3⟩ := gg4.cell
      refine bodyPost_ret (v := .agg #[.int .i64 k, (Value.slice pv1 lv1 cv1), (.slice pv2' n'.length cv2'), (.slice pv3' l'.length cv3')]) ?_ rfl ⟨_, _, rfl, hO1, hO2, hK1⟩
      simp [results, Try.results84, go_sem, z0, z1, z2, z3]
    · have hin : (i : Int) < (dn : Int) := by omega
      by_cases hc : (i : Int) < f ∧ 0 < zq
      · obtain ⟨hcf, hcz⟩ := hc
        have hcz' : (0 : Int) < (zq : Int) := by omega
        have hQ : prodA 1 q = (zq : Int) := by rw [← (HSZ.out).1]; exact HZQ.out
        have hix := HIDX.out i hcf (by rw [hQ]; omega)
        rw [hQ, Int.toNat_natCast] at hix
        obtain ⟨m, hm⟩ : ∃ m : Nat, i * zq = m := ⟨_, rfl⟩
        rw [hm] at hix
        have hmi : (i : Int) * (zq : Int) = (m : Int) := by rw [← hm, Int.natCast_mul]
        have hw1 : IntKind.i64.wrap ((i : Int) * (zq : Int)) = (m : Int) := by rw [hmi]; exact IntWalk.i64_in _ (by omega)
        obtain ⟨om, hom⟩ : ∃ om : Nat, o + m = om := ⟨_, rfl⟩
        have hw2 : IntKind.i64.wrap ((o : Int) + (m : Int)) = (om : Int) := by rw [show (o : Int) + (m : Int) = (om : Int) by omega]; exact IntWalk.i64_in _ (by omega)
        have hidx3 : 0 < prodA 1 q → om + (prodA 1 q).toNat ≤ if ka = 3 then ia.length else na.length := fun _ => by rw [hQ, Int.toNat_natCast]; omega
        have hom6 : om ≤ 65536 := by omega
        have HOM := Lib.hid (show o + i * zq = om by omega)
        have HIX := Lib.hid hidx3
        have hsn := (i + 1) * P
        have hi1 : i * P + P ≤ dn * P := by rw [← Nat.succ_mul]; exact Nat.mul_le_mul_right _ (by omega)
        have hn9 : n'.length + P ≤ 200000 ∧ l'.length + P ≤ 200000 := by omega
        clear hmi hm hom hQ hidx3 hix hsn
        obtain ⟨s0, s1, s2, s3⟩ := (HKr.out.box ⟨HM6.out, by omega⟩ HBa.out).cell
        obtain ⟨r0, r1, r2, r3⟩ := HMr.out.box.cell
        go_wp2_with fail
        have hS0 : Kp w0 (fun x => X x ∨ (w.heap.size ≤ x ∧ x < w4.heap.size)) wo wo.drew := Kp.of_ext HMr.out.ext HMr.out.xl ((Ext.refl _).drew)
        refine wp_region_g [0, 1, 2, 3, 4, 5, 6, 7, 8, 9, 10] [11, 12] (fun w' => Kp w0 (fun x => X x ∨ (w.heap.size ≤ x ∧ x < w4.heap.size)) wo w') (by kernel_rfl) (by kernel_rfl) hS0 ?_
        iterate 11
          refine wpHead_cons (v := ?_) rfl (by rfl) (fun w' hS => ?_) ?_
          rotate_left
          · have y0 := hS.cell (.inl HM6.out) s0
            have y1 := hS.cell (.inl HM6.out) s1
            have y2 := hS.cell (.inl HM6.out) s2
            have y3 := hS.cell (.inl HM6.out) s3
            have z0 := hS.cell (.inl HM5.out) r0
            have z1 := hS.cell (.inl HM5.out) r1
            have z2 := hS.cell (.inl HM5.out) r2
            have z3 := hS.cell (.inl HM5.out) r3
            go_simp
            try with_reducible rfl
          try simp only [Act.put, List.setIfInBounds_toArray, List.set]
        unfold wpHead
        refine wpTail_cons rfl (fun K hK => ?_)
        clear s0 s1 s2 s3
        go_wp2_with fail
        have hdr : Ext wo wo.drew := (Ext.refl _).drew
        refine (ih q om _ (fun x => X x ∨ (w.heap.size ≤ x ∧ x < w4.heap.size)) pv1 lv1 cv1 _ _ n' l' _ _ _ _ p8 cf' p7 ct' HFO.out.1 h8' HFOT.out HIX.out hom6 (by rw [HP.out]; omega) (by rw [HP.out]; omega) hS0.1 (fun q hq => Nat.lt_of_lt_of_le (HMr.out.xl q hq) hdr.lt) (HMr.out.on.ext hdr) (HMr.out.oi.ext hdr)
          (ArrAt.mono (fun q hq _ => ⟨hq.imp And.left id, rfl⟩) _ _ _ _ _ ((HKr.out.arr (fun _ h => h) HA4.out).ext hdr)) (((HKr.out.ints (fun _ h => h) HCF4.out).ext hdr).mono fun q hq _ => ⟨hq.imp And.left id, rfl⟩) hfd (((HKr.out.ints (fun _ h => h) HCT4.out).ext hdr).mono fun q hq _ => ⟨hq.imp And.left id, rfl⟩) htd).mono ?_
        rintro e w8 ⟨v4, v5, rfl, hO1, hO2, hK1⟩
        have hn2l : (if ka = 3 then n' else n' ++ rputV (fun i => na.getD i 0) (padN ka) q r om).length ≤ n'.length + P := by split <;> first | omega | (rw [List.length_append, HLEN.out om, HP.out]; omega)
        have hl2l : (if ka = 3 then l' ++ rputV (fun i => ia.getD i default) padI q r om else l').length ≤ l'.length + P := by split <;> first | omega | (rw [List.length_append, HLENI.out om, HP.out]; omega)
        have hN2 : (if ka = 3 then n else n ++ rpPart (fun i => na.getD i 0) (padN ka) (f :: q) r o (i + 1)) = (if ka = 3 then n' else n' ++ rputV (fun i => na.getD i 0) (padN ka) q r om) := by
          have hni := HNi.out
          by_cases h3 : ka = 3
          · rw [if_pos h3] at hni; rw [if_pos h3, if_pos h3, hni]
          · rw [if_neg h3] at hni; rw [if_neg h3, if_neg h3, ← hni, rpPart_succ, List.headD_cons, List.tail_cons, if_pos ⟨hcf, by rw [HZQ.out]; exact hcz'⟩, HZQ.out, Int.toNat_natCast, HOM.out, List.append_assoc]
        have hL2 : (if ka = 3 then l ++ rpPart (fun i => ia.getD i default) padI (f :: q) r o (i + 1) else l) = (if ka = 3 then l' ++ rputV (fun i => ia.getD i default) padI q r om else l') := by
          have hni := HLi.out
          by_cases h3 : ka = 3
          · rw [if_pos h3] at hni; rw [if_pos h3, if_pos h3, ← hni, rpPart_succ, List.headD_cons, List.tail_cons, if_pos ⟨hcf, by rw [HZQ.out]; exact hcz'⟩, HZQ.out, Int.toNat_natCast, HOM.out, List.append_assoc]
          · rw [if_neg h3] at hni; rw [if_neg h3, if_neg h3, hni]
        generalize (if ka = 3 then n' else n' ++ rputV (fun i => na.getD i 0) (padN ka) q r om) = n2 at *
        generalize (if ka = 3 then l' ++ rputV (fun i => ia.getD i default) padI q r om else l') = l2 at *
        have HN2 := Lib.hid hN2
        have HL2 := Lib.hid hL2
        clear hN2 hL2
        obtain ⟨pv4, cv4, rfl, _⟩ := hO1.form
        obtain ⟨pv5, cv5, rfl, _, _⟩ := hO2.items (by omega)
        have hK8 : Kp w0 (fun x => X x ∨ (w.heap.size ≤ x ∧ x < w4.heap.size)) wo w8 := hS0.trans hK1
        go_wp2_with fail
        refine hK _ _ hK8 ?_
        try simp only [Act.put, List.setIfInBounds_toArray, List.set]
        refine wpTail_free1 rfl (by kernel_rfl) ?_
        have hbx8 := hK8.box HM5.out HMr.out.box
        obtain ⟨x0, x1, x2, x3⟩ := hbx8.cell
        have y0 := hbx8.free 0
        have y1 := hbx8.free 1
        have y2 := hbx8.free 2
        have y3 := hbx8.free 3
        obtain ⟨gg1, gg2, gg3⟩ := hbx8.put4 hK8.1 hle (.int .i64 k) (Value.slice pv1 lv1 cv1) (.slice pv4 n2.length cv4) (.slice pv5 l2.length cv5)
        have HPS := Lib.hid (put_store HMr.out hK8 hO1 hO2 gg1 gg2 gg3)
        clear gg1 gg2 gg3 hbx8 hK8 hK1 hO1 hO2 hS0 r0 r1 r2 r3
        go_wp2_with fail
        refine OnlyN.mk ?_
        obtain ⟨hM8, hkp⟩ := HPS.out
        clear HPS x0 x1 x2 x3 y0 y1 y2 y3 hw1 hw2
        generalize ((((w8.setCell ⟨w.heap.size, 0, none⟩ (.int .i64 k)).setCell ⟨w.heap.size, 1, none⟩ (Value.slice pv1 lv1 cv1)).setCell ⟨w.heap.size, 2, none⟩ (.slice pv4 n2.length cv4)).setCell ⟨w.heap.size, 3, none⟩ (.slice pv5 l2.length cv5)) = w9 at *
        go_wp2_with fail
        go_roundw
        case rel => exact ⟨i + 1, _, _, n2, l2, by go_num, by omega, hM8, HKr.out.trans hkp, by rw [Nat.succ_mul]; omega, by rw [Nat.succ_mul]; omega, HN2, HL2⟩
        case measure => simp [intOf]; omega
      · go_upto_region 11 with (fail)
        go_cut [63] (fun v wx => v = .bool false ∧ wo = wx)
        case first =>
          by_cases hif : (i : Int) < f
          · have hz0 : ¬ ((0 : Int) < (zq : Int)) := fun h => hc ⟨hif, by omega⟩
            go_wp2_with fail
            go_meet
            case rel => exact ⟨by simp; omega, rfl⟩
          · go_wp2_with fail
            go_meet
            case rel => exact ⟨rfl, rfl⟩
        case rest =>
          obtain ⟨rfl, rfl⟩ := hcut
          have hzP : P = zr := by rw [← HP.out, ← (HSZ.out).2, HZR.out, Int.toNat_natCast]
          have hi1 : i * P + P ≤ dn * P := by rw [← Nat.succ_mul]; exact Nat.mul_le_mul_right _ (by omega)
          have hnc : ¬ ((i : Int) < f ∧ 0 < shapeSize q) := fun h => hc ⟨h.1, by have h2 := h.2; rw [HZQ.out] at h2; omega⟩
          have HNC := Lib.hid hnc
          have HZP := Lib.hid hzP
          have hnb : n'.length + zr ≤ 200000 ∧ l'.length + zr ≤ 200000 := by omega
          clear a8 hc hnc hzP
          go_wp2_with fail
          go_loopw [14] (fun jv wq => ∃ (j : Nat) (u2 u3 : Value) (n2 : List Int) (l2 : List Arr), jv = .int .i64 (j : Int) ∧ j ≤ zr ∧ MkB w0 wq (fun x => X x ∨ (w.heap.size ≤ x ∧ x < w4.heap.size)) w.heap.size k (Value.slice pv1 lv1 cv1) u2 u3 n2 l2 ∧ Kp w0 (fun x => (X x ∨ (w.heap.size ≤ x ∧ x < w4.heap.size)) ∧ x ≠ w.heap.size) w4 wq ∧ n2.length ≤ n'.length + j ∧ l2.length ≤ l'.length + j ∧ Hid ((if ka = 3 then n' else n' ++ List.replicate j (padN ka)) = n2) ∧ Hid ((if ka = 3 then l' ++ List.replicate j padI else l') = l2)) (fun jv _ => zr - (intOf jv).toNat)
          case atStart => exact ⟨0, _, _, n', l', rfl, Nat.zero_le _, HMr.out, HKr.out, by omega, by omega, Lib.hid (by simp), Lib.hid (by simp)⟩
          case round =>
          obtain ⟨j, x2, x3, n2, l2, rfl, hjz, hMj, hkj, hn2, hl2, HN2, HL2⟩ := hrel
          obtain ⟨wi, rfl⟩ : ∃ wi : World, wi = wr := ⟨_, rfl⟩
          have HMj := Lib.hid hMj
          have HKj := Lib.hid hkj
          clear hMj hkj HMr HKr a7
          go_wp2_with fail
          refine (r2size_any (fun q => ((X q ∨ (w.heap.size ≤ q ∧ q < w4.heap.size)) ∧ q ≠ w.heap.size) ∨ q < w0.heap.size) p7 ct' r wi (HKj.out.ints (fun _ h => h) HCT4.out) (by unfold lenMax; omega)).mono ?_
          rintro e w5' ⟨rfl, rfl⟩
          rw [HZR.out]
          by_cases hjl : j < zr
          rotate_left
          · have hjn : ¬ ((j : Int) < (zr : Int)) := by omega
            have hje : j = zr := by omega
            have hN3 : (if ka = 3 then n else n ++ rpPart (fun i => na.getD i 0) (padN ka) (f :: q) r o (i + 1)) = n2 := by
              have hni := HNi.out
              have hn2 := HN2.out
              by_cases h3 : ka = 3
              · rw [if_pos h3] at hni hn2; rw [if_pos h3, hni, hn2]
              · rw [if_neg h3] at hni hn2; rw [if_neg h3, rpPart_succ, ← hn2, ← hni, List.headD_cons, List.tail_cons, if_neg HNC.out, HZR.out, Int.toNat_natCast, hje, List.append_assoc]
            have hL3 : (if ka = 3 then l ++ rpPart (fun i => ia.getD i default) padI (f :: q) r o (i + 1) else l) = l2 := by
              have hni := HLi.out
              have hn2 := HL2.out
              by_cases h3 : ka = 3
              · rw [if_pos h3] at hni hn2; rw [if_pos h3, rpPart_succ, ← hn2, ← hni, List.headD_cons, List.tail_cons, if_neg HNC.out, HZR.out, Int.toNat_natCast, hje, List.append_assoc]
              · rw [if_neg h3] at hni hn2; rw [if_neg h3, hni, hn2]
            have HN3 := Lib.hid hN3
            have HL3 := Lib.hid hL3
            clear hN3 hL3 hje
            go_wp2_with fail
            go_roundw
            case rel => exact ⟨i + 1, _, _, n2, l2, by go_num, by omega, HMj.out, HKj.out, by have hzp := HZP.out; rw [Nat.succ_mul]; omega, by have hzp := HZP.out; rw [Nat.succ_mul]; omega, HN3, HL3⟩
            case measure => simp [intOf]; omega
          have hjn : (j : Int) < (zr : Int) := by omega
          obtain ⟨s0, s1, s2, s3⟩ := (HKj.out.box ⟨HM6.out, by omega⟩ HBa.out).cell
          obtain ⟨g0, g1, g2, g3⟩ := (HKj.out.box HMF.out HBf.out).cell
          obtain ⟨sf, nf, jf, hfe, hfn, hfi⟩ := fill_parts ka sa na ia hk
          have haf := HAF4.out
          rw [hfe] at haf
          unfold ArrAt at haf
          obtain ⟨e0, _, _, ⟨_, _, e2, hkf2, hif2⟩, ⟨_, _, e3, hkf3, hif3⟩⟩ := haf
          cases e2
          cases e3
          have hbz : (fun x => (X x ∨ (w.heap.size ≤ x ∧ x < w4.heap.size)) ∧ x ≠ w.heap.size) bf := HMF.out
          by_cases hk3 : ka = 3
          · have hk3' : (ka == 3) = true := by simpa using hk3
            obtain ⟨hf0, hf1⟩ := hfi hk3
            have hxe : jf.getD 0 default = jf[0] := by rw [List.getD, List.getElem?_eq_getElem hf0]; rfl
            rw [hxe] at hf1
            obtain ⟨bi, off, d0, d1, d2, d3, hp3, hbv, q0, q1, q2, q3, hx⟩ := ItemsAt.get jf _ 0 0 hif3 hf0
            simp only [Nat.zero_add, Nat.zero_mul, Nat.add_zero] at q0 q1 q2 q3
            subst hp3
            rw [hf1] at hx
            have hx4 := HKj.out.arr (fun _ h => h) hx
            replace q0 := HKj.out.cell hbv q0
            replace q1 := HKj.out.cell hbv q1
            replace q2 := HKj.out.cell hbv q2
            replace q3 := HKj.out.cell hbv q3
            have hL3 : (if ka = 3 then l' ++ List.replicate (j + 1) padI else l') = l2 ++ [padI] := by
              have hn2 := HL2.out
              rw [if_pos hk3] at hn2
              rw [if_pos hk3, ← hn2, List.replicate_succ', List.append_assoc]
            have hN3 : (if ka = 3 then n' else n' ++ List.replicate (j + 1) (padN ka)) = n2 := by
              have hn2 := HN2.out
              rw [if_pos hk3] at hn2
              rw [if_pos hk3, hn2]
            obtain ⟨x, hpx⟩ : ∃ x, x = padI := ⟨_, rfl⟩
            rw [← hpx] at hx4
            have HPX := Lib.hid hpx
            clear hpx
            have HN3 := Lib.hid hN3
            have HL3 := Lib.hid hL3
            obtain ⟨xk, xp1, xl1, xc1, xp2, xl2, xc2, xp3, xl3, xc3, rfl, rfl, rfl, rfl⟩ := hx4.form
            have HX4 := Lib.hid hx4
            clear hN3 hL3 hfe hfn hfi hif2 hif3 hf1 hxe hx hx4 hk3
            go_wp2_with fail
            have hM2 := HMj.out
            have hx4 := HX4.out
            clear s0 s1 s2 s3 g0 g1 g2 HX4
            have hmv : (fun x => X x ∨ (w.heap.size ≤ x ∧ x < w4.heap.size)) bi ∨ bi < w0.heap.size := hbv.imp And.left id
            have hS0 : Kp w0 (fun x => X x ∨ (w.heap.size ≤ x ∧ x < w4.heap.size)) wi wi.drew ∧ wi.drew.cell? ⟨w.heap.size, 3, none⟩ = some x3 := ⟨Kp.of_ext hM2.ext hM2.xl ((Ext.refl _).drew), (hM2.next ((Ext.refl _).drew)).box.cell.2.2.2⟩
            refine wp_region_g [0, 1, 2, 3, 4, 5] [6, 7, 8, 9, 10] (fun w' => Kp w0 (fun x => X x ∨ (w.heap.size ≤ x ∧ x < w4.heap.size)) wi w' ∧ w'.cell? ⟨w.heap.size, 3, none⟩ = some x3) (by kernel_rfl) (by kernel_rfl) hS0 ?_
            iterate 6
              refine wpHead_cons (v := ?_) rfl (by rfl) (fun w' hS => ?_) ?_
              rotate_left
              · obtain ⟨hS1, hS2⟩ := hS
                have e3 := hS1.cell (.inl HMF.out.1) g3
                have e5 := hS1.cell hmv q0
                have e6 := hS1.cell hmv q1
                have e7 := hS1.cell hmv q2
                have e8 := hS1.cell hmv q3
                go_simp
                try with_reducible rfl
              try simp only [Act.put, List.setIfInBounds_toArray, List.set]
            unfold wpHead
            refine wpTail_cons rfl (fun K hK => ?_)
            clear g3 q0 q1 q2 q3
            go_wp2_with fail
            refine (rclone_any (SizeOf.sizeOf x + 1) _ x _ _ _ _ _ (by omega) (hx4.ext ((Ext.refl _).drew))).mono ?_
            rintro e w3' ⟨y0', y1', y2', y3', rfl, hy', hE3⟩
            have hEr : Ext wi w3' := Ext.trans ((Ext.refl _).drew) hE3
            have hM3 := hM2.next hEr
            have hk3' : Kp w0 (fun x => X x ∨ (w.heap.size ≤ x ∧ x < w4.heap.size)) wi w3' := Kp.of_ext hM2.ext hM2.xl hEr
            go_wp2_with fail
            refine hK _ _ ⟨hk3', hM3.box.cell.2.2.2⟩ ?_
            try simp only [Act.put, List.setIfInBounds_toArray, List.set]
            refine wpTail_cons rfl (fun K hK => ?_)
            have hY := ArrAt.mono (G := Apart w0.heap.size (fun x => (fun x => X x ∨ (w.heap.size ≤ x ∧ x < w4.heap.size)) x ∨ x2.ownBlock = some x) x3) (w' := w3') (fun q hq _ => ⟨hM2.apart q hq, rfl⟩) _ _ _ _ _ hy'
            obtain ⟨yk, pq1, mm1, nq1, pq2, mm2, nq2, pq3, mm3, nq3, rfl, rfl, rfl, rfl⟩ := hY.form
            clear hy' hE3 hS0
            go_wp2_with fail
            have hEn : Ext wi (w3'.alloc (.cells #[.int .i64 yk, .slice pq1 mm1 nq1, .slice pq2 mm2 nq2, .slice pq3 mm3 nq3] 26)) := hEr.alloc _
            have hM4 := hM3.next ((Ext.refl _).alloc (.cells #[.int .i64 yk, .slice pq1 mm1 nq1, .slice pq2 mm2 nq2, .slice pq3 mm3 nq3] 26))
            have hbx4 := box_new w3' (.int .i64 yk) (.slice pq1 mm1 nq1) (.slice pq2 mm2 nq2) (.slice pq3 mm3 nq3)
            have hY4 := hY.ext ((Ext.refl _).alloc (.cells #[.int .i64 yk, .slice pq1 mm1 nq1, .slice pq2 mm2 nq2, .slice pq3 mm3 nq3] 26))
            generalize w3'.alloc (.cells #[.int .i64 yk, .slice pq1 mm1 nq1, .slice pq2 mm2 nq2, .slice pq3 mm3 nq3] 26) = w4' at *
            have hk4 : Kp w0 (fun x => X x ∨ (w.heap.size ≤ x ∧ x < w4.heap.size)) wi w4' := Kp.of_ext hM2.ext hM2.xl hEn
            clear hM2
            refine hK _ _ ⟨hk4, hM4.box.cell.2.2.2⟩ ?_
            try simp only [Act.put, List.setIfInBounds_toArray, List.set]
            refine wpTail_cons rfl (fun K hK => ?_)
            refine wpList_append_arr rfl _ _ rfl w0.heap.size _ x3 l2.length l2 x _ _ _ _ rfl hM4.oi _ _ rfl hbx4 hM4.xl3 hY4 (by omega) hM4.ext.lt ?_
            intro g cap w8 hon8 hgrow hat8 _ _
            obtain ⟨q1, q2, q3⟩ := hM4.grownI hgrow
            obtain ⟨_, _, _, t3⟩ := q2.cell
            have tf := q2.free 3
            obtain ⟨hM8, hfar⟩ := hM4.storedI (l' := l2 ++ [x]) hgrow (by simp) hon8 (by simpa using hat8)
            have hkp := hk4.step hM8.ext hfar
            refine hK _ _ ⟨hk4.grown q1 q3, t3⟩ ?_
            try simp only [Act.put, List.setIfInBounds_toArray, List.set]
            refine wpTail_free2 rfl rfl (by kernel_rfl) ?_
            clear hM3 hM4 hbx4 hY4 hY hon8 hgrow hat8 q1 q2 q3 hEr hfar hk4 hk3'
            go_wp2_with fail
            refine OnlyN.mk ?_
            clear t3 tf
            go_wp2_with fail
            go_roundw
            case rel =>
              have hpx := HPX.out
              subst hpx
              exact ⟨j + 1, _, _, n2, _, by go_num, by omega, hM8, HKj.out.trans hkp, by omega, by rw [List.length_append, List.length_singleton]; omega, HN3, HL3⟩
            case measure => simp [intOf]; omega
          · have hk3' : (ka == 3) = false := by simpa using hk3
            obtain ⟨hf0, hf1⟩ := hfn hk3
            obtain ⟨bv, ov, hp2, hbv, av, av1, av2⟩ := hif2 0 hf0
            subst hp2
            have av4 := HKj.out.cell hbv av
            rw [Nat.add_zero] at av4
            rw [hf1] at av4 av1 av2
            have hN3 : (if ka = 3 then n' else n' ++ List.replicate (j + 1) (padN ka)) = n2 ++ [padN ka] := by
              have hn2 := HN2.out
              rw [if_neg hk3] at hn2
              rw [if_neg hk3, ← hn2, List.replicate_succ', List.append_assoc]
            have hL3 : (if ka = 3 then l' ++ List.replicate (j + 1) padI else l') = l2 := by
              have hn2 := HL2.out
              rw [if_neg hk3] at hn2
              rw [if_neg hk3, hn2]
            obtain ⟨xv, hxv⟩ : ∃ xv, xv = padN ka := ⟨_, rfl⟩
            rw [← hxv] at av4 av1 av2
            have HXV := Lib.hid hxv
            clear hxv
            have HN3 := Lib.hid hN3
            have HL3 := Lib.hid hL3
            clear hN3 hL3 hfe hfn hfi av hif2 hif3 hf1 hk3
            go_wp2_with fail
            have hM2 := HMj.out
            clear s0 s1 s2 s3 g0 g1 g3
            have hmv : (fun x => X x ∨ (w.heap.size ≤ x ∧ x < w4.heap.size)) bv ∨ bv < w0.heap.size := hbv.imp And.left id
            have hS0 : Kp w0 (fun x => X x ∨ (w.heap.size ≤ x ∧ x < w4.heap.size)) wi wi.drew ∧ wi.drew.cell? ⟨w.heap.size, 2, none⟩ = some x2 := ⟨Kp.of_ext hM2.ext hM2.xl ((Ext.refl _).drew), (hM2.next ((Ext.refl _).drew)).box.cell.2.2.1⟩
            refine wp_region_g [0, 1, 2, 3, 4, 5] [6, 7, 8, 9] (fun w' => Kp w0 (fun x => X x ∨ (w.heap.size ≤ x ∧ x < w4.heap.size)) wi w' ∧ w'.cell? ⟨w.heap.size, 2, none⟩ = some x2) (by kernel_rfl) (by kernel_rfl) hS0 ?_
            iterate 6
              refine wpHead_cons (v := ?_) rfl (by rfl) (fun w' hS => ?_) ?_
              rotate_left
              · obtain ⟨hS1, hS2⟩ := hS
                have e2 := hS1.cell (.inl HMF.out.1) g2
                have e5 := hS1.cell hmv av4
                go_simp
                try with_reducible rfl
              try simp only [Act.put, List.setIfInBounds_toArray, List.set]
            unfold wpHead
            refine wpTail_cons rfl (fun K hK => ?_)
            clear g2 av4
            go_wp2_with fail
            have hEn : Ext wi (wi.alloc (.cells #[.int .i64 xv] 3)).drew := ((Ext.refl _).alloc _).drew
            have hnc : (wi.alloc (.cells #[.int .i64 xv] 3)).drew.cell? ⟨wi.heap.size, 0, none⟩ = some (.int .i64 xv) := by simp
            generalize (wi.alloc (.cells #[.int .i64 xv] 3)).drew = w7 at hEn hnc ⊢
            have hM7 := hM2.next hEn
            have hk7 : Kp w0 (fun x => X x ∨ (w.heap.size ≤ x ∧ x < w4.heap.size)) wi w7 := Kp.of_ext hM2.ext hM2.xl hEn
            refine hK _ _ ⟨hk7, hM7.box.cell.2.2.1⟩ ?_
            try simp only [Act.put, List.setIfInBounds_toArray, List.set]
            refine wpTail_cons rfl (fun K hK => ?_)
            refine wpList_append_int rfl _ _ rfl w0.heap.size _ x2 n2.length n2 xv rfl hM7.on ⟨wi.heap.size, 0, none⟩ 1 rfl hnc hM7.xl2 ⟨av1, av2⟩ (by omega) hM7.ext.lt ?_
            intro g cap w8 hon8 hgrow hat8 _ _
            obtain ⟨q1, q2, q3⟩ := hM7.grownN hgrow
            obtain ⟨_, _, t2, _⟩ := q2.cell
            have tf := q2.free 2
            obtain ⟨hM8, hfar⟩ := hM7.storedN (n' := n2 ++ [xv]) hgrow (by simp) hon8 (by simpa using hat8)
            have hkp := hk7.step hM8.ext hfar
            refine hK _ _ ⟨hk7.grown q1 q3, t2⟩ ?_
            try simp only [Act.put, List.setIfInBounds_toArray, List.set]
            refine wpTail_free2 rfl rfl (by kernel_rfl) ?_
            clear hM7 hon8 hgrow hat8 q1 q2 q3 hS0 hM2 hnc hk7 hfar
            go_wp2_with fail
            refine OnlyN.mk ?_
            clear t2 tf
            go_wp2_with fail
            go_roundw
            case rel =>
              have hxv := HXV.out
              subst hxv
              exact ⟨j + 1, _, _, _, l2, by go_num, by omega, hM8, HKj.out.trans hkp, by rw [List.length_append, List.length_singleton]; omega, by omega, HN3, HL3⟩
            case measure => simp [intOf]; omega
end Go.Proofs.Ytmpjnjhiklaofaa
