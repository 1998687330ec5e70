/-
  WHAT Set LEAVES, out of its stores. No walk.
-/
import Derived.Test.YtgkemmdghmklfaaCopyW
import Derived.Test.YtgkemmdghmklfaaFGet
namespace Go.Proofs.Ytgkemmdghmklfaa
set_option linter.unusedSimpArgs false
set_option linter.unusedVariables false
open Go.RowKit

def setOk (sl : List Slot) (s : Int) (t : Arr) : Bool := decide (0 ≤ s) && decide (s < sl.length) && decide (rightV t = 0)
def setV (sl : List Slot) (s : Int) (t : Arr) : List Slot := if setOk sl s t = true then sl.set s.toNat (.arr t) else sl
theorem setV_no {sl : List Slot} {s : Int} {t : Arr} (h : setOk sl s t = false) : setV sl s t = sl := by unfold setV; rw [h]; rfl
/-- What Set leaves. -/
def SetGives (F : Nat → Prop) (w0 w : World) (b : Nat) (sl : List Slot) (q : Option Addr) (s : Int) (t : Arr) (e : Ending) (w' : World) : Prop :=
  e = .returned (.bool (setOk sl s t)) ∧ FrAt (fun x => F x ∨ w.heap.size ≤ x) w' b (setV sl s t) q ∧ Ext w0 w' ∧ ∀ x, x < w.heap.size → x ≠ b → w'.heap[x]? = w.heap[x]?
theorem set_no {F : Nat → Prop} {w0 w w' : World} {b : Nat} {sl : List Slot} {q : Option Addr} {s : Int} {t : Arr} (hn : setOk sl s t = false) (hE0 : Ext w0 w) (hF : FrAt F w b sl q) (e : Ext w w') : SetGives F w0 w b sl q s t (.returned (.bool false)) w' :=
  ⟨by rw [hn], by rw [setV_no hn]; exact (hF.ext e).mono fun x hx _ => ⟨.inl hx, rfl⟩, hE0.trans e, fun x hx _ => e.block hx⟩

/-- The same of a function. -/
def setOkF (sl : List Slot) (s : Int) : Bool := decide (0 ≤ s) && decide (s < sl.length)
def setVF (sl : List Slot) (s : Int) : List Slot := if setOkF sl s = true then sl.set s.toNat .fn else sl
theorem setVF_no {sl : List Slot} {s : Int} (h : setOkF sl s = false) : setVF sl s = sl := by unfold setVF; rw [h]; rfl
def SetGivesF (F : Nat → Prop) (w0 w : World) (b : Nat) (sl : List Slot) (q : Option Addr) (s : Int) (e : Ending) (w' : World) : Prop :=
  e = .returned (.bool (setOkF sl s)) ∧ FrAt (fun x => F x ∨ w.heap.size ≤ x) w' b (setVF sl s) q ∧ Ext w0 w' ∧ ∀ x, x < w.heap.size → x ≠ b → w'.heap[x]? = w.heap[x]?
theorem set_noF {F : Nat → Prop} {w0 w w' : World} {b : Nat} {sl : List Slot} {q : Option Addr} {s : Int} (hn : setOkF sl s = false) (hE0 : Ext w0 w) (hF : FrAt F w b sl q) (e : Ext w w') : SetGivesF F w0 w b sl q s (.returned (.bool false)) w' :=
  ⟨by rw [hn], by rw [setVF_no hn]; exact (hF.ext e).mono fun x hx _ => ⟨.inl hx, rfl⟩, hE0.trans e, fun x hx _ => e.block hx⟩

def setSlot (cs : List Value) (j : Nat) (v0 v1 v2 v3 v4 : Value) : List Value := ((((cs.set (j * 5) v0).set (j * 5 + 1) v1).set (j * 5 + 2) v2).set (j * 5 + 3) v3).set (j * 5 + 4) v4
theorem setSlot_len (cs : List Value) (j : Nat) (v0 v1 v2 v3 v4 : Value) : (setSlot cs j v0 v1 v2 v3 v4).length = cs.length := by simp [setSlot]
theorem setSlot_ne {cs : List Value} {j m : Nat} (v0 v1 v2 v3 v4 : Value) (h : m / 5 ≠ j) : (setSlot cs j v0 v1 v2 v3 v4)[m]? = cs[m]? := by
  unfold setSlot
  rw [List.getElem?_set_ne (by omega), List.getElem?_set_ne (by omega), List.getElem?_set_ne (by omega), List.getElem?_set_ne (by omega), List.getElem?_set_ne (by omega)]
theorem setSlot_at {cs : List Value} {j : Nat} (v0 v1 v2 v3 v4 : Value) (h : j * 5 + 4 < cs.length) :
    (setSlot cs j v0 v1 v2 v3 v4)[j * 5]? = some v0 ∧ (setSlot cs j v0 v1 v2 v3 v4)[j * 5 + 1]? = some v1 ∧ (setSlot cs j v0 v1 v2 v3 v4)[j * 5 + 2]? = some v2 ∧ (setSlot cs j v0 v1 v2 v3 v4)[j * 5 + 3]? = some v3 ∧ (setSlot cs j v0 v1 v2 v3 v4)[j * 5 + 4]? = some v4 := by
  unfold setSlot
  refine ⟨?_, ?_, ?_, ?_, ?_⟩
  · rw [List.getElem?_set_ne (by omega), List.getElem?_set_ne (by omega), List.getElem?_set_ne (by omega), List.getElem?_set_ne (by omega), List.getElem?_set_self (by omega)]
  · rw [List.getElem?_set_ne (by omega), List.getElem?_set_ne (by omega), List.getElem?_set_ne (by omega), List.getElem?_set_self (by simp; omega)]
  · rw [List.getElem?_set_ne (by omega), List.getElem?_set_ne (by omega), List.getElem?_set_self (by simp; omega)]
  · rw [List.getElem?_set_ne (by omega), List.getElem?_set_self (by simp; omega)]
  · rw [List.getElem?_set_self (by simp; omega)]

theorem fset_endX {F : Nat → Prop} {w0 w w1 w2 w11 w12 : World} {b gv2 gu2 j : Nat} {sl : List Slot} {q : Option Addr} {x : Slot} {cv : Value} {cs : List Value} {v0 v1 v2 v3 x0 x1 : Value} (hxu : x.used = true) (hcv : FunOk x.isFn cv) (hE0 : Ext w0 w) (hb0 : w0.heap.size ≤ b) (hbw : b < w.heap.size) (fb : F b)
    (hE1 : Ext w w1) (hE12 : Ext w1 w2) (hE2 : Ext w2 w12) (h11 : w11.heap.size ≤ w12.heap.size) (hsl : ∀ i (h : i < sl.length), SlotAt (fun x => F x ∧ x ≠ b) w1 sl[i] cs i) (hcl : cs.length = sl.length * 5) (h16 : sl.length ≤ 16384) (hj : j < sl.length)
    (hV : RowC 38 w12 gv2 cs) (hU : RowC 4 w12 gu2 (sl.map fun s => Value.bool s.used)) (hB : RowC 79 w12 b [x0, x1, .pointer q]) (g1 : w2.heap.size ≤ gv2) (g2 : w2.heap.size ≤ gu2) (l1 : gv2 < w11.heap.size) (l2 : gu2 < w11.heap.size) (hne : gu2 ≠ gv2)
    (hC : ArrAt (fun b => w11.heap.size ≤ b) w12 x.tree v0 v1 v2 v3) :
    FrAt (fun y => F y ∨ w.heap.size ≤ y) ((((((((w12.setCell ⟨gv2, j * 5, none⟩ v0).setCell ⟨gv2, j * 5 + 1, none⟩ v1).setCell ⟨gv2, j * 5 + 2, none⟩ v2).setCell ⟨gv2, j * 5 + 3, none⟩ v3).setCell ⟨gv2, j * 5 + 4, none⟩ cv).setCell ⟨gu2, j, none⟩ (.bool true)).setCell ⟨b, 0, none⟩ (.slice (some ⟨gv2, 0, none⟩) sl.length sl.length)).setCell ⟨b, 1, none⟩ (.slice (some ⟨gu2, 0, none⟩) sl.length sl.length)) b (sl.set j x) q ∧ Ext w0 ((((((((w12.setCell ⟨gv2, j * 5, none⟩ v0).setCell ⟨gv2, j * 5 + 1, none⟩ v1).setCell ⟨gv2, j * 5 + 2, none⟩ v2).setCell ⟨gv2, j * 5 + 3, none⟩ v3).setCell ⟨gv2, j * 5 + 4, none⟩ cv).setCell ⟨gu2, j, none⟩ (.bool true)).setCell ⟨b, 0, none⟩ (.slice (some ⟨gv2, 0, none⟩) sl.length sl.length)).setCell ⟨b, 1, none⟩ (.slice (some ⟨gu2, 0, none⟩) sl.length sl.length)) ∧ ∀ y, y < w.heap.size → y ≠ b → ((((((((w12.setCell ⟨gv2, j * 5, none⟩ v0).setCell ⟨gv2, j * 5 + 1, none⟩ v1).setCell ⟨gv2, j * 5 + 2, none⟩ v2).setCell ⟨gv2, j * 5 + 3, none⟩ v3).setCell ⟨gv2, j * 5 + 4, none⟩ cv).setCell ⟨gu2, j, none⟩ (.bool true)).setCell ⟨b, 0, none⟩ (.slice (some ⟨gv2, 0, none⟩) sl.length sl.length)).setCell ⟨b, 1, none⟩ (.slice (some ⟨gu2, 0, none⟩) sl.length sl.length)).heap[y]? = w.heap[y]? := by
  have s1 := hE1.lt
  have s2 := hE12.lt
  have s3 := hE2.lt
  have s0 := hE0.lt
  have far : ∀ x, x ≠ gv2 → x ≠ gu2 → x ≠ b → ((((((((w12.setCell ⟨gv2, j * 5, none⟩ v0).setCell ⟨gv2, j * 5 + 1, none⟩ v1).setCell ⟨gv2, j * 5 + 2, none⟩ v2).setCell ⟨gv2, j * 5 + 3, none⟩ v3).setCell ⟨gv2, j * 5 + 4, none⟩ cv).setCell ⟨gu2, j, none⟩ (.bool true)).setCell ⟨b, 0, none⟩ (.slice (some ⟨gv2, 0, none⟩) sl.length sl.length)).setCell ⟨b, 1, none⟩ (.slice (some ⟨gu2, 0, none⟩) sl.length sl.length)).heap[x]? = w12.heap[x]? := fun x a1 a2 a3 =>
    (Below.heap_setCell _ _ _ _ a3).trans ((Below.heap_setCell _ _ _ _ a3).trans ((Below.heap_setCell _ _ _ _ a2).trans ((Below.heap_setCell _ _ _ _ a1).trans ((Below.heap_setCell _ _ _ _ a1).trans ((Below.heap_setCell _ _ _ _ a1).trans ((Below.heap_setCell _ _ _ _ a1).trans (Below.heap_setCell _ _ _ _ a1)))))))
  have e8 : Ext w0 ((((((((w12.setCell ⟨gv2, j * 5, none⟩ v0).setCell ⟨gv2, j * 5 + 1, none⟩ v1).setCell ⟨gv2, j * 5 + 2, none⟩ v2).setCell ⟨gv2, j * 5 + 3, none⟩ v3).setCell ⟨gv2, j * 5 + 4, none⟩ cv).setCell ⟨gu2, j, none⟩ (.bool true)).setCell ⟨b, 0, none⟩ (.slice (some ⟨gv2, 0, none⟩) sl.length sl.length)).setCell ⟨b, 1, none⟩ (.slice (some ⟨gu2, 0, none⟩) sl.length sl.length)) :=
    ((((((((((hE0.trans hE1).trans hE12).trans hE2).setCell (p := ⟨gv2, j * 5, none⟩) (by show w0.heap.size ≤ gv2; omega) _).setCell (p := ⟨gv2, j * 5 + 1, none⟩) (by show w0.heap.size ≤ gv2; omega) _).setCell (p := ⟨gv2, j * 5 + 2, none⟩) (by show w0.heap.size ≤ gv2; omega) _).setCell (p := ⟨gv2, j * 5 + 3, none⟩) (by show w0.heap.size ≤ gv2; omega) _).setCell (p := ⟨gv2, j * 5 + 4, none⟩) (by show w0.heap.size ≤ gv2; omega) _).setCell (p := ⟨gu2, j, none⟩) (by show w0.heap.size ≤ gu2; omega) _).setCell (p := ⟨b, 0, none⟩) hb0 _).setCell (p := ⟨b, 1, none⟩) hb0 _
  have r1 : RowC 38 ((((((((w12.setCell ⟨gv2, j * 5, none⟩ v0).setCell ⟨gv2, j * 5 + 1, none⟩ v1).setCell ⟨gv2, j * 5 + 2, none⟩ v2).setCell ⟨gv2, j * 5 + 3, none⟩ v3).setCell ⟨gv2, j * 5 + 4, none⟩ cv).setCell ⟨gu2, j, none⟩ (.bool true)).setCell ⟨b, 0, none⟩ (.slice (some ⟨gv2, 0, none⟩) sl.length sl.length)).setCell ⟨b, 1, none⟩ (.slice (some ⟨gu2, 0, none⟩) sl.length sl.length)) gv2 (setSlot cs j v0 v1 v2 v3 cv) :=
    (((((((hV.set _ v0).set _ v1).set _ v2).set _ v3).set _ cv).kept (Below.heap_setCell _ _ _ _ (by show gv2 ≠ gu2; omega))).kept (Below.heap_setCell _ _ _ _ (by show gv2 ≠ b; omega))).kept (Below.heap_setCell _ _ _ _ (by show gv2 ≠ b; omega))
  have r2 : RowC 4 ((((((((w12.setCell ⟨gv2, j * 5, none⟩ v0).setCell ⟨gv2, j * 5 + 1, none⟩ v1).setCell ⟨gv2, j * 5 + 2, none⟩ v2).setCell ⟨gv2, j * 5 + 3, none⟩ v3).setCell ⟨gv2, j * 5 + 4, none⟩ cv).setCell ⟨gu2, j, none⟩ (.bool true)).setCell ⟨b, 0, none⟩ (.slice (some ⟨gv2, 0, none⟩) sl.length sl.length)).setCell ⟨b, 1, none⟩ (.slice (some ⟨gu2, 0, none⟩) sl.length sl.length)) gu2 ((sl.map fun s => Value.bool s.used).set j (.bool true)) :=
    (((((((hU.kept (Below.heap_setCell _ _ _ _ hne)).kept (Below.heap_setCell _ _ _ _ hne)).kept (Below.heap_setCell _ _ _ _ hne)).kept (Below.heap_setCell _ _ _ _ hne)).kept (Below.heap_setCell _ _ _ _ hne)).set j (.bool true)).kept (Below.heap_setCell _ _ _ _ (by show gu2 ≠ b; omega))).kept (Below.heap_setCell _ _ _ _ (by show gu2 ≠ b; omega))
  have r3 : RowC 79 ((((((((w12.setCell ⟨gv2, j * 5, none⟩ v0).setCell ⟨gv2, j * 5 + 1, none⟩ v1).setCell ⟨gv2, j * 5 + 2, none⟩ v2).setCell ⟨gv2, j * 5 + 3, none⟩ v3).setCell ⟨gv2, j * 5 + 4, none⟩ cv).setCell ⟨gu2, j, none⟩ (.bool true)).setCell ⟨b, 0, none⟩ (.slice (some ⟨gv2, 0, none⟩) sl.length sl.length)).setCell ⟨b, 1, none⟩ (.slice (some ⟨gu2, 0, none⟩) sl.length sl.length)) b [.slice (some ⟨gv2, 0, none⟩) sl.length sl.length, .slice (some ⟨gu2, 0, none⟩) sl.length sl.length, .pointer q] :=
    (((((((hB.kept (Below.heap_setCell _ _ _ _ (by show b ≠ gv2; omega))).kept (Below.heap_setCell _ _ _ _ (by show b ≠ gv2; omega))).kept (Below.heap_setCell _ _ _ _ (by show b ≠ gv2; omega))).kept (Below.heap_setCell _ _ _ _ (by show b ≠ gv2; omega))).kept (Below.heap_setCell _ _ _ _ (by show b ≠ gv2; omega))).kept (Below.heap_setCell _ _ _ _ (by show b ≠ gu2; omega))).set 0 _).set 1 _
  generalize ((((((((w12.setCell ⟨gv2, j * 5, none⟩ v0).setCell ⟨gv2, j * 5 + 1, none⟩ v1).setCell ⟨gv2, j * 5 + 2, none⟩ v2).setCell ⟨gv2, j * 5 + 3, none⟩ v3).setCell ⟨gv2, j * 5 + 4, none⟩ cv).setCell ⟨gu2, j, none⟩ (.bool true)).setCell ⟨b, 0, none⟩ (.slice (some ⟨gv2, 0, none⟩) sl.length sl.length)).setCell ⟨b, 1, none⟩ (.slice (some ⟨gu2, 0, none⟩) sl.length sl.length)) = W at *
  refine ⟨?_, e8, fun y hx hxb => (far y (by omega) (by omega) hxb).trans ((hE2.block (by omega)).trans ((hE12.block (by omega)).trans (hE1.block hx)))⟩
  refine ⟨gv2, gu2, _, by rw [List.length_set]; exact r3, r1, ?_, .inl fb, .inr (by omega), .inr (by omega), by omega, by omega, fun e => hne e.symm, by rw [setSlot_len, List.length_set, hcl], by rw [List.length_set]; exact h16, fun i hi => ?_⟩
  · rw [List.map_set, hxu]; exact r2
  · rw [List.length_set] at hi
    by_cases hij : i = j
    · subst hij
      rw [List.getElem_set_self]
      obtain ⟨a0, a1, a2, a3, a4⟩ := setSlot_at (cs := cs) (j := i) v0 v1 v2 v3 cv (by omega)
      exact ⟨_, _, _, _, _, a0, a1, a2, a3, a4, hcv, ArrAt.mono (fun x hx _ => ⟨⟨.inr (by omega), by omega⟩, far x (by omega) (by omega) (by omega)⟩) _ _ _ _ _ hC⟩
    · rw [List.getElem_set_ne (fun e => hij e.symm)]
      obtain ⟨c0, c1, c2, c3, cw, m0, m1, m2, m3, m4, hw, ha⟩ := hsl i hi
      refine ⟨c0, c1, c2, c3, cw, ?_, ?_, ?_, ?_, ?_, hw, ArrAt.mono (fun x hx hlt => ⟨⟨.inl hx.1, hx.2⟩, ?_⟩) _ _ _ _ _ ha⟩
      · rw [setSlot_ne _ _ _ _ _ (by omega)]; exact m0
      · rw [setSlot_ne _ _ _ _ _ (by omega)]; exact m1
      · rw [setSlot_ne _ _ _ _ _ (by omega)]; exact m2
      · rw [setSlot_ne _ _ _ _ _ (by omega)]; exact m3
      · rw [setSlot_ne _ _ _ _ _ (by omega)]; exact m4
      · exact (far x (by omega) (by omega) hx.2).trans ((hE2.block (by omega)).trans (hE12.block hlt))
theorem fset_end {F : Nat → Prop} {w0 w w1 w2 w11 w12 : World} {b gv2 gu2 j : Nat} {sl : List Slot} {q : Option Addr} {t : Arr} {cs : List Value} {v0 v1 v2 v3 x0 x1 : Value} (hok : setOk sl (j : Int) t = true) (hE0 : Ext w0 w) (hb0 : w0.heap.size ≤ b) (hbw : b < w.heap.size) (fb : F b)
    (hE1 : Ext w w1) (hE12 : Ext w1 w2) (hE2 : Ext w2 w12) (h11 : w11.heap.size ≤ w12.heap.size) (hsl : ∀ i (h : i < sl.length), SlotAt (fun x => F x ∧ x ≠ b) w1 sl[i] cs i) (hcl : cs.length = sl.length * 5) (h16 : sl.length ≤ 16384) (hj : j < sl.length)
    (hV : RowC 38 w12 gv2 cs) (hU : RowC 4 w12 gu2 (sl.map fun s => Value.bool s.used)) (hB : RowC 79 w12 b [x0, x1, .pointer q]) (g1 : w2.heap.size ≤ gv2) (g2 : w2.heap.size ≤ gu2) (l1 : gv2 < w11.heap.size) (l2 : gu2 < w11.heap.size) (hne : gu2 ≠ gv2)
    (hC : ArrAt (fun b => w11.heap.size ≤ b) w12 t v0 v1 v2 v3) :
    SetGives F w0 w b sl q (j : Int) t (.returned (.bool true)) ((((((((w12.setCell ⟨gv2, j * 5, none⟩ v0).setCell ⟨gv2, j * 5 + 1, none⟩ v1).setCell ⟨gv2, j * 5 + 2, none⟩ v2).setCell ⟨gv2, j * 5 + 3, none⟩ v3).setCell ⟨gv2, j * 5 + 4, none⟩ .nilIface).setCell ⟨gu2, j, none⟩ (.bool true)).setCell ⟨b, 0, none⟩ (.slice (some ⟨gv2, 0, none⟩) sl.length sl.length)).setCell ⟨b, 1, none⟩ (.slice (some ⟨gu2, 0, none⟩) sl.length sl.length)) := by
  obtain ⟨r1, r2, r3⟩ := fset_endX (x := .arr t) (cv := .nilIface) rfl rfl hE0 hb0 hbw fb hE1 hE12 hE2 h11 hsl hcl h16 hj hV hU hB g1 g2 l1 l2 hne hC
  have hset : setV sl (j : Int) t = sl.set j (.arr t) := by unfold setV; rw [if_pos hok]; rfl
  exact ⟨by rw [hok], by rw [hset]; exact r1, r2, r3⟩
theorem fset_endF {F : Nat → Prop} {w0 w w1 w2 w11 w12 : World} {b gv2 gu2 j : Nat} {sl : List Slot} {q : Option Addr} {cv : Value} {cs : List Value} {v0 v1 v2 v3 x0 x1 : Value} (hcv : FunOk true cv) (hE0 : Ext w0 w) (hb0 : w0.heap.size ≤ b) (hbw : b < w.heap.size) (fb : F b)
    (hE1 : Ext w w1) (hE12 : Ext w1 w2) (hE2 : Ext w2 w12) (h11 : w11.heap.size ≤ w12.heap.size) (hsl : ∀ i (h : i < sl.length), SlotAt (fun x => F x ∧ x ≠ b) w1 sl[i] cs i) (hcl : cs.length = sl.length * 5) (h16 : sl.length ≤ 16384) (hj : j < sl.length)
    (hV : RowC 38 w12 gv2 cs) (hU : RowC 4 w12 gu2 (sl.map fun s => Value.bool s.used)) (hB : RowC 79 w12 b [x0, x1, .pointer q]) (g1 : w2.heap.size ≤ gv2) (g2 : w2.heap.size ≤ gu2) (l1 : gv2 < w11.heap.size) (l2 : gu2 < w11.heap.size) (hne : gu2 ≠ gv2)
    (hC : ArrAt (fun b => w11.heap.size ≤ b) w12 Arr.zero v0 v1 v2 v3) :
    SetGivesF F w0 w b sl q (j : Int) (.returned (.bool true)) ((((((((w12.setCell ⟨gv2, j * 5, none⟩ v0).setCell ⟨gv2, j * 5 + 1, none⟩ v1).setCell ⟨gv2, j * 5 + 2, none⟩ v2).setCell ⟨gv2, j * 5 + 3, none⟩ v3).setCell ⟨gv2, j * 5 + 4, none⟩ cv).setCell ⟨gu2, j, none⟩ (.bool true)).setCell ⟨b, 0, none⟩ (.slice (some ⟨gv2, 0, none⟩) sl.length sl.length)).setCell ⟨b, 1, none⟩ (.slice (some ⟨gu2, 0, none⟩) sl.length sl.length)) := by
  obtain ⟨r1, r2, r3⟩ := fset_endX (x := .fn) (cv := cv) rfl hcv hE0 hb0 hbw fb hE1 hE12 hE2 h11 hsl hcl h16 hj hV hU hB g1 g2 l1 l2 hne hC
  have hok : setOkF sl (j : Int) = true := by unfold setOkF; simp; omega
  have hset : setVF sl (j : Int) = sl.set j .fn := by unfold setVF; rw [if_pos hok]; rfl
  exact ⟨by rw [hok], by rw [hset]; exact r1, r2, r3⟩
end Go.Proofs.Ytgkemmdghmklfaa
