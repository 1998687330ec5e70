/-
  AN ARRAY IN THE MAKING, of numbers alone or of items alone; rows of numbers known whole.
-/
import Derived.Test.YtgkemmdghmklfaaClone
namespace Go.Proofs.Ytgkemmdghmklfaa
set_option linter.unusedSimpArgs false
set_option linter.unusedVariables false
open Go.RowKit

/-- Block g holds just the numbers t. -/
def RowI (w : World) (g : Nat) (t : List Int) : Prop := w.heap[g]? = some (.cells (t.map (Value.int .i64)).toArray 3 (0, 0))

theorem RowI.cell {w : World} {g : Nat} {t : List Int} (h : RowI w g t) {j : Nat} (hj : j < t.length) : w.cell? ⟨g, j, none⟩ = some (.int .i64 (t.getD j 0)) := by
  unfold RowI at h
  rw [cell_of_row w g j _ _ _ h]
  simp [List.getD, hj]
theorem RowI.free {w : World} {g : Nat} {t : List Int} (h : RowI w g t) (o : Nat) : w.frozen? ⟨g, o, none⟩ = false := frozen_of_row w g o _ _ h
theorem RowI.lt {w : World} {g : Nat} {t : List Int} (h : RowI w g t) : g < w.heap.size := (Array.getElem?_eq_some_iff.1 h).1
theorem RowI.kept {w w' : World} {g : Nat} {t : List Int} (h : RowI w g t) (e : w'.heap[g]? = w.heap[g]?) : RowI w' g t := by
  unfold RowI at h ⊢
  rw [e]; exact h
theorem RowI.ext {w w' : World} {g : Nat} {t : List Int} (h : RowI w g t) (e : Ext w w') : RowI w' g t := h.kept (e.block h.lt)
theorem RowI.set {w : World} {g : Nat} {t : List Int} (h : RowI w g t) (j : Nat) (x : Int) : RowI (w.setCell ⟨g, j, none⟩ (.int .i64 x)) g (t.set j x) := by
  unfold RowI at h ⊢
  rw [heap_setCell_at h]
  simp [List.map_set]
theorem madeCells_ints (n : Nat) : madeCells #[.int .i64 0] n = ((List.replicate n 0).map (Value.int .i64)).toArray := by
  apply Array.ext
  · simp [madeCells]
  · intro i h1 h2
    simp [madeCells, Nat.mod_one]
theorem RowI.made {w : World} (n : Nat) : RowI (w.alloc (.cells (madeCells #[.int .i64 0] n) 3)) w.heap.size (List.replicate n 0) := by
  unfold RowI
  rw [heap_alloc_new, madeCells_ints]
/-- It reads as the list. -/
theorem RowI.ints {w : World} {g : Nat} {t : List Int} (h : RowI w g t) (hw : ∀ x ∈ t, -9223372036854775808 ≤ x ∧ x ≤ 9223372036854775807) : IntsAt (fun x => x = g) w (some ⟨g, 0, none⟩) t := fun i hi =>
  ⟨g, 0, rfl, rfl, by rw [Nat.zero_add]; exact h.cell hi, hw _ (by simp [List.getD, hi])⟩

/-- Box b: kind k, shape v1, numbers v2 in a row of the call's own, no items. X: blocks that the rows are apart from. -/
structure MkN (w0 w : World) (X : Nat → Prop) (b : Nat) (k : Int) (v1 v2 : Value) (n : List Int) : Prop where
  ext : Ext w0 w
  le : w0.heap.size ≤ b
  box : Box4 w b (.int .i64 k) v1 v2 (.slice none 0 0)
  xb : X b
  xl : ∀ x, X x → x < w.heap.size
  on : OwnI w0.heap.size X w v2 n.length n

theorem MkN.next {w0 w w' : World} {X : Nat → Prop} {b : Nat} {k : Int} {v1 v2 : Value} {n : List Int} (h : MkN w0 w X b k v1 v2 n) (e : Ext w w') : MkN w0 w' X b k v1 v2 n :=
  ⟨h.ext.trans e, h.le, h.box.ext e, h.xb, fun x hx => Nat.lt_of_lt_of_le (h.xl x hx) e.lt, h.on.ext e⟩

/-- A change of a block of X other than the box. -/
theorem MkN.other {w0 w w' : World} {X : Nat → Prop} {b q : Nat} {k : Int} {v1 v2 : Value} {n : List Int} (h : MkN w0 w X b k v1 v2 n) (hq : X q) (hqb : q ≠ b) (hl : w0.heap.size ≤ q) (hg : w.grownBy w' (some q)) : MkN w0 w' X b k v1 v2 n := by
  refine ⟨h.ext.grown hg h.ext.lt (fun y e => by cases e; exact hl), h.le, h.box.kept (hg.block b h.box.lt (fun e => hqb (by simpa using e.symm))), h.xb, fun x hx => Nat.lt_of_lt_of_le (h.xl x hx) hg.size, h.on.same fun g _ hlt hne => ⟨hg.block g hlt (fun e => hne (by cases e; exact hq)), hne⟩⟩

theorem grown_setCell (w : World) (q o : Nat) (v : Value) : w.grownBy (w.setCell ⟨q, o, none⟩ v) (some q) :=
  ⟨rfl, rfl, rfl, by simp [World.setCell], fun j _ hne => Below.heap_setCell _ _ _ _ (fun e => hne (by simpa using e))⟩

/-- Behind an append to the numbers: what the store into the box needs. -/
theorem MkN.grown {w0 w w' : World} {X : Nat → Prop} {b : Nat} {k : Int} {v1 v2 : Value} {n : List Int} (h : MkN w0 w X b k v1 v2 n) (hg : w.grownBy w' v2.ownBlock) : Ext w0 w' ∧ Box4 w' b (.int .i64 k) v1 v2 (.slice none 0 0) ∧ ∀ q, X q → w'.heap[q]? = w.heap[q]? := by
  have hl := h.on.2.2.1.lt
  have hx := h.on.2.2.2.1
  exact ⟨h.ext.grown hg h.ext.lt (fun q e => (hl q e).1), h.box.kept (hg.block b h.box.lt (fun e => hx b e.symm h.xb)), fun q hq => hg.block q (h.xl q hq) (fun e => hx q e.symm hq)⟩
theorem MkN.stored {w0 w w' : World} {X : Nat → Prop} {b : Nat} {k : Int} {v1 v2 v2' : Value} {n n' : List Int} (h : MkN w0 w X b k v1 v2 n) (hg : w.grownBy w' v2.ownBlock) (ho : OwnI w0.heap.size X w' v2' n'.length n') :
    MkN w0 (w'.setCell ⟨b, 2, none⟩ v2') X b k v1 v2' n' ∧ ∀ q, X q → q ≠ b → (w'.setCell ⟨b, 2, none⟩ v2').heap[q]? = w.heap[q]? := by
  obtain ⟨h1, h2, h3⟩ := h.grown hg
  exact ⟨⟨h1.setCell (p := ⟨b, 2, none⟩) h.le _, h.le, h2.set2 _, h.xb, fun x hx => by
    have h8 := Nat.lt_of_lt_of_le (h.xl x hx) hg.size
    simpa [World.setCell] using h8, ho.same fun g _ _ hne => ⟨Below.heap_setCell _ _ _ _ (fun e => hne (by rw [show g = b from by simpa using e]; exact h.xb)), hne⟩⟩, fun q hq hqb => (Below.heap_setCell _ _ _ _ (by simpa using hqb)).trans (h3 q hq)⟩

/-- Box b: kind k, shape v1, no numbers, items v3 in a row of the call's own. -/
structure MkI (w0 w : World) (X : Nat → Prop) (b : Nat) (k : Int) (v1 v3 : Value) (l : List Arr) : Prop where
  ext : Ext w0 w
  le : w0.heap.size ≤ b
  box : Box4 w b (.int .i64 k) v1 (.slice none 0 0) v3
  xb : X b
  xl : ∀ x, X x → x < w.heap.size
  oi : OwnA w0.heap.size X w v3 l.length l

theorem MkI.next {w0 w w' : World} {X : Nat → Prop} {b : Nat} {k : Int} {v1 v3 : Value} {l : List Arr} (h : MkI w0 w X b k v1 v3 l) (e : Ext w w') : MkI w0 w' X b k v1 v3 l :=
  ⟨h.ext.trans e, h.le, h.box.ext e, h.xb, fun x hx => Nat.lt_of_lt_of_le (h.xl x hx) e.lt, h.oi.ext e⟩
theorem MkI.other {w0 w w' : World} {X : Nat → Prop} {b q : Nat} {k : Int} {v1 v3 : Value} {l : List Arr} (h : MkI w0 w X b k v1 v3 l) (hq : X q) (hqb : q ≠ b) (hl : w0.heap.size ≤ q) (hg : w.grownBy w' (some q)) : MkI w0 w' X b k v1 v3 l := by
  refine ⟨h.ext.grown hg h.ext.lt (fun y e => by cases e; exact hl), h.le, h.box.kept (hg.block b h.box.lt (fun e => hqb (by simpa using e.symm))), h.xb, fun x hx => Nat.lt_of_lt_of_le (h.xl x hx) hg.size, h.oi.same fun g hlt _ hne => ⟨hg.block g hlt (fun e => hne (by cases e; exact hq)), hne⟩⟩
theorem MkI.grown {w0 w w' : World} {X : Nat → Prop} {b : Nat} {k : Int} {v1 v3 : Value} {l : List Arr} (h : MkI w0 w X b k v1 v3 l) (hg : w.grownBy w' v3.ownBlock) : Ext w0 w' ∧ Box4 w' b (.int .i64 k) v1 (.slice none 0 0) v3 ∧ ∀ q, X q → w'.heap[q]? = w.heap[q]? := by
  obtain ⟨_, hx, cells, hr, _⟩ := h.oi
  have hl := hr.lt
  exact ⟨h.ext.grown hg h.ext.lt (fun q e => (hl q e).1), h.box.kept (hg.block b h.box.lt (fun e => hx b e.symm h.xb)), fun q hq => hg.block q (h.xl q hq) (fun e => hx q e.symm hq)⟩
theorem MkI.stored {w0 w w' : World} {X : Nat → Prop} {b : Nat} {k : Int} {v1 v3 v3' : Value} {l l' : List Arr} (h : MkI w0 w X b k v1 v3 l) (hg : w.grownBy w' v3.ownBlock) (ho : OwnA w0.heap.size X w' v3' l'.length l') :
    MkI w0 (w'.setCell ⟨b, 3, none⟩ v3') X b k v1 v3' l' ∧ ∀ q, X q → q ≠ b → (w'.setCell ⟨b, 3, none⟩ v3').heap[q]? = w.heap[q]? := by
  obtain ⟨h1, h2, h3⟩ := h.grown hg
  exact ⟨⟨h1.setCell (p := ⟨b, 3, none⟩) h.le _, h.le, h2.set3 _, h.xb, fun x hx => by
    have h8 := Nat.lt_of_lt_of_le (h.xl x hx) hg.size
    simpa [World.setCell] using h8, ho.same fun g _ _ hne => ⟨Below.heap_setCell _ _ _ _ (fun e => hne (by rw [show g = b from by simpa using e]; exact h.xb)), hne⟩⟩, fun q hq hqb => (Below.heap_setCell _ _ _ _ (by simpa using hqb)).trans (h3 q hq)⟩
/-- A fresh block is apart. -/
theorem MkI.apart {w0 w : World} {X : Nat → Prop} {b : Nat} {k : Int} {v1 v3 : Value} {l : List Arr} (h : MkI w0 w X b k v1 v3 l) (q : Nat) (hq : w.heap.size ≤ q) : Apart w0.heap.size X v3 q := by
  obtain ⟨_, _, cells, hr, _⟩ := h.oi
  have hl := hr.lt
  have h0 := h.ext.lt
  exact ⟨by omega, fun hx => by have := h.xl q hx; omega, fun e => by have := (hl q e).2; omega⟩

/-- The box's four cells read as the array, the shape as it came. -/
theorem MkN.arr {w0 w : World} {X G : Nat → Prop} {b : Nat} {k : Int} {v1 v2 : Value} {s n : List Int} (h : MkN w0 w X b k v1 v2 n) (hk : -9223372036854775808 ≤ k ∧ k ≤ 9223372036854775807) (hs : ∃ p c, v1 = .slice p s.length c ∧ SlOk s.length c ∧ IntsAt G w p s) :
    ArrAt (fun x => (w0.heap.size ≤ x ∧ ¬ X x) ∨ G x) w (.mk k s n []) (.int .i64 k) v1 v2 (.slice none 0 0) := by
  unfold ArrAt
  obtain ⟨p1, c1, e1, q1, i1⟩ := hs
  obtain ⟨p2, c2, e2, q2, i2⟩ := h.on.ints
  exact ⟨rfl, hk, ⟨p1, c1, e1, q1, i1.mono fun _ hx _ => ⟨.inr hx, rfl⟩⟩, ⟨p2, c2, e2, q2, i2.mono fun _ hx _ => ⟨.inl hx, rfl⟩⟩, ⟨none, 0, rfl, ⟨by simp, by simp, by simp⟩, by unfold ItemsAt; trivial⟩⟩
theorem MkI.arr {w0 w : World} {X G : Nat → Prop} {b : Nat} {k : Int} {v1 v3 : Value} {s : List Int} {l : List Arr} (h : MkI w0 w X b k v1 v3 l) (hk : -9223372036854775808 ≤ k ∧ k ≤ 9223372036854775807) (hs : ∃ p c, v1 = .slice p s.length c ∧ SlOk s.length c ∧ IntsAt G w p s) (hl : l.length ≤ 1759218604391) :
    ArrAt (fun x => (w0.heap.size ≤ x ∧ ¬ X x) ∨ G x) w (.mk k s [] l) (.int .i64 k) v1 (.slice none 0 0) v3 := by
  unfold ArrAt
  obtain ⟨p1, c1, e1, q1, i1⟩ := hs
  obtain ⟨p3, c3, e3, q3, i3⟩ := h.oi.items hl
  exact ⟨rfl, hk, ⟨p1, c1, e1, q1, i1.mono fun _ hx _ => ⟨.inr hx, rfl⟩⟩, ⟨none, 0, rfl, ⟨by simp, by simp, by simp⟩, fun i hi => by simp at hi⟩, ⟨p3, c3, e3, q3, ItemsAt.mono (fun _ hx _ => ⟨.inl hx, rfl⟩) l p3 0 i3⟩⟩
end Go.Proofs.Ytgkemmdghmklfaa
