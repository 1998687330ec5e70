/-
  AN ARRAY IN THE MAKING: a box of the call's own, with its shape, its numbers and its items in rows of the call's own.
-/
import Derived.Test.YtgkemmdghmklfaaOwn2
namespace Go.Proofs.Ytgkemmdghmklfaa
set_option linter.unusedSimpArgs false
set_option linter.unusedVariables false
open Go.RowKit

theorem box_new (w : World) (c0 c1 c2 c3 : Value) : Box4 (w.alloc (.cells #[c0, c1, c2, c3] 26)) w.heap.size c0 c1 c2 c3 := heap_alloc_new w _

/-- The blocks that hold the box, the shape and the numbers. -/
def XOf (b : Nat) (v1 v2 : Value) (x : Nat) : Prop := x = b ∨ v1.ownBlock = some x ∨ v2.ownBlock = some x

/-- Box b is an array in the making: kind k, shape v1 (reads as s), numbers v2 (read as n), items v (read as l); w0: the world at whose end the call's own blocks begin. -/
structure Mk (w0 w : World) (b : Nat) (k : Int) (v1 v2 v : Value) (s n : List Int) (l : List Arr) : Prop where
  ext : Ext w0 w
  le : w0.heap.size ≤ b
  box : Box4 w b (.int .i64 k) v1 v2 v
  o1 : OwnI w0.heap.size (fun x => x = b) w v1 s.length s
  o2 : OwnI w0.heap.size (fun x => x = b) w v2 n.length n
  oa : OwnA w0.heap.size (XOf b v1 v2) w v l.length l

theorem Mk.next {w0 w w' : World} {b : Nat} {k : Int} {v1 v2 v : Value} {s n : List Int} {l : List Arr} (h : Mk w0 w b k v1 v2 v s n l) (e : Ext w w') : Mk w0 w' b k v1 v2 v s n l :=
  ⟨h.ext.trans e, h.le, h.box.ext e, h.o1.ext e, h.o2.ext e, h.oa.ext e⟩

theorem XOf.lt {w0 w : World} {b : Nat} {k : Int} {v1 v2 v : Value} {s n : List Int} {l : List Arr} (h : Mk w0 w b k v1 v2 v s n l) (x : Nat) (hx : XOf b v1 v2 x) : x < w.heap.size := by
  rcases hx with rfl | hx | hx
  · exact h.box.lt
  · exact (h.o1.2.2.1.lt x hx).2
  · exact (h.o2.2.2.1.lt x hx).2

/-- Behind an append to the items, ahead of the store into the box. -/
theorem Mk.grown {w0 w w' : World} {b : Nat} {k : Int} {v1 v2 v : Value} {s n : List Int} {l : List Arr} (h : Mk w0 w b k v1 v2 v s n l) (hg : w.grownBy w' v.ownBlock) :
    Ext w0 w' ∧ Box4 w' b (.int .i64 k) v1 v2 v ∧ OwnI w0.heap.size (fun x => x = b) w' v1 s.length s ∧ OwnI w0.heap.size (fun x => x = b) w' v2 n.length n := by
  obtain ⟨_, hx, cells, hr, _⟩ := h.oa
  have hl := hr.lt
  refine ⟨h.ext.grown hg h.ext.lt (fun q e => (hl q e).1), h.box.kept (hg.block b h.box.lt (fun e => hx b e.symm (.inl rfl))), h.o1.same fun g hg1 hlt hne => ⟨hg.block g hlt (fun e => hx g e.symm (.inr (.inl hg1))), hne⟩, h.o2.same fun g hg1 hlt hne => ⟨hg.block g hlt (fun e => hx g e.symm (.inr (.inr hg1))), hne⟩⟩

/-- Behind the store of the items' new value. -/
theorem Mk.stored {w0 w' : World} {b : Nat} {k : Int} {v1 v2 v v' : Value} {s n : List Int} {l' : List Arr} (hle : w0.heap.size ≤ b) (hE : Ext w0 w') (hbox : Box4 w' b (.int .i64 k) v1 v2 v) (o1 : OwnI w0.heap.size (fun x => x = b) w' v1 s.length s)
    (o2 : OwnI w0.heap.size (fun x => x = b) w' v2 n.length n) (oa : OwnA w0.heap.size (XOf b v1 v2) w' v' l'.length l') : Mk w0 (w'.setCell ⟨b, 3, none⟩ v') b k v1 v2 v' s n l' := by
  refine ⟨hE.setCell (p := ⟨b, 3, none⟩) hle v', hle, hbox.set3 v', o1.same fun g _ _ hne => ⟨Below.heap_setCell _ _ _ _ (fun e => hne (by simpa using e)), hne⟩, o2.same fun g _ _ hne => ⟨Below.heap_setCell _ _ _ _ (fun e => hne (by simpa using e)), hne⟩, oa.same fun x _ _ hne => ⟨Below.heap_setCell _ _ _ _ (fun e => hne (.inl (by simpa using e))), hne⟩⟩

/-- The box's four cells read as the array. -/
theorem Mk.arr {w0 w : World} {b : Nat} {k : Int} {v1 v2 v : Value} {s n : List Int} {l : List Arr} (h : Mk w0 w b k v1 v2 v s n l) (hk : -9223372036854775808 ≤ k ∧ k ≤ 9223372036854775807) (hl : l.length ≤ 1759218604391) :
    ArrAt (fun x => w0.heap.size ≤ x ∧ x ≠ b) w (.mk k s n l) (.int .i64 k) v1 v2 v := by
  unfold ArrAt
  obtain ⟨p1, c1, e1, q1, i1⟩ := h.o1.ints
  obtain ⟨p2, c2, e2, q2, i2⟩ := h.o2.ints
  obtain ⟨p3, c3, e3, q3, i3⟩ := h.oa.items hl
  exact ⟨rfl, hk, ⟨p1, c1, e1, q1, i1⟩, ⟨p2, c2, e2, q2, i2⟩, ⟨p3, c3, e3, q3, ItemsAt.mono (fun x hx _ => ⟨⟨hx.1, fun e => hx.2 (.inl e)⟩, rfl⟩) l p3 0 i3⟩⟩
theorem Mk.arr' {w0 w : World} {b : Nat} {k : Int} {v1 v2 v : Value} {s n : List Int} {l : List Arr} (h : Mk w0 w b k v1 v2 v s n l) (hk : -9223372036854775808 ≤ k ∧ k ≤ 9223372036854775807) (hl : l.length ≤ 1759218604391) :
    ArrAt (fun x => w0.heap.size ≤ x) w (.mk k s n l) (.int .i64 k) v1 v2 v := ArrAt.mono (fun _ hx _ => ⟨hx.1, rfl⟩) _ _ _ _ _ (h.arr hk hl)
theorem Mk.forms {w0 w : World} {b : Nat} {k : Int} {v1 v2 v : Value} {s n : List Int} {l : List Arr} (h : Mk w0 w b k v1 v2 v s n l) : (∃ p c, v1 = .slice p s.length c) ∧ (∃ p c, v2 = .slice p n.length c) ∧ ∃ p c, v = .slice p l.length c := by
  obtain ⟨p1, c1, e1, q1, i1⟩ := h.o1.ints
  obtain ⟨p2, c2, e2, q2, i2⟩ := h.o2.ints
  refine ⟨⟨p1, c1, e1⟩, ⟨p2, c2, e2⟩, ?_⟩
  obtain ⟨_, _, cells, hr, _⟩ := h.oa
  rcases hr.2 with ⟨rfl, h0⟩ | ⟨g, cap, cur, rfl, _⟩
  · exact ⟨none, 0, by rw [h0]⟩
  · exact ⟨_, _, rfl⟩

/-- An array in the making whose items' row is filled from the front: 'l' so far, of 'len'. -/
structure MkA (w0 w : World) (b : Nat) (k : Int) (v1 v2 : Value) (g len : Nat) (s n : List Int) (l : List Arr) : Prop where
  ext : Ext w0 w
  le : w0.heap.size ≤ b
  box : Box4 w b (.int .i64 k) v1 v2 (.slice (some ⟨g, 0, none⟩) len len)
  o1 : OwnI w0.heap.size (fun x => x = b) w v1 s.length s
  o2 : OwnI w0.heap.size (fun x => x = b) w v2 n.length n
  hx : ¬ XOf b v1 v2 g
  hl : l.length ≤ len
  row : ∃ cells, w.ownsRow w0.heap.size 26 4 (.slice (some ⟨g, 0, none⟩) len len) len cells ∧ CellsRead (Apart w0.heap.size (XOf b v1 v2) (.slice (some ⟨g, 0, none⟩) len len)) w (cells.take (l.length * 4)) l

theorem MkA.next {w0 w w' : World} {b : Nat} {k : Int} {v1 v2 : Value} {g len : Nat} {s n : List Int} {l : List Arr} (h : MkA w0 w b k v1 v2 g len s n l) (e : Ext w w') : MkA w0 w' b k v1 v2 g len s n l := by
  obtain ⟨cells, h1, h2⟩ := h.row
  have hl := h1.lt
  exact ⟨h.ext.trans e, h.le, h.box.ext e, h.o1.ext e, h.o2.ext e, h.hx, h.hl, cells, ownsRow_same h1 fun q hq => e.block (hl q hq).2, CellsRead.mono (fun _ hb hlt => ⟨hb, e.block hlt⟩) _ _ h2⟩

theorem set4_take {c0 c1 c2 c3 : Value} (cells : List Value) (j : Nat) (h : j * 4 + 4 ≤ cells.length) :
    ((((cells.set (j * 4) c0).set (j * 4 + 1) c1).set (j * 4 + 2) c2).set (j * 4 + 3) c3).take ((j + 1) * 4) = cells.take (j * 4) ++ [c0, c1, c2, c3] := by
  apply List.ext_getElem?
  intro i
  rw [List.getElem?_take]
  simp only [List.getElem?_set, List.length_set]
  by_cases h1 : i < j * 4
  · rw [if_pos (by omega), if_neg (by omega), if_neg (by omega), if_neg (by omega), if_neg (by omega), List.getElem?_append_left (by simp; omega), List.getElem?_take, if_pos h1]
  · rw [List.getElem?_append_right (by simp; omega)]
    have hlen : (cells.take (j * 4)).length = j * 4 := by simp; omega
    rw [hlen]
    rcases (show i = j * 4 ∨ i = j * 4 + 1 ∨ i = j * 4 + 2 ∨ i = j * 4 + 3 ∨ j * 4 + 4 ≤ i from by omega) with rfl | rfl | rfl | rfl | h2
    · rw [if_pos (by omega), if_neg (by omega), if_neg (by omega), if_neg (by omega), if_pos rfl, if_pos (by omega)]; simp
    · rw [if_pos (by omega), if_neg (by omega), if_neg (by omega), if_pos rfl, if_pos (by omega)]; simp
    · rw [if_pos (by omega), if_neg (by omega), if_pos rfl, if_pos (by omega)]; simp
    · rw [if_pos (by omega), if_pos rfl, if_pos (by omega)]; simp
    · rw [if_neg (by omega), List.getElem?_eq_none (by simp; omega)]

theorem MkA.stored {w0 w : World} {b : Nat} {k : Int} {v1 v2 : Value} {g len : Nat} {s n : List Int} {l : List Arr} {x : Arr} {c0 c1 c2 c3 : Value} (h : MkA w0 w b k v1 v2 g len s n l) (hlt : l.length < len)
    (hx : ArrAt (Apart w0.heap.size (XOf b v1 v2) (.slice (some ⟨g, 0, none⟩) len len)) w x c0 c1 c2 c3) :
    MkA w0 ((((w.setCell ⟨g, l.length * 4, none⟩ c0).setCell ⟨g, l.length * 4 + 1, none⟩ c1).setCell ⟨g, l.length * 4 + 2, none⟩ c2).setCell ⟨g, l.length * 4 + 3, none⟩ c3) b k v1 v2 g len s n (l ++ [x]) := by
  obtain ⟨cells, h1, h2⟩ := h.row
  have hg := (h1.lt g rfl).1
  have a0 := (h1.stored (l.length * 4) c0).1
  have a1 := (a0.stored (l.length * 4 + 1) c1).1
  have a2 := (a1.stored (l.length * 4 + 2) c2).1
  have a3 := (a2.stored (l.length * 4 + 3) c3).1
  have far : ∀ q, q ≠ g → ((((w.setCell ⟨g, l.length * 4, none⟩ c0).setCell ⟨g, l.length * 4 + 1, none⟩ c1).setCell ⟨g, l.length * 4 + 2, none⟩ c2).setCell ⟨g, l.length * 4 + 3, none⟩ c3).heap[q]? = w.heap[q]? := fun q hq => by
    rw [Below.heap_setCell _ _ _ _ hq, Below.heap_setCell _ _ _ _ hq, Below.heap_setCell _ _ _ _ hq, Below.heap_setCell _ _ _ _ hq]
  have key : ∀ q, Apart w0.heap.size (XOf b v1 v2) (.slice (some ⟨g, 0, none⟩) len len) q → q < w.heap.size → Apart w0.heap.size (XOf b v1 v2) (.slice (some ⟨g, 0, none⟩) len len) q ∧
      ((((w.setCell ⟨g, l.length * 4, none⟩ c0).setCell ⟨g, l.length * 4 + 1, none⟩ c1).setCell ⟨g, l.length * 4 + 2, none⟩ c2).setCell ⟨g, l.length * 4 + 3, none⟩ c3).heap[q]? = w.heap[q]? := fun q hq _ =>
    ⟨hq, far q (fun e => hq.2.2 (by simp [Value.ownBlock, e]))⟩
  refine ⟨(((h.ext.setCell (p := ⟨g, l.length * 4, none⟩) hg _).setCell (p := ⟨g, l.length * 4 + 1, none⟩) hg _).setCell (p := ⟨g, l.length * 4 + 2, none⟩) hg _).setCell (p := ⟨g, l.length * 4 + 3, none⟩) hg _, h.le, h.box.kept (far b (fun e => h.hx (.inl e.symm))), ?_, ?_, h.hx, by simp; omega, _, a3, ?_⟩
  · exact h.o1.same fun q hq _ hne => ⟨far q (fun e => h.hx (.inr (.inl (by rw [← e]; exact hq)))), hne⟩
  · exact h.o2.same fun q hq _ hne => ⟨far q (fun e => h.hx (.inr (.inr (by rw [← e]; exact hq)))), hne⟩
  · have hlen : (l ++ [x]).length = l.length + 1 := by simp
    have hc : l.length * 4 + 4 ≤ cells.length := by have := h1.1; omega
    rw [hlen, set4_take cells l.length hc]
    exact CellsRead.snoc (ArrAt.mono key x _ _ _ _ hx) _ _ (CellsRead.mono key _ _ h2)

/-- A block that lies at or beyond the heap's end is apart. -/
theorem MkA.apart {w0 w : World} {b : Nat} {k : Int} {v1 v2 : Value} {g len : Nat} {s n : List Int} {l : List Arr} (h : MkA w0 w b k v1 v2 g len s n l) (q : Nat) (hq : w.heap.size ≤ q) : Apart w0.heap.size (XOf b v1 v2) (.slice (some ⟨g, 0, none⟩) len len) q := by
  obtain ⟨cells, h1, h2⟩ := h.row
  have hl := h1.lt
  have h0 := h.ext.lt
  have hb := h.box.lt
  have k1 := h.o1.2.2.1.lt
  have k2 := h.o2.2.2.1.lt
  refine ⟨by omega, ?_, fun e => by have := (hl q e).2; omega⟩
  rintro (e | e | e)
  · omega
  · have := (k1 q e).2; omega
  · have := (k2 q e).2; omega

/-- The cells of element j of the row: there, and not frozen. -/
theorem MkA.slot {w0 w : World} {b : Nat} {k : Int} {v1 v2 : Value} {g len : Nat} {s n : List Int} {l : List Arr} (h : MkA w0 w b k v1 v2 g len s n l) {j : Nat} (hj : j < len) :
    (∃ u, w.cell? ⟨g, j * 4, none⟩ = some u) ∧ (∃ u, w.cell? ⟨g, j * 4 + 1, none⟩ = some u) ∧ (∃ u, w.cell? ⟨g, j * 4 + 2, none⟩ = some u) ∧ (∃ u, w.cell? ⟨g, j * 4 + 3, none⟩ = some u) ∧ ∀ o, w.frozen? ⟨g, o, none⟩ = false := by
  obtain ⟨cells, h1, _⟩ := h.row
  have hc := h1.1
  refine ⟨⟨_, (h1.cellAt (j * 4) (by omega)).trans (List.getElem?_eq_getElem (by omega))⟩, ⟨_, (h1.cellAt (j * 4 + 1) (by omega)).trans (List.getElem?_eq_getElem (by omega))⟩, ⟨_, (h1.cellAt (j * 4 + 2) (by omega)).trans (List.getElem?_eq_getElem (by omega))⟩,
    ⟨_, (h1.cellAt (j * 4 + 3) (by omega)).trans (List.getElem?_eq_getElem (by omega))⟩, fun o => h1.frozenAt o⟩

theorem MkA.done {w0 w : World} {b : Nat} {k : Int} {v1 v2 : Value} {g len : Nat} {s n : List Int} {l : List Arr} (h : MkA w0 w b k v1 v2 g len s n l) (hl : l.length = len) : Mk w0 w b k v1 v2 (.slice (some ⟨g, 0, none⟩) len len) s n l := by
  obtain ⟨cells, h1, h2⟩ := h.row
  refine ⟨h.ext, h.le, h.box, h.o1, h.o2, rfl, fun q hq => ?_, cells, by rw [hl]; exact h1, ?_⟩
  · simp only [Value.ownBlock, Option.some.injEq] at hq
    rw [← hq]; exact h.hx
  · rw [List.take_of_length_le (by have := h1.1; omega)] at h2
    exact h2
end Go.Proofs.Ytgkemmdghmklfaa
