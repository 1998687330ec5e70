/-
  AN ARRAY IN THE MAKING, of whatever kind: numbers and items in rows of the call's own, apart from the blocks X.
-/
import Derived.Test.YtgkemmdghmklfaaMk
import Derived.Test.YtgkemmdghmklfaaRegX
namespace Go.Proofs.Ytgkemmdghmklfaa
set_option linter.unusedSimpArgs false
set_option linter.unusedVariables false
open Go.RowKit

/-- Box b: kind k, shape v1, numbers v2, items v3. X: the box and whatever else the rows are apart from. -/
structure MkB (w0 w : World) (X : Nat → Prop) (b : Nat) (k : Int) (v1 v2 v3 : Value) (n : List Int) (l : List Arr) : Prop where
  ext : Ext w0 w
  le : w0.heap.size ≤ b
  box : Box4 w b (.int .i64 k) v1 v2 v3
  xb : X b
  xl : ∀ x, X x → x < w.heap.size
  on : OwnI w0.heap.size (fun x => X x ∨ v3.ownBlock = some x) w v2 n.length n
  oi : OwnA w0.heap.size (fun x => X x ∨ v2.ownBlock = some x) w v3 l.length l

theorem MkB.fresh {w0 w : World} {X : Nat → Prop} {b : Nat} {k : Int} {v1 : Value} (h1 : Ext w0 w) (h2 : w0.heap.size ≤ b) (h3 : Box4 w b (.int .i64 k) v1 (.slice none 0 0) (.slice none 0 0)) (h4 : X b) (h5 : ∀ x, X x → x < w.heap.size) :
    MkB w0 w X b k v1 (.slice none 0 0) (.slice none 0 0) [] [] := ⟨h1, h2, h3, h4, h5, OwnI.nil _ _ _, OwnA.nil _ _ _⟩

theorem MkB.next {w0 w w' : World} {X : Nat → Prop} {b : Nat} {k : Int} {v1 v2 v3 : Value} {n : List Int} {l : List Arr} (h : MkB w0 w X b k v1 v2 v3 n l) (e : Ext w w') : MkB w0 w' X b k v1 v2 v3 n l :=
  ⟨h.ext.trans e, h.le, h.box.ext e, h.xb, fun x hx => Nat.lt_of_lt_of_le (h.xl x hx) e.lt, h.on.ext e, h.oi.ext e⟩

theorem MkB.other {w0 w w' : World} {X : Nat → Prop} {b q : Nat} {k : Int} {v1 v2 v3 : Value} {n : List Int} {l : List Arr} (h : MkB w0 w X b k v1 v2 v3 n l) (hq : X q) (hqb : q ≠ b) (hl : w0.heap.size ≤ q) (hg : w.grownBy w' (some q)) : MkB w0 w' X b k v1 v2 v3 n l := by
  refine ⟨h.ext.grown hg h.ext.lt (fun y e => by cases e; exact hl), h.le, h.box.kept (hg.block b h.box.lt (fun e => hqb (by simpa using e.symm))), h.xb, fun x hx => Nat.lt_of_lt_of_le (h.xl x hx) hg.size,
    h.on.same fun g _ hlt hne => ⟨hg.block g hlt (fun e => hne (by cases e; exact .inl hq)), hne⟩, h.oi.same fun g hlt _ hne => ⟨hg.block g hlt (fun e => hne (by cases e; exact .inl hq)), hne⟩⟩

theorem MkB.xl2 {w0 w : World} {X : Nat → Prop} {b : Nat} {k : Int} {v1 v2 v3 : Value} {n : List Int} {l : List Arr} (h : MkB w0 w X b k v1 v2 v3 n l) : ∀ x, (X x ∨ v3.ownBlock = some x) → x < w.heap.size := by
  intro x hx
  rcases hx with hx | hx
  · exact h.xl x hx
  · obtain ⟨_, _, cells, hr, _⟩ := h.oi
    exact (hr.lt x hx).2
theorem MkB.xl3 {w0 w : World} {X : Nat → Prop} {b : Nat} {k : Int} {v1 v2 v3 : Value} {n : List Int} {l : List Arr} (h : MkB w0 w X b k v1 v2 v3 n l) : ∀ x, (X x ∨ v2.ownBlock = some x) → x < w.heap.size := by
  intro x hx
  rcases hx with hx | hx
  · exact h.xl x hx
  · exact (h.on.2.2.1.lt x hx).2

/-- Behind an append to the numbers: what the store into the box needs. -/
theorem MkB.grownN {w0 w w' : World} {X : Nat → Prop} {b : Nat} {k : Int} {v1 v2 v3 : Value} {n : List Int} {l : List Arr} (h : MkB w0 w X b k v1 v2 v3 n l) (hg : w.grownBy w' v2.ownBlock) : Ext w0 w' ∧ Box4 w' b (.int .i64 k) v1 v2 v3 ∧ ∀ q, X q → w'.heap[q]? = w.heap[q]? := by
  have hl := h.on.2.2.1.lt
  have hx := h.on.2.2.2.1
  exact ⟨h.ext.grown hg h.ext.lt (fun q e => (hl q e).1), h.box.kept (hg.block b h.box.lt (fun e => hx b e.symm (.inl h.xb))), fun q hq => hg.block q (h.xl q hq) (fun e => hx q e.symm (.inl hq))⟩
theorem MkB.storedN {w0 w w' : World} {X : Nat → Prop} {b g c m : Nat} {k : Int} {v1 v2 v3 : Value} {n n' : List Int} {l : List Arr} (h : MkB w0 w X b k v1 v2 v3 n l) (hg : w.grownBy w' v2.ownBlock) (hm : n'.length = m)
    (ho : OwnI w0.heap.size (fun x => X x ∨ v3.ownBlock = some x) w' (.slice (some ⟨g, 0, none⟩) m c) m n') (hat : v2.ownBlock = some g ∨ g = w.heap.size) :
    MkB w0 (w'.setCell ⟨b, 2, none⟩ (.slice (some ⟨g, 0, none⟩) m c)) X b k v1 (.slice (some ⟨g, 0, none⟩) m c) v3 n' l ∧ ∀ q, X q → q ≠ b → (w'.setCell ⟨b, 2, none⟩ (.slice (some ⟨g, 0, none⟩) m c)).heap[q]? = w.heap[q]? := by
  obtain ⟨h1, h2, h3⟩ := h.grownN hg
  subst hm
  have far : ∀ q, q ≠ b → (w'.setCell ⟨b, 2, none⟩ (.slice (some ⟨g, 0, none⟩) n'.length c)).heap[q]? = w'.heap[q]? := fun q hq => Below.heap_setCell _ _ _ _ (by simpa using hq)
  refine ⟨⟨h1.setCell (p := ⟨b, 2, none⟩) h.le _, h.le, h2.set2 _, h.xb, fun x hx => ?_, ho.same fun q _ _ hne => ⟨far q (fun e => hne (by rw [e]; exact .inl h.xb)), hne⟩, h.oi.same fun q hlt _ hne => ?_⟩, fun q hq hqb => (far q hqb).trans (h3 q hq)⟩
  · have h8 := Nat.lt_of_lt_of_le (h.xl x hx) hg.size
    simpa [World.setCell] using h8
  · have hqb : q ≠ b := fun e => hne (by rw [e]; exact .inl h.xb)
    refine ⟨(far q hqb).trans (hg.block q hlt (fun e => hne (.inr e.symm))), fun hx => ?_⟩
    rcases hx with hx | hx
    · exact hne (.inl hx)
    · simp only [Value.ownBlock, Option.some.injEq] at hx
      subst hx
      rcases hat with hat | hat
      · exact hne (.inr hat)
      · omega

/-- Behind an append to the items. -/
theorem MkB.grownI {w0 w w' : World} {X : Nat → Prop} {b : Nat} {k : Int} {v1 v2 v3 : Value} {n : List Int} {l : List Arr} (h : MkB w0 w X b k v1 v2 v3 n l) (hg : w.grownBy w' v3.ownBlock) : Ext w0 w' ∧ Box4 w' b (.int .i64 k) v1 v2 v3 ∧ ∀ q, X q → w'.heap[q]? = w.heap[q]? := by
  obtain ⟨_, hx, cells, hr, _⟩ := h.oi
  have hl := hr.lt
  exact ⟨h.ext.grown hg h.ext.lt (fun q e => (hl q e).1), h.box.kept (hg.block b h.box.lt (fun e => hx b e.symm (.inl h.xb))), fun q hq => hg.block q (h.xl q hq) (fun e => hx q e.symm (.inl hq))⟩
theorem MkB.storedI {w0 w w' : World} {X : Nat → Prop} {b g c m : Nat} {k : Int} {v1 v2 v3 : Value} {n : List Int} {l l' : List Arr} (h : MkB w0 w X b k v1 v2 v3 n l) (hg : w.grownBy w' v3.ownBlock) (hm : l'.length = m)
    (ho : OwnA w0.heap.size (fun x => X x ∨ v2.ownBlock = some x) w' (.slice (some ⟨g, 0, none⟩) m c) m l') (hat : v3.ownBlock = some g ∨ g = w.heap.size) :
    MkB w0 (w'.setCell ⟨b, 3, none⟩ (.slice (some ⟨g, 0, none⟩) m c)) X b k v1 v2 (.slice (some ⟨g, 0, none⟩) m c) n l' ∧ ∀ q, X q → q ≠ b → (w'.setCell ⟨b, 3, none⟩ (.slice (some ⟨g, 0, none⟩) m c)).heap[q]? = w.heap[q]? := by
  obtain ⟨h1, h2, h3⟩ := h.grownI hg
  subst hm
  have far : ∀ q, q ≠ b → (w'.setCell ⟨b, 3, none⟩ (.slice (some ⟨g, 0, none⟩) l'.length c)).heap[q]? = w'.heap[q]? := fun q hq => Below.heap_setCell _ _ _ _ (by simpa using hq)
  refine ⟨⟨h1.setCell (p := ⟨b, 3, none⟩) h.le _, h.le, h2.set3 _, h.xb, fun x hx => ?_, h.on.same fun q _ hlt hne => ?_, ho.same fun q _ _ hne => ⟨far q (fun e => hne (by rw [e]; exact .inl h.xb)), hne⟩⟩, fun q hq hqb => (far q hqb).trans (h3 q hq)⟩
  · have h8 := Nat.lt_of_lt_of_le (h.xl x hx) hg.size
    simpa [World.setCell] using h8
  · have hqb : q ≠ b := fun e => hne (by rw [e]; exact .inl h.xb)
    refine ⟨(far q hqb).trans (hg.block q hlt (fun e => hne (.inr e.symm))), fun hx => ?_⟩
    rcases hx with hx | hx
    · exact hne (.inl hx)
    · simp only [Value.ownBlock, Option.some.injEq] at hx
      subst hx
      rcases hat with hat | hat
      · exact hne (.inr hat)
      · omega
/-- What is new, or old, is apart from what the items own. -/
theorem MkB.apart {w0 w : World} {X : Nat → Prop} {b : Nat} {k : Int} {v1 v2 v3 : Value} {n : List Int} {l : List Arr} (h : MkB w0 w X b k v1 v2 v3 n l) (q : Nat) (hq : w.heap.size ≤ q) : Apart w0.heap.size (fun x => X x ∨ v2.ownBlock = some x) v3 q := by
  have h3 := h.xl3
  have h2 := h.xl2
  have h0 := h.ext.lt
  exact ⟨by omega, fun hx => by have := h3 q hx; omega, fun e => by have := h2 q (.inr e); omega⟩

/-- The box's four cells read as the array, the shape as it came. -/
theorem MkB.arr {w0 w : World} {X G : Nat → Prop} {b : Nat} {k : Int} {v1 v2 v3 : Value} {s n : List Int} {l : List Arr} (h : MkB w0 w X b k v1 v2 v3 n l) (hk : -9223372036854775808 ≤ k ∧ k ≤ 9223372036854775807) (hs : ∃ p c, v1 = .slice p s.length c ∧ SlOk s.length c ∧ IntsAt G w p s) (hl : l.length ≤ 1759218604391) :
    ArrAt (fun x => (w0.heap.size ≤ x ∧ ¬ X x) ∨ G x) w (.mk k s n l) (.int .i64 k) v1 v2 v3 := by
  unfold ArrAt
  obtain ⟨p1, c1, e1, q1, i1⟩ := hs
  obtain ⟨p2, c2, e2, q2, i2⟩ := h.on.ints
  obtain ⟨p3, c3, e3, q3, i3⟩ := h.oi.items hl
  exact ⟨rfl, hk, ⟨p1, c1, e1, q1, i1.mono fun _ hx _ => ⟨.inr hx, rfl⟩⟩, ⟨p2, c2, e2, q2, i2.mono fun _ hx _ => ⟨.inl ⟨hx.1, fun e => hx.2 (.inl e)⟩, rfl⟩⟩, ⟨p3, c3, e3, q3, ItemsAt.mono (fun x hx _ => ⟨.inl ⟨hx.1, fun e => hx.2 (.inl e)⟩, rfl⟩) l p3 0 i3⟩⟩

/-- A row of numbers that the region has made; a box; a struct value of a kind and such a row. -/
def MProp.row (B m : Nat) (t : List Int) : MProp := ⟨fun X w v => ∃ g, v = .slice (some ⟨g, 0, none⟩) m m ∧ RowI w g t ∧ B ≤ g ∧ ¬ X g, fun X X' w w' v e hX h => by
  obtain ⟨g, h1, h2, h3, h4⟩ := h
  refine ⟨g, h1, h2.ext e, h3, fun hx => ?_⟩
  rcases hX.2 g hx with h | h
  · exact h4 h
  · have := h2.lt; omega⟩
def MProp.rowAgg (B m : Nat) (k : Int) (t : List Int) : MProp := ⟨fun X w v => ∃ g, v = .agg #[.int .i64 k, .slice (some ⟨g, 0, none⟩) m m, .slice none 0 0, .slice none 0 0] ∧ RowI w g t ∧ B ≤ g ∧ ¬ X g, fun X X' w w' v e hX h => by
  obtain ⟨g, h1, h2, h3, h4⟩ := h
  refine ⟨g, h1, h2.ext e, h3, fun hx => ?_⟩
  rcases hX.2 g hx with h | h
  · exact h4 h
  · have := h2.lt; omega⟩
def MProp.box : MProp := ⟨fun X w v => ∃ b, v = .pointer (some ⟨b, 0, none⟩) ∧ Box4 w b (.int .i64 0) (.slice none 0 0) (.slice none 0 0) (.slice none 0 0) ∧ X b, fun X X' w w' v e hX h => by
  obtain ⟨b, h1, h2, h3⟩ := h
  exact ⟨b, h1, h2.ext e, hX.1 b h3⟩⟩
theorem run_make_ints (n : Nat) (hn : n ≤ 17592186044416) (w : World) : (Instr.makeSlice 23 (.int .i64 (n : Int)) (.int .i64 (n : Int))).run Try.prog w = .ok (.slice (some ⟨w.heap.size, 0, none⟩) n n) (w.alloc (.cells (madeCells #[.int .i64 0] n) 3)) := by
  obtain ⟨i0, hi, hz0, hz1, hz2⟩ := info_parts infoI
  have := run_make (P := Try.prog) w 23 3 i0 (.int .i64 0) Try.underlying23 hi hz0 .i64 .i64 n n (by omega) (by omega) (by rw [hz2]; omega) (by omega)
  rw [hz1] at this
  simpa [Value.cells] using this
end Go.Proofs.Ytgkemmdghmklfaa
