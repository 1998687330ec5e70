/-
  A DRAWN REGION IN PHASES: when all that the head's condition was asked for is behind, the rest is walked without it: pure operations first, then what is left, in whatever order. And the append of one array in place: the element and the slice's new length stored in either order. No program in sight.
-/
import Derived.Test.YtgkemmdghmklfaaMkB
namespace Go.Proofs.Ytgkemmdghmklfaa
set_option linter.unusedSimpArgs false
set_option linter.unusedVariables false
open Go.RowKit
section
variable {P : Program} {ops : Array Oper} {md : Region.Mode} {S : World → Prop} {H : List Nat} {R : Act → World → Prop}

theorem wpAnyG_of_any {Q : Exit → Act → World → Prop} : ∀ (fuel : Nat) (listed : Array Bool) (a : Act) (w : World), (∀ j, listed.getD j true = false → gReq md ops H j = false) → wpAny P md ops Q fuel listed a w → wpAnyG P md ops Q S H fuel listed a w
  | 0, _, _, _, _, h => h
  | fuel + 1, listed, a, w, hq, h => ⟨h.1, fun i hi => wpOp_mono (fun a' w' h' => ⟨fun e => (by rw [hq i (mem_ready.1 hi).1] at e; cases e), wpAnyG_of_any fuel _ a' w' (fun j hj => by
      by_cases hij : i = j
      · subst hij; exact hq i (mem_ready.1 hi).1
      · rw [getD_set_ne true hij] at hj; exact hq j hj) h'⟩) (h.2 i hi)⟩
theorem wpAnyG_rest {Q : Exit → Act → World → Prop} {fuel : Nat} {listed : Array Bool} {a : Act} {w : World} (hok : (decide (listed.size = ops.size) && (List.range ops.size).all fun j => listed.getD j true || !gReq md ops H j) = true) (h : wpAny P md ops Q fuel listed a w) : wpAnyG P md ops Q S H fuel listed a w := by
  simp only [Bool.and_eq_true, decide_eq_true_eq, List.all_eq_true, List.mem_range, Bool.or_eq_true, Bool.not_eq_true'] at hok
  refine wpAnyG_of_any fuel listed a w (fun j hj => ?_) h
  rcases Nat.lt_or_ge j ops.size with hlt | hge
  · rcases hok.2 j hlt with h1 | h1
    · rw [hj] at h1; cases h1
    · exact h1
  · simp [Array.getD, show ¬ j < listed.size by omega] at hj

/-- A pure operation is taken first. -/
theorem wpAny_pure {fuel : Nat} {listed : Array Bool} {a : Act} {w : World} (i : Nat) {o : Oper} (v : Value) (ho : ops.toList[i]? = some o) (hok : (Region.noSelect ops && Region.free md ops listed i && (Region.ready md ops listed).contains i) = true)
    (hw : Region.wanted o (yielded ops a.tmps) = true) (hv : ∀ w, (execOp a.eval o).run P w = .ok (.value v) w) (h : wpAny P md ops (OnlyN R) fuel (listed.setIfInBounds i true) (a.put o.dst v) w) : wpAny P md ops (OnlyN R) (fuel + 1) listed a w := by
  simp only [Bool.and_eq_true] at hok
  have ho' : ops[i]? = some o := by simpa using ho
  exact wpAny_first ho' (Region.noSelect_spec hok.1.1) (fun _ _ _ h => h) fuel listed a w (Region.free_spec ho' hok.1.2) (by simpa using hok.2) (.inl ⟨hw, hv⟩) h

/-- One operation, by the walk's own words. -/
def Comes0 (P : Program) (md : Region.Mode) (ops : Array Oper) (R : Act → World → Prop) (fuel : Nat) (listed : Array Bool) (a : Act) (w : World) (i : Nat) : Prop :=
  ∃ o, ops.toList[i]? = some o ∧ ∀ K : Act → World → Prop, (∀ a' w', wpAny P md ops (OnlyN R) fuel (listed.setIfInBounds i true) a' w' → K a' w') → wpList P ops (Exit.then K (OnlyN R)) [o] a w
theorem Comes0.op {fuel : Nat} {listed : Array Bool} {a : Act} {w : World} {i : Nat} (h : Comes0 P md ops R fuel listed a w i) : wpOp P ops (OnlyN R) i (wpAny P md ops (OnlyN R) fuel (listed.setIfInBounds i true)) a w := by
  obtain ⟨o, ho', h⟩ := h
  have ho : ops[i]? = some o := by simpa using ho'
  have h1 := h (wpAny P md ops (OnlyN R) fuel (listed.setIfInBounds i true)) (fun _ _ h1 => h1)
  unfold wpOp
  rw [ho]
  unfold wpList at h1
  show if Region.wanted o (yielded ops a.tmps) = true then _ else _
  split
  · rename_i hw
    rw [if_pos hw] at h1
    refine h1.imp (fun h2 => ?_) id
    exact Oper.wp_mono (fun a' w' h3 => h3) (upon_then (K := wpAny P md ops (OnlyN R) fuel (listed.setIfInBounds i true)) _ h2)
  · rename_i hw
    rw [if_neg hw] at h1
    exact h1
theorem wpAny_one {fuel : Nat} {listed : Array Bool} {a : Act} {w : World} {i : Nat} (hr : Region.ready md ops listed = [i]) (hi : Comes0 P md ops R fuel listed a w i) : wpAny P md ops (OnlyN R) (fuel + 1) listed a w :=
  ⟨fun e => (by rw [hr] at e; cases e), fun j hj => by rw [hr, List.mem_singleton] at hj; subst hj; exact hi.op⟩
theorem wpAny_two {fuel : Nat} {listed : Array Bool} {a : Act} {w : World} {i j : Nat} (hr : Region.ready md ops listed = [i, j]) (hi : Comes0 P md ops R fuel listed a w i) (hj : Comes0 P md ops R fuel listed a w j) : wpAny P md ops (OnlyN R) (fuel + 1) listed a w :=
  ⟨fun e => (by rw [hr] at e; cases e), fun k hk => by
    rw [hr] at hk
    rcases List.mem_cons.1 hk with rfl | hk
    · exact hi.op
    · rw [List.mem_singleton] at hk
      subst hk
      exact hj.op⟩
theorem wpAny_end {fuel : Nat} {listed : Array Bool} {a : Act} {w : World} (hr : (Region.ready md ops listed).isEmpty = true) (h : R a w) : wpAny P md ops (OnlyN R) fuel listed a w :=
  wpAny_done (by simpa using hr) (OnlyN.mk h) fuel
end

theorem CellsRead.take {F : Nat → Prop} {w : World} {z : Arr} : ∀ (l : List Arr) (cs : List Value), CellsRead F w cs (l ++ [z]) → CellsRead F w (cs.take (l.length * 4)) l ∧ cs.length = l.length * 4 + 4
  | [], cs, h => by
    refine ⟨by simp only [List.length_nil, Nat.zero_mul, List.take_zero]; unfold CellsRead; trivial, ?_⟩
    match cs, h with
    | [], h => simp only [List.nil_append] at h; unfold CellsRead at h; exact h.elim
    | [_], h => simp only [List.nil_append] at h; unfold CellsRead at h; exact h.elim
    | [_, _], h => simp only [List.nil_append] at h; unfold CellsRead at h; exact h.elim
    | [_, _, _], h => simp only [List.nil_append] at h; unfold CellsRead at h; exact h.elim
    | [_, _, _, _], h => rfl
    | _ :: _ :: _ :: _ :: [_], h => simp only [List.nil_append] at h; unfold CellsRead at h; have := h.2; unfold CellsRead at this; exact this.elim
    | _ :: _ :: _ :: _ :: [_, _], h => simp only [List.nil_append] at h; unfold CellsRead at h; have := h.2; unfold CellsRead at this; exact this.elim
    | _ :: _ :: _ :: _ :: [_, _, _], h => simp only [List.nil_append] at h; unfold CellsRead at h; have := h.2; unfold CellsRead at this; exact this.elim
    | _ :: _ :: _ :: _ :: _ :: _ :: _ :: _ :: _, h => simp only [List.nil_append] at h; unfold CellsRead at h; have := h.2; unfold CellsRead at this; exact this.elim
  | x :: r, cs, h => by
    rw [List.cons_append] at h
    match cs, h with
    | [], h => unfold CellsRead at h; exact h.elim
    | [_], h => unfold CellsRead at h; exact h.elim
    | [_, _], h => unfold CellsRead at h; exact h.elim
    | [_, _, _], h => unfold CellsRead at h; exact h.elim
    | c0 :: c1 :: c2 :: c3 :: cs, h =>
      unfold CellsRead at h
      obtain ⟨h1, h2⟩ := CellsRead.take r cs h.2
      refine ⟨?_, by simp only [List.length_cons, h2]; omega⟩
      have e : (x :: r).length * 4 = r.length * 4 + 1 + 1 + 1 + 1 := by simp only [List.length_cons]; omega
      rw [e, List.take_succ_cons, List.take_succ_cons, List.take_succ_cons, List.take_succ_cons]
      unfold CellsRead
      exact ⟨h.1, h1⟩

/-- Behind an append of one array: the new element's cells (they may have held anything) and the box's slice stored, in whatever order. -/
theorem MkB.storedI2 {w0 w w8 w' : World} {X : Nat → Prop} {b g c m : Nat} {k : Int} {v1 v2 v3 : Value} {n : List Int} {l : List Arr} {x z : Arr} {c0 c1 c2 c3 : Value} (h : MkB w0 w X b k v1 v2 v3 n l) (hg : w.grownBy w8 v3.ownBlock) (hm : l.length = m)
    (ho : OwnA w0.heap.size (fun x => X x ∨ v2.ownBlock = some x) w8 (.slice (some ⟨g, 0, none⟩) (m + 1) c) (m + 1) (l ++ [z])) (hat : v3.ownBlock = some g ∨ g = w.heap.size)
    (hx : ArrAt (Apart w0.heap.size (fun x => X x ∨ v2.ownBlock = some x) v3) w x c0 c1 c2 c3) (hE : Ext w0 w') (hsz : w8.heap.size ≤ w'.heap.size) (hfar : ∀ q, q ≠ b → q ≠ g → w'.heap[q]? = w8.heap[q]?)
    (hb : w'.heap[b]? = (w8.setCell ⟨b, 3, none⟩ (.slice (some ⟨g, 0, none⟩) (m + 1) c)).heap[b]?)
    (hgr : w'.heap[g]? = ((((w8.setCell ⟨g, m * 4, none⟩ c0).setCell ⟨g, m * 4 + 1, none⟩ c1).setCell ⟨g, m * 4 + 2, none⟩ c2).setCell ⟨g, m * 4 + 3, none⟩ c3).heap[g]?) :
    MkB w0 w' X b k v1 v2 (.slice (some ⟨g, 0, none⟩) (m + 1) c) n (l ++ [x]) ∧ ∀ q, X q → q ≠ b → w'.heap[q]? = w.heap[q]? := by
  obtain ⟨hz, hzf⟩ := h.storedI (l' := l ++ [z]) hg (by simp [hm]) ho hat
  have hXg : ¬ X g := fun hx => ho.2.1 g rfl (.inl hx)
  have hbg : b ≠ g := fun e => hXg (by rw [← e]; exact h.xb)
  have h8 : ∀ q, q ≠ b → q ≠ g → w'.heap[q]? = (w8.setCell ⟨b, 3, none⟩ (.slice (some ⟨g, 0, none⟩) (m + 1) c)).heap[q]? := fun q h1 h2 => (hfar q h1 h2).trans (Below.heap_setCell _ _ _ _ (by simpa using h1)).symm
  have hlen : (l ++ [x]).length = m + 1 := by simp [hm]
  refine ⟨⟨hE, h.le, hz.box.kept hb, h.xb, fun q hq => by have := h.xl q hq; have := hg.size; omega, hz.on.same fun q hq _ hne => ?_, ?_⟩, fun q hq hqb => ?_⟩
  · have h1 : q ≠ b := fun e => hne (by rw [e]; exact .inl h.xb)
    have h2 : q ≠ g := fun e => hne (.inr (by rw [e]; rfl))
    exact ⟨h8 q h1 h2, hne⟩
  · obtain ⟨_, k4, cells, k3, k5⟩ := ho
    obtain ⟨t1, t2⟩ := CellsRead.take l cells k5
    have a0 := (k3.stored (m * 4) c0).1
    have a1 := (a0.stored (m * 4 + 1) c1).1
    have a2 := (a1.stored (m * 4 + 2) c2).1
    have a3 := (a2.stored (m * 4 + 3) c3).1
    rw [hlen]
    refine ⟨hlen, k4, _, ownsRow_same a3 (fun q hq => by simp only [Value.ownBlock, Option.some.injEq] at hq; subst hq; exact hgr), ?_⟩
    have key : ∀ q, Apart w0.heap.size (fun x => X x ∨ v2.ownBlock = some x) (.slice (some ⟨g, 0, none⟩) (m + 1) c) q → q < w8.heap.size → Apart w0.heap.size (fun x => X x ∨ v2.ownBlock = some x) (.slice (some ⟨g, 0, none⟩) (m + 1) c) q ∧ w'.heap[q]? = w8.heap[q]? := fun q hq _ =>
      ⟨hq, hfar q (fun e => hq.2.1 (.inl (by rw [e]; exact h.xb))) (fun e => hq.2.2 (by rw [e]; rfl))⟩
    have key2 : ∀ q, Apart w0.heap.size (fun x => X x ∨ v2.ownBlock = some x) v3 q → q < w.heap.size → Apart w0.heap.size (fun x => X x ∨ v2.ownBlock = some x) (.slice (some ⟨g, 0, none⟩) (m + 1) c) q ∧ w'.heap[q]? = w.heap[q]? := fun q hq hlt => by
      have hne : q ≠ g := fun e => by
        rcases hat with hat | hat
        · exact hq.2.2 (by rw [e]; exact hat)
        · omega
      have hqb : q ≠ b := fun e => hq.2.1 (.inl (by rw [e]; exact h.xb))
      exact ⟨⟨hq.1, hq.2.1, fun e => hne (by simp only [Value.ownBlock, Option.some.injEq] at e; exact e.symm)⟩, (hfar q hqb hne).trans (hg.block q hlt (fun e => hq.2.2 e.symm))⟩
    rw [hm] at t1 t2
    have hset := set4_take (c0 := c0) (c1 := c1) (c2 := c2) (c3 := c3) cells m (by omega)
    rw [List.take_of_length_le (by simp only [List.length_set]; omega)] at hset
    rw [hset]
    exact CellsRead.snoc (ArrAt.mono key2 x _ _ _ _ hx) _ _ (CellsRead.mono key _ _ t1)
  · by_cases hqg : q = g
    · exact absurd (by rw [← hqg]; exact hq) hXg
    · exact (hfar q hqb hqg).trans ((Below.heap_setCell _ _ _ _ (by simpa using hqb)).symm.trans (hzf q hq hqb))

theorem setCell_congr {w1 w2 : World} {b o : Nat} {v : Value} (h : w1.heap[b]? = w2.heap[b]?) : (w1.setCell ⟨b, o, none⟩ v).heap[b]? = (w2.setCell ⟨b, o, none⟩ v).heap[b]? := by
  simp [World.setCell, Array.getElem?_modify, h]
theorem set4_size (w : World) (g o : Nat) (c0 c1 c2 c3 : Value) : ((((w.setCell ⟨g, o, none⟩ c0).setCell ⟨g, o + 1, none⟩ c1).setCell ⟨g, o + 2, none⟩ c2).setCell ⟨g, o + 3, none⟩ c3).heap.size = w.heap.size := by simp [World.setCell]
theorem set4_far (w : World) (g o : Nat) (c0 c1 c2 c3 : Value) (q : Nat) (h : q ≠ g) : ((((w.setCell ⟨g, o, none⟩ c0).setCell ⟨g, o + 1, none⟩ c1).setCell ⟨g, o + 2, none⟩ c2).setCell ⟨g, o + 3, none⟩ c3).heap[q]? = w.heap[q]? := by
  rw [Below.heap_setCell _ _ _ _ h, Below.heap_setCell _ _ _ _ h, Below.heap_setCell _ _ _ _ h, Below.heap_setCell _ _ _ _ h]
/-- First the element, then the box. -/
theorem MkB.storedA {w0 w w8 : World} {X : Nat → Prop} {b g c m : Nat} {k : Int} {v1 v2 v3 : Value} {n : List Int} {l : List Arr} {x z : Arr} {c0 c1 c2 c3 : Value} (h : MkB w0 w X b k v1 v2 v3 n l) (hg : w.grownBy w8 v3.ownBlock) (hm : l.length = m)
    (ho : OwnA w0.heap.size (fun x => X x ∨ v2.ownBlock = some x) w8 (.slice (some ⟨g, 0, none⟩) (m + 1) c) (m + 1) (l ++ [z])) (hat : v3.ownBlock = some g ∨ g = w.heap.size)
    (hx : ArrAt (Apart w0.heap.size (fun x => X x ∨ v2.ownBlock = some x) v3) w x c0 c1 c2 c3) :
    MkB w0 (((((w8.setCell ⟨g, m * 4, none⟩ c0).setCell ⟨g, m * 4 + 1, none⟩ c1).setCell ⟨g, m * 4 + 2, none⟩ c2).setCell ⟨g, m * 4 + 3, none⟩ c3).setCell ⟨b, 3, none⟩ (.slice (some ⟨g, 0, none⟩) (m + 1) c)) X b k v1 v2 (.slice (some ⟨g, 0, none⟩) (m + 1) c) n (l ++ [x]) ∧
      ∀ q, X q → q ≠ b → (((((w8.setCell ⟨g, m * 4, none⟩ c0).setCell ⟨g, m * 4 + 1, none⟩ c1).setCell ⟨g, m * 4 + 2, none⟩ c2).setCell ⟨g, m * 4 + 3, none⟩ c3).setCell ⟨b, 3, none⟩ (.slice (some ⟨g, 0, none⟩) (m + 1) c)).heap[q]? = w.heap[q]? := by
  obtain ⟨g1, _, _⟩ := h.grownI hg
  have hXg : ¬ X g := fun hx => ho.2.1 g rfl (.inl hx)
  have hbg : b ≠ g := fun e => hXg (by rw [← e]; exact h.xb)
  have hgl : w0.heap.size ≤ g := by
    obtain ⟨_, _, cells, k3, _⟩ := ho
    exact (k3.lt g rfl).1
  refine h.storedI2 hg hm ho hat hx ?_ ?_ ?_ ?_ ?_
  · exact ((((g1.setCell (p := ⟨g, m * 4, none⟩) hgl _).setCell (p := ⟨g, m * 4 + 1, none⟩) hgl _).setCell (p := ⟨g, m * 4 + 2, none⟩) hgl _).setCell (p := ⟨g, m * 4 + 3, none⟩) hgl _).setCell (p := ⟨b, 3, none⟩) h.le _
  · simp [World.setCell]
  · intro q h1 h2
    rw [Below.heap_setCell _ _ _ _ h1, set4_far _ _ _ _ _ _ _ _ h2]
  · exact setCell_congr (set4_far _ _ _ _ _ _ _ _ hbg)
  · exact Below.heap_setCell _ _ _ _ (fun e => hbg e.symm)
/-- First the box, then the element. -/
theorem MkB.storedB {w0 w w8 : World} {X : Nat → Prop} {b g c m : Nat} {k : Int} {v1 v2 v3 : Value} {n : List Int} {l : List Arr} {x z : Arr} {c0 c1 c2 c3 : Value} (h : MkB w0 w X b k v1 v2 v3 n l) (hg : w.grownBy w8 v3.ownBlock) (hm : l.length = m)
    (ho : OwnA w0.heap.size (fun x => X x ∨ v2.ownBlock = some x) w8 (.slice (some ⟨g, 0, none⟩) (m + 1) c) (m + 1) (l ++ [z])) (hat : v3.ownBlock = some g ∨ g = w.heap.size)
    (hx : ArrAt (Apart w0.heap.size (fun x => X x ∨ v2.ownBlock = some x) v3) w x c0 c1 c2 c3) :
    MkB w0 (((((w8.setCell ⟨b, 3, none⟩ (.slice (some ⟨g, 0, none⟩) (m + 1) c)).setCell ⟨g, m * 4, none⟩ c0).setCell ⟨g, m * 4 + 1, none⟩ c1).setCell ⟨g, m * 4 + 2, none⟩ c2).setCell ⟨g, m * 4 + 3, none⟩ c3) X b k v1 v2 (.slice (some ⟨g, 0, none⟩) (m + 1) c) n (l ++ [x]) ∧
      ∀ q, X q → q ≠ b → (((((w8.setCell ⟨b, 3, none⟩ (.slice (some ⟨g, 0, none⟩) (m + 1) c)).setCell ⟨g, m * 4, none⟩ c0).setCell ⟨g, m * 4 + 1, none⟩ c1).setCell ⟨g, m * 4 + 2, none⟩ c2).setCell ⟨g, m * 4 + 3, none⟩ c3).heap[q]? = w.heap[q]? := by
  obtain ⟨g1, _, _⟩ := h.grownI hg
  have hXg : ¬ X g := fun hx => ho.2.1 g rfl (.inl hx)
  have hbg : b ≠ g := fun e => hXg (by rw [← e]; exact h.xb)
  have hgl : w0.heap.size ≤ g := by
    obtain ⟨_, _, cells, k3, _⟩ := ho
    exact (k3.lt g rfl).1
  refine h.storedI2 hg hm ho hat hx ?_ ?_ ?_ ?_ ?_
  · exact ((((g1.setCell (p := ⟨b, 3, none⟩) h.le _).setCell (p := ⟨g, m * 4, none⟩) hgl _).setCell (p := ⟨g, m * 4 + 1, none⟩) hgl _).setCell (p := ⟨g, m * 4 + 2, none⟩) hgl _).setCell (p := ⟨g, m * 4 + 3, none⟩) hgl _
  · simp [World.setCell]
  · intro q h1 h2
    rw [set4_far _ _ _ _ _ _ _ _ h2, Below.heap_setCell _ _ _ _ h1]
  · rw [set4_far _ _ _ _ _ _ _ _ hbg]
  · exact setCell_congr (setCell_congr (setCell_congr (setCell_congr (Below.heap_setCell _ _ _ _ (fun e => hbg e.symm)))))
/-- The cells of an element of an owned row: there, and not frozen. -/
theorem OwnA.slot {B : Nat} {X : Nat → Prop} {w : World} {g n c : Nat} {l : List Arr} (h : OwnA B X w (.slice (some ⟨g, 0, none⟩) n c) n l) {j : Nat} (hj : j < n) :
    (∃ u, w.cell? ⟨g, j * 4, none⟩ = some u) ∧ (∃ u, w.cell? ⟨g, j * 4 + 1, none⟩ = some u) ∧ (∃ u, w.cell? ⟨g, j * 4 + 2, none⟩ = some u) ∧ (∃ u, w.cell? ⟨g, j * 4 + 3, none⟩ = some u) ∧ ∀ o, w.frozen? ⟨g, o, none⟩ = false := by
  obtain ⟨_, _, cells, h1, _⟩ := h
  have hc := h1.1
  refine ⟨⟨_, (h1.cellAt (j * 4) (by omega)).trans (List.getElem?_eq_getElem (by omega))⟩, ⟨_, (h1.cellAt (j * 4 + 1) (by omega)).trans (List.getElem?_eq_getElem (by omega))⟩, ⟨_, (h1.cellAt (j * 4 + 2) (by omega)).trans (List.getElem?_eq_getElem (by omega))⟩,
    ⟨_, (h1.cellAt (j * 4 + 3) (by omega)).trans (List.getElem?_eq_getElem (by omega))⟩, fun o => h1.frozenAt o⟩
end Go.Proofs.Ytgkemmdghmklfaa
