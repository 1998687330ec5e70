/-
  A LIST OF ARRAYS IN THE MAKING in a variable's box; the arrays of frames. No walk.
-/
import Derived.Test.YtgkemmdghmklfaaRegP
import Derived.Test.YtgkemmdghmklfaaFGet
namespace Go.Proofs.Ytgkemmdghmklfaa
set_option linter.unusedSimpArgs false
set_option linter.unusedVariables false
open Go.RowKit Go.Shelf

theorem CellsRead.cellwise {F : Nat → Prop} {w w' : World} (hc : ∀ (a : Addr) (v : Value), w.cell? a = some v → w'.cell? a = some v) : ∀ (cs : List Value) (l : List Arr), CellsRead F w cs l → CellsRead F w' cs l
  | [], [], _ => by unfold CellsRead; trivial
  | c0 :: c1 :: c2 :: c3 :: cs, x :: r, h => by
    unfold CellsRead at h ⊢
    exact ⟨ArrAt.cellwise hc x _ _ _ _ h.1, CellsRead.cellwise hc cs r h.2⟩
  | [], _ :: _, h => by unfold CellsRead at h; exact h.elim
  | [_], _, h => by unfold CellsRead at h; exact h.elim
  | [_, _], _, h => by unfold CellsRead at h; exact h.elim
  | [_, _, _], _, h => by unfold CellsRead at h; exact h.elim
  | _ :: _ :: _ :: _ :: _, [], h => by unfold CellsRead at h; exact h.elim
theorem Fz.CellsRead.moveC {F G : Nat → Prop} {w w' : World} (hF : ∀ b, F b → (∃ o v, w.cell? ⟨b, o, none⟩ = some v) → G b ∧ w'.heap[b]? = w.heap[b]?) : ∀ (cs : List Value) (l : List Arr), Go.Proofs.Ytgkemmdghmklfaa.CellsRead F w cs l → Go.Proofs.Ytgkemmdghmklfaa.CellsRead G w' cs l
  | [], [], _ => by unfold CellsRead; trivial
  | c0 :: c1 :: c2 :: c3 :: cs, x :: r, h => by
    unfold CellsRead at h ⊢
    exact ⟨Fz.ArrAt.moveC hF x _ _ _ _ h.1, Fz.CellsRead.moveC hF cs r h.2⟩
  | [], _ :: _, h => by unfold CellsRead at h; exact h.elim
  | [_], _, h => by unfold CellsRead at h; exact h.elim
  | [_, _], _, h => by unfold CellsRead at h; exact h.elim
  | [_, _, _], _, h => by unfold CellsRead at h; exact h.elim
  | _ :: _ :: _ :: _ :: _, [], h => by unfold CellsRead at h; exact h.elim
theorem Fz.OwnA.weak {B : Nat} {X : Nat → Prop} {w : World} {v : Value} {n : Nat} {l : List Arr} (h : Fz.OwnA B X w v n l) : Go.Proofs.Ytgkemmdghmklfaa.OwnA B X w v n l := by
  obtain ⟨h1, h2, cells, h3, h4⟩ := h
  exact ⟨h1, h2, cells, h3, Go.Proofs.Ytgkemmdghmklfaa.CellsRead.mono (fun _ hb _ => ⟨hb.1, rfl⟩) _ _ h4⟩
theorem Fz.OwnA.own {B : Nat} {X : Nat → Prop} {W W' : World} {v : Value} {n : Nat} {l : List Arr} {row : Option Nat} (h : Fz.OwnA B X W v n l) (hg : W.grownBy W' row) (hr : ∀ r, row = some r → ∃ o : Obj, W.heap[r]? = some o ∧ o.isCells = false) : Fz.OwnA B X W' v n l := by
  obtain ⟨h1, h4, cells, h3, h5⟩ := h
  refine ⟨h1, h4, cells, ownsRow_same h3 fun g hgv => ?_, Fz.CellsRead.moveC (fun b hb hc => ⟨⟨hb.1, hb.2.kept (Fz.own_block hg hr hc)⟩, Fz.own_block hg hr hc⟩) cells l h5⟩
  refine hg.block g (h3.lt g hgv).2 fun e => ?_
  obtain ⟨o, ho, hc⟩ := hr g e.symm
  rcases h3.2 with ⟨rfl, _⟩ | ⟨g', cap, cur, rfl, hb, hgg, _⟩
  · simp [Value.ownBlock] at hgv
  · simp only [Value.ownBlock, Option.some.injEq] at hgv
    subst hgv
    rw [hgg] at ho
    cases ho
    cases hc

/-- The box b of a variable holds a row of arrays of the call's own. -/
structure OutV (w0 w : World) (b : Nat) (v : Value) (l : List Arr) : Prop where
  ext : Ext w0 w
  le : w0.heap.size ≤ b
  box : RowC 24 w b [v]
  oa : Fz.OwnA w0.heap.size (fun x => x = b) w v l.length l
theorem OutV.next {w0 w w' : World} {b : Nat} {v : Value} {l : List Arr} (h : OutV w0 w b v l) (e : Ext w w') : OutV w0 w' b v l := ⟨h.ext.trans e, h.le, h.box.ext e, h.oa.ext e⟩
theorem OutV.bl {w0 w : World} {b : Nat} {v : Value} {l : List Arr} (h : OutV w0 w b v l) : ∀ q, v.ownBlock = some q → q < w.heap.size := fun q hq => by
  obtain ⟨_, _, cells, h1, _⟩ := h.oa
  exact (h1.lt q hq).2
theorem OutV.stored {w0 w w8 w' : World} {b g c : Nat} {v : Value} {l : List Arr} {x z : Arr} {c0 c1 c2 c3 : Value} (h : OutV w0 w b v l) (hg : w.grownBy w8 v.ownBlock)
    (ho : Fz.OwnA w0.heap.size (fun x => x = b) w8 (.slice (some ⟨g, 0, none⟩) (l.length + 1) c) (l.length + 1) (l ++ [z])) (hat : v.ownBlock = some g ∨ g = w.heap.size)
    (hx : ArrAt (fun q => Apart w0.heap.size (fun x => x = b) v q ∧ Fz.NoFz w q) w x c0 c1 c2 c3) (hE : Ext w0 w') (hfar : ∀ q, q ≠ b → q ≠ g → w'.heap[q]? = w8.heap[q]?)
    (hb : RowC 24 w' b [.slice (some ⟨g, 0, none⟩) (l.length + 1) c])
    (hgr : w'.heap[g]? = ((((w8.setCell ⟨g, l.length * 4, none⟩ c0).setCell ⟨g, l.length * 4 + 1, none⟩ c1).setCell ⟨g, l.length * 4 + 2, none⟩ c2).setCell ⟨g, l.length * 4 + 3, none⟩ c3).heap[g]?) :
    OutV w0 w' b (.slice (some ⟨g, 0, none⟩) (l.length + 1) c) (l ++ [x]) := by
  have hlen : (l ++ [x]).length = l.length + 1 := by simp
  refine ⟨hE, h.le, hb, ?_⟩
  obtain ⟨_, k4, cells, k3, k5⟩ := ho
  obtain ⟨t1, t2⟩ := CellsRead.take l cells k5
  have a0 := (k3.stored (l.length * 4) c0).1
  have a1 := (a0.stored (l.length * 4 + 1) c1).1
  have a2 := (a1.stored (l.length * 4 + 2) c2).1
  have a3 := (a2.stored (l.length * 4 + 3) c3).1
  rw [hlen]
  refine ⟨hlen, k4, _, ownsRow_same a3 (fun q hq => by simp only [Value.ownBlock, Option.some.injEq] at hq; subst hq; exact hgr), ?_⟩
  have key : ∀ q, (Apart w0.heap.size (fun x => x = b) (.slice (some ⟨g, 0, none⟩) (l.length + 1) c) q ∧ Fz.NoFz w8 q) → q < w8.heap.size → (Apart w0.heap.size (fun x => x = b) (.slice (some ⟨g, 0, none⟩) (l.length + 1) c) q ∧ Fz.NoFz w' q) ∧ w'.heap[q]? = w8.heap[q]? := fun q hq _ =>
    ⟨⟨hq.1, hq.2.kept (hfar q hq.1.2.1 (fun e => hq.1.2.2 (by rw [e]; rfl)))⟩, hfar q hq.1.2.1 (fun e => hq.1.2.2 (by rw [e]; rfl))⟩
  have key2 : ∀ q, (Apart w0.heap.size (fun x => x = b) v q ∧ Fz.NoFz w q) → q < w.heap.size → (Apart w0.heap.size (fun x => x = b) (.slice (some ⟨g, 0, none⟩) (l.length + 1) c) q ∧ Fz.NoFz w' q) ∧ w'.heap[q]? = w.heap[q]? := fun q hq0 hlt => by
    obtain ⟨hq, hz⟩ := hq0
    have hne : q ≠ g := fun e => by
      rcases hat with hat | hat
      · exact hq.2.2 (by rw [e]; exact hat)
      · omega
    have hkp := (hfar q hq.2.1 hne).trans (hg.block q hlt (fun e => hq.2.2 e.symm))
    exact ⟨⟨⟨hq.1, hq.2.1, fun e => hne (by simp only [Value.ownBlock, Option.some.injEq] at e; exact e.symm)⟩, hz.kept hkp⟩, hkp⟩
  have hset := set4_take (c0 := c0) (c1 := c1) (c2 := c2) (c3 := c3) cells l.length (by omega)
  rw [List.take_of_length_le (by simp only [List.length_set]; omega)] at hset
  rw [hset]
  exact CellsRead.snoc (ArrAt.mono key2 x _ _ _ _ hx) _ _ (CellsRead.mono key _ _ t1)
theorem OutV.gne {w0 w8 : World} {b g c n : Nat} {l : List Arr} (ho : Fz.OwnA w0.heap.size (fun x => x = b) w8 (.slice (some ⟨g, 0, none⟩) n c) n l) : g ≠ b ∧ w0.heap.size ≤ g := by
  obtain ⟨_, k4, cells, k3, _⟩ := ho
  exact ⟨fun e => k4 g rfl e, (k3.lt g rfl).1⟩
/-- First the element, then the box; and the other way round. -/
theorem OutV.storedA {w0 w w8 : World} {b g c : Nat} {v : Value} {l : List Arr} {x z : Arr} {c0 c1 c2 c3 : Value} (h : OutV w0 w b v l) (hg : w.grownBy w8 v.ownBlock)
    (ho : Fz.OwnA w0.heap.size (fun x => x = b) w8 (.slice (some ⟨g, 0, none⟩) (l.length + 1) c) (l.length + 1) (l ++ [z])) (hat : v.ownBlock = some g ∨ g = w.heap.size)
    (hx : ArrAt (fun q => Apart w0.heap.size (fun x => x = b) v q ∧ Fz.NoFz w q) w x c0 c1 c2 c3) (hE8 : Ext w0 w8) (hb8 : RowC 24 w8 b [v]) :
    OutV w0 (((((w8.setCell ⟨g, l.length * 4, none⟩ c0).setCell ⟨g, l.length * 4 + 1, none⟩ c1).setCell ⟨g, l.length * 4 + 2, none⟩ c2).setCell ⟨g, l.length * 4 + 3, none⟩ c3).setCell ⟨b, 0, none⟩ (.slice (some ⟨g, 0, none⟩) (l.length + 1) c)) b (.slice (some ⟨g, 0, none⟩) (l.length + 1) c) (l ++ [x]) := by
  obtain ⟨hgb, hgl⟩ := OutV.gne ho
  refine h.stored hg ho hat hx ?_ ?_ ?_ ?_
  · exact ((((hE8.setCell (p := ⟨g, l.length * 4, none⟩) hgl _).setCell (p := ⟨g, l.length * 4 + 1, none⟩) hgl _).setCell (p := ⟨g, l.length * 4 + 2, none⟩) hgl _).setCell (p := ⟨g, l.length * 4 + 3, none⟩) hgl _).setCell (p := ⟨b, 0, none⟩) h.le _
  · intro q h1 h2
    rw [Below.heap_setCell _ _ _ _ h1, set4_far _ _ _ _ _ _ _ _ h2]
  · exact (hb8.kept (set4_far _ _ _ _ _ _ _ _ (fun e => hgb e.symm))).set 0 _
  · exact Below.heap_setCell _ _ _ _ hgb
theorem OutV.storedB {w0 w w8 : World} {b g c : Nat} {v : Value} {l : List Arr} {x z : Arr} {c0 c1 c2 c3 : Value} (h : OutV w0 w b v l) (hg : w.grownBy w8 v.ownBlock)
    (ho : Fz.OwnA w0.heap.size (fun x => x = b) w8 (.slice (some ⟨g, 0, none⟩) (l.length + 1) c) (l.length + 1) (l ++ [z])) (hat : v.ownBlock = some g ∨ g = w.heap.size)
    (hx : ArrAt (fun q => Apart w0.heap.size (fun x => x = b) v q ∧ Fz.NoFz w q) w x c0 c1 c2 c3) (hE8 : Ext w0 w8) (hb8 : RowC 24 w8 b [v]) :
    OutV w0 (((((w8.setCell ⟨b, 0, none⟩ (.slice (some ⟨g, 0, none⟩) (l.length + 1) c)).setCell ⟨g, l.length * 4, none⟩ c0).setCell ⟨g, l.length * 4 + 1, none⟩ c1).setCell ⟨g, l.length * 4 + 2, none⟩ c2).setCell ⟨g, l.length * 4 + 3, none⟩ c3) b (.slice (some ⟨g, 0, none⟩) (l.length + 1) c) (l ++ [x]) := by
  obtain ⟨hgb, hgl⟩ := OutV.gne ho
  refine h.stored hg ho hat hx ?_ ?_ ?_ ?_
  · exact ((((hE8.setCell (p := ⟨b, 0, none⟩) h.le _).setCell (p := ⟨g, l.length * 4, none⟩) hgl _).setCell (p := ⟨g, l.length * 4 + 1, none⟩) hgl _).setCell (p := ⟨g, l.length * 4 + 2, none⟩) hgl _).setCell (p := ⟨g, l.length * 4 + 3, none⟩) hgl _
  · intro q h1 h2
    rw [set4_far _ _ _ _ _ _ _ _ h2, Below.heap_setCell _ _ _ _ h1]
  · exact (hb8.set 0 _).kept (set4_far _ _ _ _ _ _ _ _ (fun e => hgb e.symm))
  · exact setCell_congr (setCell_congr (setCell_congr (setCell_congr (Below.heap_setCell _ _ _ _ hgb))))

/-- The arrays in slots, and in frames. -/
def slotArrs (s : List Slot) : List Arr := s.flatMap fun x => match x with
  | .arr t => [t]
  | _ => []
def frArrs (l : List (Nat × List Slot)) : List Arr := l.flatMap fun x => slotArrs x.2
def preArrs (l : List (Nat × List Slot)) (pre : List (Nat × Nat)) : List Arr := pre.flatMap fun x => slotArrs ((l[x.1]?.map Prod.snd).getD [])
theorem slotArrs_snoc {s : List Slot} {i : Nat} (h : i < s.length) : slotArrs (s.take (i + 1)) = slotArrs (s.take i) ++ (match s[i] with
  | .arr t => [t]
  | _ => []) := by
  unfold slotArrs
  rw [List.take_succ_eq_append_getElem h, List.flatMap_append]
  simp only [List.flatMap_cons, List.flatMap_nil, List.append_nil]
theorem preArrs_snoc {l : List (Nat × List Slot)} {pre : List (Nat × Nat)} {x : Nat × Nat} {s : List Slot} (h : l[x.1 - 0]? = some (x.2, s)) : preArrs l (pre ++ [x]) = preArrs l pre ++ slotArrs s := by
  simp only [Nat.sub_zero] at h
  simp [preArrs, h]
theorem preArrs_all : ∀ (l : List (Nat × List Slot)) (m : List (Nat × List Slot)) (i : Nat), l.length = i → preArrs (l ++ m) (numFrom i (m.map Prod.fst)) = frArrs m
  | _, [], _, _ => rfl
  | l, y :: r, i, h => by
    have hg : (l ++ y :: r)[i]? = some y := by rw [List.getElem?_append_right (by omega), h, Nat.sub_self]; rfl
    have ih := preArrs_all (l ++ [y]) r (i + 1) (by simp [h])
    rw [List.append_assoc, List.singleton_append] at ih
    simp only [List.map_cons, numFrom]
    have e1 : preArrs (l ++ y :: r) ((i, y.1) :: numFrom (i + 1) (r.map Prod.fst)) = slotArrs y.2 ++ preArrs (l ++ y :: r) (numFrom (i + 1) (r.map Prod.fst)) := by simp [preArrs, hg]
    rw [e1, ih]
    simp [frArrs]
section
variable {P : Program} {ops : Array Oper} {Q : Exit → Act → World → Prop}
theorem wpIn_region_g0 {l nn id : Nat} {a : Act} {w : World} (H : List Nat) (n : Nat) (L : Array Bool) (S : World → Prop) (hm : P.follows .mixedOrders = true) (hn : ops.toList.all noDefer = true)
    (hok : (Region.noSelect ops && decide (H.length + n = ops.size) && gHead0 .any ops H (Array.replicate ops.size false) L) = true) (hS : S w.drew)
    (h : wpHead P ops S (fun a' => wpAnyG P .any ops (OnlyN (Q .normal)) S H n L a' w.drew) H a) : (Code.region id ops true).wpIn (Fence.wide.inRound l) nn P Q a w := by
  simp only [Bool.and_eq_true, decide_eq_true_eq] at hok
  obtain ⟨⟨hsel, hlen⟩, hg⟩ := hok
  have h1 := wpAnyG_head0 (R := Q .normal) (H := H) hsel hS H ops.size (Array.replicate ops.size false) a (fun _ h => h) hlen hg h
  exact region_round hm hn (wpAny_of_g _ _ _ _ h1)
end
end Go.Proofs.Ytgkemmdghmklfaa
