/-
  OWN ROWS AND ARRAYS IN THE MAKING, told not to be frozen. (Printed by gen_fz.py.)
-/
import Derived.Test.YtgkemmdghmklfaaInv
namespace Go.Proofs.Ytgkemmdghmklfaa
namespace Fz
set_option linter.unusedSimpArgs false
set_option linter.unusedVariables false
open Go.RowKit

/-- No cell of block b is frozen. -/
def NoFz (w : World) (b : Nat) : Prop := ∀ o, w.frozen? ⟨b, o, none⟩ = false
theorem NoFz.kept {w w' : World} {b : Nat} (h : NoFz w b) (e : w'.heap[b]? = w.heap[b]?) : NoFz w' b := fun o => by
  have h1 := h o
  simp only [World.frozen?, e] at h1 ⊢
  exact h1
theorem ArrAt.extF {P : Nat → Prop} {w w' : World} {t : Arr} {c0 c1 c2 c3 : Value} (h : ArrAt (fun q => P q ∧ NoFz w q) w t c0 c1 c2 c3) (e : Ext w w') : ArrAt (fun q => P q ∧ NoFz w' q) w' t c0 c1 c2 c3 :=
  ArrAt.mono (fun q hq hlt => ⟨⟨hq.1, hq.2.kept (e.block hlt)⟩, e.block hlt⟩) _ _ _ _ _ h
theorem IntsAt.moveC {F G : Nat → Prop} {w w' : World} {p : Option Addr} {xs : List Int} (h : IntsAt F w p xs) (hF : ∀ b, F b → (∃ o v, w.cell? ⟨b, o, none⟩ = some v) → G b ∧ w'.heap[b]? = w.heap[b]?) : IntsAt G w' p xs := by
  intro i hi
  obtain ⟨b, off, hp, hf, hc, h1, h2⟩ := h i hi
  obtain ⟨hg, hb⟩ := hF b hf ⟨_, _, hc⟩
  exact ⟨b, off, hp, hg, (World.cell?_of_block hb).trans hc, h1, h2⟩
mutual
theorem ArrAt.moveC {F G : Nat → Prop} {w w' : World} (hF : ∀ b, F b → (∃ o v, w.cell? ⟨b, o, none⟩ = some v) → G b ∧ w'.heap[b]? = w.heap[b]?) : ∀ (t : Arr) (c0 c1 c2 c3 : Value), ArrAt F w t c0 c1 c2 c3 → ArrAt G w' t c0 c1 c2 c3
  | .mk _ _ _ it, _, _, _, _, h => by
    unfold ArrAt at h ⊢
    obtain ⟨h0, hk, ⟨p1, c1, e1, o1, i1⟩, ⟨p2, c2, e2, o2, i2⟩, ⟨p3, c3, e3, o3, i3⟩⟩ := h
    exact ⟨h0, hk, ⟨p1, c1, e1, o1, IntsAt.moveC i1 hF⟩, ⟨p2, c2, e2, o2, IntsAt.moveC i2 hF⟩, ⟨p3, c3, e3, o3, ItemsAt.moveC hF it p3 0 i3⟩⟩
theorem ItemsAt.moveC {F G : Nat → Prop} {w w' : World} (hF : ∀ b, F b → (∃ o v, w.cell? ⟨b, o, none⟩ = some v) → G b ∧ w'.heap[b]? = w.heap[b]?) : ∀ (l : List Arr) (p : Option Addr) (i : Nat), ItemsAt F w p i l → ItemsAt G w' p i l
  | [], _, _, _ => by unfold ItemsAt; trivial
  | x :: r, p, i, h => by
    unfold ItemsAt at h ⊢
    obtain ⟨⟨b, off, c0, c1, c2, c3, hp, hf, k0, k1, k2, k3, ha⟩, hr⟩ := h
    obtain ⟨hg, hb⟩ := hF b hf ⟨_, _, k0⟩
    exact ⟨⟨b, off, c0, c1, c2, c3, hp, hg, (World.cell?_of_block hb).trans k0, (World.cell?_of_block hb).trans k1, (World.cell?_of_block hb).trans k2, (World.cell?_of_block hb).trans k3, ArrAt.moveC hF x _ _ _ _ ha⟩, ItemsAt.moveC hF r p (i + 1) hr⟩
end
/-- The value v owns a row of arrays that read as the trees. -/
def OwnA (B : Nat) (X : Nat → Prop) (w : World) (v : Value) (n : Nat) (l : List Arr) : Prop :=
  l.length = n ∧ (∀ g, v.ownBlock = some g → ¬ X g) ∧ ∃ cells, w.ownsRow B 26 4 v n cells ∧ CellsRead (fun b => Apart B X v b ∧ NoFz w b) w cells l
theorem OwnA.nil (B : Nat) (X : Nat → Prop) (w : World) : OwnA B X w (.slice none 0 0) 0 [] := ⟨rfl, by simp [Value.ownBlock], [], World.ownsRow_nil _ _ _ _, by unfold CellsRead; trivial⟩
theorem OwnA.same {B : Nat} {X Y : Nat → Prop} {w w' : World} {v : Value} {n : Nat} {l : List Arr} (h : OwnA B X w v n l) (hs : ∀ b, b < w.heap.size → B ≤ b → ¬ X b → w'.heap[b]? = w.heap[b]? ∧ ¬ Y b) : OwnA B Y w' v n l := by
  obtain ⟨h1, h4, cells, h3, h5⟩ := h
  have hl := h3.lt
  refine ⟨h1, fun g hg => (hs g (hl g hg).2 (hl g hg).1 (h4 g hg)).2, cells, ownsRow_same h3 fun g hg => (hs g (hl g hg).2 (hl g hg).1 (h4 g hg)).1, CellsRead.mono (fun b hb hlt => ?_) cells l h5⟩
  obtain ⟨⟨q1, q2, q3⟩, q4⟩ := hb
  obtain ⟨r1, r2⟩ := hs b hlt q1 q2
  exact ⟨⟨⟨q1, r2, q3⟩, q4.kept r1⟩, r1⟩
theorem OwnA.ext {B : Nat} {X : Nat → Prop} {w w' : World} {v : Value} {n : Nat} {l : List Arr} (h : OwnA B X w v n l) (e : Ext w w') : OwnA B X w' v n l := h.same fun _ hlt _ hx => ⟨e.block hlt, hx⟩
/-- Appending one array. -/
theorem OwnA.appended {B : Nat} {X : Nat → Prop} {w w' : World} {v : Value} {n g cap : Nat} {l : List Arr} {x : Arr} {c0 c1 c2 c3 : Value} {cells : List Value} (h1 : l.length = n) (h4 : ∀ g, v.ownBlock = some g → ¬ X g)
    (h5 : CellsRead (fun b => Apart B X v b ∧ NoFz w b) w cells l) (hX : ∀ b, X b → b < w.heap.size) (hx : ArrAt (fun b => Apart B X v b ∧ NoFz w b) w x c0 c1 c2 c3)
    (hr : w'.ownsRow B 26 4 (.slice (some ⟨g, 0, none⟩) (n + 1) cap) (n + 1) (cells ++ [c0, c1, c2, c3])) (hg : w.grownBy w' v.ownBlock) (hat : v.ownBlock = some g ∨ g = w.heap.size) :
    OwnA B X w' (.slice (some ⟨g, 0, none⟩) (n + 1) cap) (n + 1) (l ++ [x]) := by
  have key : ∀ b, (Apart B X v b ∧ NoFz w b) → b < w.heap.size → (Apart B X (.slice (some ⟨g, 0, none⟩) (n + 1) cap) b ∧ NoFz w' b) ∧ w'.heap[b]? = w.heap[b]? := by
    intro b ⟨⟨b1, b2, b3⟩, b4⟩ hlt
    refine ⟨⟨⟨b1, b2, ?_⟩, b4.kept (hg.block b hlt (fun e => b3 e.symm))⟩, hg.block b hlt (fun e => b3 e.symm)⟩
    simp only [Value.ownBlock, ne_eq, Option.some.injEq]
    rcases hat with hat | hat
    · intro e; subst e; exact b3 hat
    · omega
  refine ⟨by simp [h1], fun g' hg' => ?_, _, hr, ?_⟩
  · simp only [Value.ownBlock, Option.some.injEq] at hg'
    subst hg'
    rcases hat with hat | hat
    · exact h4 _ hat
    · exact fun hx => by have := hX _ hx; omega
  · exact CellsRead.snoc (ArrAt.mono key x _ _ _ _ hx) _ _ (CellsRead.mono key _ _ h5)
theorem wpList_append_arr {ops : Array Oper} {rest : List Oper} {o : Oper} {a : Act} {w : World} {Q : Exit → Act → World → Prop} (hgd : o.guard = none) (s x : Operand)
    (ho : o.op = .call { callee := .builtin .append, args := #[s, x], argTypes := #[24, 24] })
    (B : Nat) (X : Nat → Prop) (v : Value) (n : Nat) (l : List Arr) (y : Arr) (c0 c1 c2 c3 : Value) (hs : a.eval s = v) (hown : OwnA B X w v n l) (b c : Nat) (hx : a.eval x = .slice (some ⟨b, 0, none⟩) 1 c) (hb : Box4 w b c0 c1 c2 c3)
    (hX : ∀ b, X b → b < w.heap.size) (hy : ArrAt (fun b => Apart B X v b ∧ NoFz w b) w y c0 c1 c2 c3) (hn : n < 1759218604391) (hB : B ≤ w.heap.size)
    (h : ∀ g cap w', OwnA B X w' (.slice (some ⟨g, 0, none⟩) (n + 1) cap) (n + 1) (l ++ [y]) → w.grownBy w' v.ownBlock → (v.ownBlock = some g ∨ g = w.heap.size) → g < w'.heap.size → B ≤ g →
      wpList Try.prog ops Q rest (a.put o.dst (.slice (some ⟨g, 0, none⟩) (n + 1) cap)) w') : wpList Try.prog ops Q (o :: rest) a w := by
  obtain ⟨i0, hi, hz0, hz1, hz2⟩ := info_parts infoA
  obtain ⟨k1, k4, cells, k3, k5⟩ := hown
  refine wpList_append_lies w hgd s x 24 ho B 26 i0 _ 4 80 Try.underlying24 hi hz0 hz1 hz2 rfl (by decide) v n _ hs k3 ⟨b, 0, none⟩ 1 c [c0, c1, c2, c3] hx rfl ?_ hy.one (by decide) (by unfold maxLen; omega) (by omega) hB w.heap.size rfl ?_
  · exact World.news_of_block (cs := #[c0, c1, c2, c3]) hb
  · intro g cap w' h1 hgrow hat hlt
    exact h g cap w' (OwnA.appended k1 k4 k5 hX hy h1 hgrow hat) hgrow hat hlt (h1.lt g rfl).1
/-- What is owned reads as the list. -/
theorem ownI_ints {B : Nat} {X : Nat → Prop} {w : World} {v : Value} {n : Nat} {xs : List Int} (h : OwnI B X w v n xs) : ∃ p c, v = .slice p xs.length c ∧ SlOk xs.length c ∧ IntsAt (fun b => B ≤ b ∧ ¬ X b ∧ NoFz w b) w p xs := by
  obtain ⟨k1, k2, k3, k4, k5⟩ := h
  have kc := k3
  rcases k3.2 with ⟨rfl, rfl⟩ | ⟨g, cap, cur, rfl, hb, hg, hnc, hcm, hcs, htake⟩
  · have : xs = [] := List.eq_nil_of_length_eq_zero k1
    subst this
    exact ⟨none, 0, rfl, ⟨by simp, by simp, by simp⟩, fun i hi => by simp at hi⟩
  · refine ⟨some ⟨g, 0, none⟩, cap, by rw [k1], ⟨by omega, by unfold maxLen at hcm; omega, by omega⟩, fun i hi => ⟨g, 0, rfl, ⟨hb, k4 g rfl, fun o => kc.frozenAt o⟩, ?_, ?_⟩⟩
    · have := kc.cells (g := g) rfl i (.int .i64 (xs.getD i 0)) (by simp [List.getD, hi])
      simpa [Addr.add_lit] using this
    · exact k5 _ (by simp [List.getD, hi])
theorem CellsRead.items {H : Nat → Prop} {w : World} {g : Nat} {F : Nat → Prop} : ∀ (cs : List Value) (l : List Arr) (i : Nat), CellsRead F w cs l → (∀ j u, cs[j]? = some u → w.cell? ⟨g, i * 4 + j, none⟩ = some u) → (∀ b, F b → H b) → H g →
    ItemsAt H w (some ⟨g, 0, none⟩) i l
  | [], [], _, _, _, _, _ => by unfold ItemsAt; trivial
  | c0 :: c1 :: c2 :: c3 :: cs, x :: r, i, h, hc, hF, hg => by
    unfold CellsRead at h
    unfold ItemsAt
    refine ⟨⟨g, 0, c0, c1, c2, c3, rfl, hg, ?_, ?_, ?_, ?_, ArrAt.mono (fun b hb _ => ⟨hF b hb, rfl⟩) x _ _ _ _ h.1⟩, CellsRead.items cs r (i + 1) h.2 (fun j u hj => ?_) hF hg⟩
    · have := hc 0 c0 rfl; simpa using this
    · have := hc 1 c1 rfl; simpa using this
    · have := hc 2 c2 rfl; simpa using this
    · have := hc 3 c3 rfl; simpa using this
    · have := hc (j + 4) u (by simpa using hj)
      rw [show (i + 1) * 4 + j = i * 4 + (j + 4) by omega]
      exact this
  | [], _ :: _, _, h, _, _, _ => by unfold CellsRead at h; exact h.elim
  | [_], _, _, h, _, _, _ => by unfold CellsRead at h; exact h.elim
  | [_, _], _, _, h, _, _, _ => by unfold CellsRead at h; exact h.elim
  | [_, _, _], _, _, h, _, _, _ => by unfold CellsRead at h; exact h.elim
  | _ :: _ :: _ :: _ :: _, [], _, h, _, _, _ => by unfold CellsRead at h; exact h.elim
theorem OwnA.items {B : Nat} {X : Nat → Prop} {w : World} {v : Value} {n : Nat} {l : List Arr} (h : OwnA B X w v n l) (hn : n ≤ 1759218604391) : ∃ p c, v = .slice p l.length c ∧ ItOk l.length c ∧ ItemsAt (fun b => B ≤ b ∧ ¬ X b ∧ NoFz w b) w p 0 l := by
  obtain ⟨k1, k4, cells, k3, k5⟩ := h
  have kc := k3
  rcases k3.2 with ⟨rfl, rfl⟩ | ⟨g, cap, cur, rfl, hb, hg, hnc, hcm, hcs, htake⟩
  · have : l = [] := List.eq_nil_of_length_eq_zero k1
    subst this
    exact ⟨none, 0, rfl, ⟨by simp, by simp, by simp⟩, by unfold ItemsAt; trivial⟩
  · refine ⟨some ⟨g, 0, none⟩, cap, by rw [k1], ⟨by omega, by unfold maxLen at hcm; omega, by omega⟩, CellsRead.items cells l 0 k5 (fun j u hj => ?_) (fun b hb => ⟨hb.1.1, hb.1.2.1, hb.2⟩) ⟨hb, k4 g rfl, fun o => kc.frozenAt o⟩⟩
    have := kc.cells (g := g) rfl j u hj
    rw [Nat.zero_mul]
    rw [Addr.add_lit] at this
    exact this
/-- Box b is an array in the making: kind k, shape v1 (reads as s), numbers v2 (read as n), items v (read as l); w0: the world at whose end the call's own blocks begin. -/
structure Mk (w0 w : World) (b : Nat) (k : Int) (v1 v2 v : Value) (s n : List Int) (l : List Arr) : Prop where
  ext : Ext w0 w
  le : w0.heap.size ≤ b
  box : Box4 w b (.int .i64 k) v1 v2 v
  o1 : OwnI w0.heap.size (fun x => x = b) w v1 s.length s
  o2 : OwnI w0.heap.size (fun x => x = b) w v2 n.length n
  oa : OwnA w0.heap.size (XOf b v1 v2) w v l.length l

theorem Mk.next {w0 w w' : World} {b : Nat} {k : Int} {v1 v2 v : Value} {s n : List Int} {l : List Arr} (h : Mk w0 w b k v1 v2 v s n l) (e : Ext w w') : Mk w0 w' b k v1 v2 v s n l :=
  ⟨h.ext.trans e, h.le, h.box.ext e, h.o1.ext e, h.o2.ext e, h.oa.ext e⟩

theorem XOf.lt {w0 w : World} {b : Nat} {k : Int} {v1 v2 v : Value} {s n : List Int} {l : List Arr} (h : Mk w0 w b k v1 v2 v s n l) (x : Nat) (hx : XOf b v1 v2 x) : x < w.heap.size := by
  rcases hx with rfl | hx | hx
  · exact h.box.lt
  · exact (h.o1.2.2.1.lt x hx).2
  · exact (h.o2.2.2.1.lt x hx).2

/-- Behind an append to the items, ahead of the store into the box. -/
theorem Mk.grown {w0 w w' : World} {b : Nat} {k : Int} {v1 v2 v : Value} {s n : List Int} {l : List Arr} (h : Mk w0 w b k v1 v2 v s n l) (hg : w.grownBy w' v.ownBlock) :
    Ext w0 w' ∧ Box4 w' b (.int .i64 k) v1 v2 v ∧ OwnI w0.heap.size (fun x => x = b) w' v1 s.length s ∧ OwnI w0.heap.size (fun x => x = b) w' v2 n.length n := by
  obtain ⟨_, hx, cells, hr, _⟩ := h.oa
  have hl := hr.lt
  refine ⟨h.ext.grown hg h.ext.lt (fun q e => (hl q e).1), h.box.kept (hg.block b h.box.lt (fun e => hx b e.symm (.inl rfl))), h.o1.same fun g hg1 hlt hne => ⟨hg.block g hlt (fun e => hx g e.symm (.inr (.inl hg1))), hne⟩, h.o2.same fun g hg1 hlt hne => ⟨hg.block g hlt (fun e => hx g e.symm (.inr (.inr hg1))), hne⟩⟩

/-- Behind the store of the items' new value. -/
theorem Mk.stored {w0 w' : World} {b : Nat} {k : Int} {v1 v2 v v' : Value} {s n : List Int} {l' : List Arr} (hle : w0.heap.size ≤ b) (hE : Ext w0 w') (hbox : Box4 w' b (.int .i64 k) v1 v2 v) (o1 : OwnI w0.heap.size (fun x => x = b) w' v1 s.length s)
    (o2 : OwnI w0.heap.size (fun x => x = b) w' v2 n.length n) (oa : OwnA w0.heap.size (XOf b v1 v2) w' v' l'.length l') : Mk w0 (w'.setCell ⟨b, 3, none⟩ v') b k v1 v2 v' s n l' := by
  refine ⟨hE.setCell (p := ⟨b, 3, none⟩) hle v', hle, hbox.set3 v', o1.same fun g _ _ hne => ⟨Below.heap_setCell _ _ _ _ (fun e => hne (by simpa using e)), hne⟩, o2.same fun g _ _ hne => ⟨Below.heap_setCell _ _ _ _ (fun e => hne (by simpa using e)), hne⟩, oa.same fun x _ _ hne => ⟨Below.heap_setCell _ _ _ _ (fun e => hne (.inl (by simpa using e))), hne⟩⟩

/-- The box's four cells read as the array. -/
theorem Mk.arr {w0 w : World} {b : Nat} {k : Int} {v1 v2 v : Value} {s n : List Int} {l : List Arr} (h : Mk w0 w b k v1 v2 v s n l) (hk : -9223372036854775808 ≤ k ∧ k ≤ 9223372036854775807) (hl : l.length ≤ 1759218604391) :
    ArrAt (fun x => (w0.heap.size ≤ x ∧ x ≠ b) ∧ NoFz w x) w (.mk k s n l) (.int .i64 k) v1 v2 v := by
  unfold ArrAt
  obtain ⟨p1, c1, e1, q1, i1⟩ := ownI_ints h.o1
  obtain ⟨p2, c2, e2, q2, i2⟩ := ownI_ints h.o2
  obtain ⟨p3, c3, e3, q3, i3⟩ := h.oa.items hl
  exact ⟨rfl, hk, ⟨p1, c1, e1, q1, i1.mono fun x hx _ => ⟨⟨⟨hx.1, hx.2.1⟩, hx.2.2⟩, rfl⟩⟩, ⟨p2, c2, e2, q2, i2.mono fun x hx _ => ⟨⟨⟨hx.1, hx.2.1⟩, hx.2.2⟩, rfl⟩⟩, ⟨p3, c3, e3, q3, ItemsAt.mono (fun x hx _ => ⟨⟨⟨hx.1, fun e => hx.2.1 (.inl e)⟩, hx.2.2⟩, rfl⟩) l p3 0 i3⟩⟩
theorem Mk.arr' {w0 w : World} {b : Nat} {k : Int} {v1 v2 v : Value} {s n : List Int} {l : List Arr} (h : Mk w0 w b k v1 v2 v s n l) (hk : -9223372036854775808 ≤ k ∧ k ≤ 9223372036854775807) (hl : l.length ≤ 1759218604391) :
    ArrAt (fun x => w0.heap.size ≤ x ∧ NoFz w x) w (.mk k s n l) (.int .i64 k) v1 v2 v := ArrAt.mono (fun _ hx _ => ⟨⟨hx.1.1, hx.2⟩, rfl⟩) _ _ _ _ _ (h.arr hk hl)
theorem Mk.forms {w0 w : World} {b : Nat} {k : Int} {v1 v2 v : Value} {s n : List Int} {l : List Arr} (h : Mk w0 w b k v1 v2 v s n l) : (∃ p c, v1 = .slice p s.length c) ∧ (∃ p c, v2 = .slice p n.length c) ∧ ∃ p c, v = .slice p l.length c := by
  obtain ⟨p1, c1, e1, q1, i1⟩ := ownI_ints h.o1
  obtain ⟨p2, c2, e2, q2, i2⟩ := ownI_ints h.o2
  refine ⟨⟨p1, c1, e1⟩, ⟨p2, c2, e2⟩, ?_⟩
  obtain ⟨_, _, cells, hr, _⟩ := h.oa
  rcases hr.2 with ⟨rfl, h0⟩ | ⟨g, cap, cur, rfl, _⟩
  · exact ⟨none, 0, by rw [h0]⟩
  · exact ⟨_, _, rfl⟩

/-- An array in the making whose items' row is filled from the front: 'l' so far, of 'len'. -/
structure MkA (w0 w : World) (b : Nat) (k : Int) (v1 v2 : Value) (g len : Nat) (s n : List Int) (l : List Arr) : Prop where
  ext : Ext w0 w
  le : w0.heap.size ≤ b
  box : Box4 w b (.int .i64 k) v1 v2 (.slice (some ⟨g, 0, none⟩) len len)
  o1 : OwnI w0.heap.size (fun x => x = b) w v1 s.length s
  o2 : OwnI w0.heap.size (fun x => x = b) w v2 n.length n
  hx : ¬ XOf b v1 v2 g
  hl : l.length ≤ len
  row : ∃ cells, w.ownsRow w0.heap.size 26 4 (.slice (some ⟨g, 0, none⟩) len len) len cells ∧ CellsRead (fun q => Apart w0.heap.size (XOf b v1 v2) (.slice (some ⟨g, 0, none⟩) len len) q ∧ NoFz w q) w (cells.take (l.length * 4)) l

theorem MkA.next {w0 w w' : World} {b : Nat} {k : Int} {v1 v2 : Value} {g len : Nat} {s n : List Int} {l : List Arr} (h : MkA w0 w b k v1 v2 g len s n l) (e : Ext w w') : MkA w0 w' b k v1 v2 g len s n l := by
  obtain ⟨cells, h1, h2⟩ := h.row
  have hl := h1.lt
  exact ⟨h.ext.trans e, h.le, h.box.ext e, h.o1.ext e, h.o2.ext e, h.hx, h.hl, cells, ownsRow_same h1 fun q hq => e.block (hl q hq).2, CellsRead.mono (fun _ hb hlt => ⟨⟨hb.1, hb.2.kept (e.block hlt)⟩, e.block hlt⟩) _ _ h2⟩

theorem MkA.stored {w0 w : World} {b : Nat} {k : Int} {v1 v2 : Value} {g len : Nat} {s n : List Int} {l : List Arr} {x : Arr} {c0 c1 c2 c3 : Value} (h : MkA w0 w b k v1 v2 g len s n l) (hlt : l.length < len)
    (hx : ArrAt (fun q => Apart w0.heap.size (XOf b v1 v2) (.slice (some ⟨g, 0, none⟩) len len) q ∧ NoFz w q) w x c0 c1 c2 c3) :
    MkA w0 ((((w.setCell ⟨g, l.length * 4, none⟩ c0).setCell ⟨g, l.length * 4 + 1, none⟩ c1).setCell ⟨g, l.length * 4 + 2, none⟩ c2).setCell ⟨g, l.length * 4 + 3, none⟩ c3) b k v1 v2 g len s n (l ++ [x]) := by
  obtain ⟨cells, h1, h2⟩ := h.row
  have hg := (h1.lt g rfl).1
  have a0 := (h1.stored (l.length * 4) c0).1
  have a1 := (a0.stored (l.length * 4 + 1) c1).1
  have a2 := (a1.stored (l.length * 4 + 2) c2).1
  have a3 := (a2.stored (l.length * 4 + 3) c3).1
  have far : ∀ q, q ≠ g → ((((w.setCell ⟨g, l.length * 4, none⟩ c0).setCell ⟨g, l.length * 4 + 1, none⟩ c1).setCell ⟨g, l.length * 4 + 2, none⟩ c2).setCell ⟨g, l.length * 4 + 3, none⟩ c3).heap[q]? = w.heap[q]? := fun q hq => by
    rw [Below.heap_setCell _ _ _ _ hq, Below.heap_setCell _ _ _ _ hq, Below.heap_setCell _ _ _ _ hq, Below.heap_setCell _ _ _ _ hq]
  have key : ∀ q, (Apart w0.heap.size (XOf b v1 v2) (.slice (some ⟨g, 0, none⟩) len len) q ∧ NoFz w q) → q < w.heap.size → (Apart w0.heap.size (XOf b v1 v2) (.slice (some ⟨g, 0, none⟩) len len) q ∧ NoFz ((((w.setCell ⟨g, l.length * 4, none⟩ c0).setCell ⟨g, l.length * 4 + 1, none⟩ c1).setCell ⟨g, l.length * 4 + 2, none⟩ c2).setCell ⟨g, l.length * 4 + 3, none⟩ c3) q) ∧
      ((((w.setCell ⟨g, l.length * 4, none⟩ c0).setCell ⟨g, l.length * 4 + 1, none⟩ c1).setCell ⟨g, l.length * 4 + 2, none⟩ c2).setCell ⟨g, l.length * 4 + 3, none⟩ c3).heap[q]? = w.heap[q]? := fun q hq _ =>
    ⟨⟨hq.1, hq.2.kept (far q (fun e => hq.1.2.2 (by simp [Value.ownBlock, e])))⟩, far q (fun e => hq.1.2.2 (by simp [Value.ownBlock, e]))⟩
  refine ⟨(((h.ext.setCell (p := ⟨g, l.length * 4, none⟩) hg _).setCell (p := ⟨g, l.length * 4 + 1, none⟩) hg _).setCell (p := ⟨g, l.length * 4 + 2, none⟩) hg _).setCell (p := ⟨g, l.length * 4 + 3, none⟩) hg _, h.le, h.box.kept (far b (fun e => h.hx (.inl e.symm))), ?_, ?_, h.hx, by simp; omega, _, a3, ?_⟩
  · exact h.o1.same fun q hq _ hne => ⟨far q (fun e => h.hx (.inr (.inl (by rw [← e]; exact hq)))), hne⟩
  · exact h.o2.same fun q hq _ hne => ⟨far q (fun e => h.hx (.inr (.inr (by rw [← e]; exact hq)))), hne⟩
  · have hlen : (l ++ [x]).length = l.length + 1 := by simp
    have hc : l.length * 4 + 4 ≤ cells.length := by have := h1.1; omega
    rw [hlen, set4_take cells l.length hc]
    exact CellsRead.snoc (ArrAt.mono key x _ _ _ _ hx) _ _ (CellsRead.mono key _ _ h2)

/-- A block that lies at or beyond the heap's end is apart. -/
theorem MkA.apart {w0 w : World} {b : Nat} {k : Int} {v1 v2 : Value} {g len : Nat} {s n : List Int} {l : List Arr} (h : MkA w0 w b k v1 v2 g len s n l) (q : Nat) (hq : w.heap.size ≤ q) : Apart w0.heap.size (XOf b v1 v2) (.slice (some ⟨g, 0, none⟩) len len) q := by
  obtain ⟨cells, h1, h2⟩ := h.row
  have hl := h1.lt
  have h0 := h.ext.lt
  have hb := h.box.lt
  have k1 := h.o1.2.2.1.lt
  have k2 := h.o2.2.2.1.lt
  refine ⟨by omega, ?_, fun e => by have := (hl q e).2; omega⟩
  rintro (e | e | e)
  · omega
  · have := (k1 q e).2; omega
  · have := (k2 q e).2; omega

/-- The cells of element j of the row: there, and not frozen. -/
theorem MkA.slot {w0 w : World} {b : Nat} {k : Int} {v1 v2 : Value} {g len : Nat} {s n : List Int} {l : List Arr} (h : MkA w0 w b k v1 v2 g len s n l) {j : Nat} (hj : j < len) :
    (∃ u, w.cell? ⟨g, j * 4, none⟩ = some u) ∧ (∃ u, w.cell? ⟨g, j * 4 + 1, none⟩ = some u) ∧ (∃ u, w.cell? ⟨g, j * 4 + 2, none⟩ = some u) ∧ (∃ u, w.cell? ⟨g, j * 4 + 3, none⟩ = some u) ∧ ∀ o, w.frozen? ⟨g, o, none⟩ = false := by
  obtain ⟨cells, h1, _⟩ := h.row
  have hc := h1.1
  refine ⟨⟨_, (h1.cellAt (j * 4) (by omega)).trans (List.getElem?_eq_getElem (by omega))⟩, ⟨_, (h1.cellAt (j * 4 + 1) (by omega)).trans (List.getElem?_eq_getElem (by omega))⟩, ⟨_, (h1.cellAt (j * 4 + 2) (by omega)).trans (List.getElem?_eq_getElem (by omega))⟩,
    ⟨_, (h1.cellAt (j * 4 + 3) (by omega)).trans (List.getElem?_eq_getElem (by omega))⟩, fun o => h1.frozenAt o⟩

theorem MkA.done {w0 w : World} {b : Nat} {k : Int} {v1 v2 : Value} {g len : Nat} {s n : List Int} {l : List Arr} (h : MkA w0 w b k v1 v2 g len s n l) (hl : l.length = len) : Mk w0 w b k v1 v2 (.slice (some ⟨g, 0, none⟩) len len) s n l := by
  obtain ⟨cells, h1, h2⟩ := h.row
  refine ⟨h.ext, h.le, h.box, h.o1, h.o2, rfl, fun q hq => ?_, cells, by rw [hl]; exact h1, ?_⟩
  · simp only [Value.ownBlock, Option.some.injEq] at hq
    rw [← hq]; exact h.hx
  · rw [List.take_of_length_le (by have := h1.1; omega)] at h2
    exact h2
end Fz
end Go.Proofs.Ytgkemmdghmklfaa
