/-
  THE WALK of the reference's Cells. (Printed by gen_rcells.py.) (Merged: MkR, ChainA, AppA, MkR2, RCells.)
-/
import Derived.Test.YtgkemmdghmklfaaApp2
import Derived.Test.YtgkemmdghmklfaaChain
import Derived.Test.YtgkemmdghmklfaaM25C
namespace Go.Proofs.Ytgkemmdghmklfaa
set_option linter.unusedSimpArgs false
set_option linter.unusedVariables false
open Go.RowKit

def ApartR (R X : Nat → Prop) (v : Value) (b : Nat) : Prop := R b ∧ ¬ X b ∧ v.ownBlock ≠ some b
/-- The value v owns a row of arrays that read as the trees, in the blocks R. -/
def OwnR (B : Nat) (R X : Nat → Prop) (w : World) (v : Value) (n : Nat) (l : List Arr) : Prop :=
  l.length = n ∧ (∀ g, v.ownBlock = some g → ¬ X g) ∧ ∃ cells, w.ownsRow B 26 4 v n cells ∧ CellsRead (ApartR R X v) w cells l
theorem OwnR.nil (B : Nat) (R X : Nat → Prop) (w : World) : OwnR B R X w (.slice none 0 0) 0 [] := ⟨rfl, by simp [Value.ownBlock], [], World.ownsRow_nil _ _ _ _, by unfold CellsRead; trivial⟩
theorem OwnR.same {B : Nat} {R X Y : Nat → Prop} {w w' : World} {v : Value} {n : Nat} {l : List Arr} (h : OwnR B R X w v n l) (hR : ∀ b, B ≤ b → R b) (hs : ∀ b, b < w.heap.size → R b → ¬ X b → w'.heap[b]? = w.heap[b]? ∧ ¬ Y b) : OwnR B R Y w' v n l := by
  obtain ⟨h1, h4, cells, h3, h5⟩ := h
  have hl := h3.lt
  refine ⟨h1, fun g hg => (hs g (hl g hg).2 (hR g (hl g hg).1) (h4 g hg)).2, cells, ownsRow_same h3 fun g hg => (hs g (hl g hg).2 (hR g (hl g hg).1) (h4 g hg)).1, CellsRead.mono (fun b hb hlt => ?_) cells l h5⟩
  obtain ⟨q1, q2, q3⟩ := hb
  obtain ⟨r1, r2⟩ := hs b hlt q1 q2
  exact ⟨⟨q1, r2, q3⟩, r1⟩
theorem OwnR.ext {B : Nat} {R X : Nat → Prop} {w w' : World} {v : Value} {n : Nat} {l : List Arr} (h : OwnR B R X w v n l) (hR : ∀ b, B ≤ b → R b) (e : Ext w w') : OwnR B R X w' v n l := h.same hR fun _ hlt _ hx => ⟨e.block hlt, hx⟩
theorem OwnR.appended {B : Nat} {R X : Nat → Prop} {w w' : World} {v : Value} {n g cap : Nat} {l : List Arr} {x : Arr} {c0 c1 c2 c3 : Value} {cells : List Value} (h1 : l.length = n) (h4 : ∀ g, v.ownBlock = some g → ¬ X g)
    (h5 : CellsRead (ApartR R X v) w cells l) (hX : ∀ b, X b → b < w.heap.size) (hx : ArrAt (ApartR R X v) w x c0 c1 c2 c3)
    (hr : w'.ownsRow B 26 4 (.slice (some ⟨g, 0, none⟩) (n + 1) cap) (n + 1) (cells ++ [c0, c1, c2, c3])) (hg : w.grownBy w' v.ownBlock) (hat : v.ownBlock = some g ∨ g = w.heap.size) :
    OwnR B R X w' (.slice (some ⟨g, 0, none⟩) (n + 1) cap) (n + 1) (l ++ [x]) := by
  have key : ∀ b, ApartR R X v b → b < w.heap.size → ApartR R X (.slice (some ⟨g, 0, none⟩) (n + 1) cap) b ∧ w'.heap[b]? = w.heap[b]? := by
    intro b ⟨b1, b2, b3⟩ hlt
    refine ⟨⟨b1, b2, ?_⟩, hg.block b hlt (fun e => b3 e.symm)⟩
    simp only [Value.ownBlock, ne_eq, Option.some.injEq]
    rcases hat with hat | hat
    · intro e; subst e; exact b3 hat
    · omega
  refine ⟨by simp [h1], fun g' hg' => ?_, _, hr, ?_⟩
  · simp only [Value.ownBlock, Option.some.injEq] at hg'
    subst hg'
    rcases hat with hat | hat
    · exact h4 _ hat
    · exact fun hx => by have := hX _ hx; omega
  · exact CellsRead.snoc (ArrAt.mono key x _ _ _ _ hx) _ _ (CellsRead.mono key _ _ h5)
theorem wpList_append_arrR {ops : Array Oper} {rest : List Oper} {o : Oper} {a : Act} {w : World} {Q : Exit → Act → World → Prop} (hgd : o.guard = none) (s x : Operand)
    (ho : o.op = .call { callee := .builtin .append, args := #[s, x], argTypes := #[24, 24] })
    (B : Nat) (R X : Nat → Prop) (v : Value) (n : Nat) (l : List Arr) (y : Arr) (c0 c1 c2 c3 : Value) (hs : a.eval s = v) (hown : OwnR B R X w v n l) (b c : Nat) (hx : a.eval x = .slice (some ⟨b, 0, none⟩) 1 c) (hb : Box4 w b c0 c1 c2 c3)
    (hX : ∀ b, X b → b < w.heap.size) (hy : ArrAt (ApartR R X v) w y c0 c1 c2 c3) (hn : n < 1759218604391) (hB : B ≤ w.heap.size)
    (h : ∀ g cap w', OwnR B R X w' (.slice (some ⟨g, 0, none⟩) (n + 1) cap) (n + 1) (l ++ [y]) → w.grownBy w' v.ownBlock → (v.ownBlock = some g ∨ g = w.heap.size) → g < w'.heap.size → B ≤ g →
      wpList Try.prog ops Q rest (a.put o.dst (.slice (some ⟨g, 0, none⟩) (n + 1) cap)) w') : wpList Try.prog ops Q (o :: rest) a w := by
  obtain ⟨i0, hi, hz0, hz1, hz2⟩ := info_parts infoA
  obtain ⟨k1, k4, cells, k3, k5⟩ := hown
  refine wpList_append_lies w hgd s x 24 ho B 26 i0 _ 4 80 Try.underlying24 hi hz0 hz1 hz2 rfl (by decide) v n _ hs k3 ⟨b, 0, none⟩ 1 c [c0, c1, c2, c3] hx rfl ?_ hy.one (by decide) (by unfold maxLen; omega) (by omega) hB w.heap.size rfl ?_
  · exact World.news_of_block (cs := #[c0, c1, c2, c3]) hb
  · intro g cap w' h1 hgrow hat hlt
    exact h g cap w' (OwnR.appended k1 k4 k5 hX hy h1 hgrow hat) hgrow hat hlt (h1.lt g rfl).1
theorem OwnR.items {B : Nat} {R X : Nat → Prop} {w : World} {v : Value} {n : Nat} {l : List Arr} (h : OwnR B R X w v n l) (hR : ∀ b, B ≤ b → R b) (hn : n ≤ 1759218604391) : ∃ p c, v = .slice p l.length c ∧ ItOk l.length c ∧ ItemsAt (fun b => R b ∧ ¬ X b) w p 0 l := by
  obtain ⟨k1, k4, cells, k3, k5⟩ := h
  have kc := k3
  rcases k3.2 with ⟨rfl, rfl⟩ | ⟨g, cap, cur, rfl, hb, hg, hnc, hcm, hcs, htake⟩
  · have : l = [] := List.eq_nil_of_length_eq_zero k1
    subst this
    exact ⟨none, 0, rfl, ⟨by simp, by simp, by simp⟩, by unfold ItemsAt; trivial⟩
  · refine ⟨some ⟨g, 0, none⟩, cap, by rw [k1], ⟨by omega, by unfold maxLen at hcm; omega, by omega⟩, ?_⟩
    have := CellsRead.items (B := 0) (X := fun b => ¬ (R b ∧ ¬ X b)) (g := g) cells l 0 k5 (fun j u hj => ?_) (fun b hb => ⟨Nat.zero_le _, fun h => h ⟨hb.1, hb.2.1⟩⟩) ⟨Nat.zero_le _, fun h => h ⟨hR g hb, k4 g rfl⟩⟩
    · exact ItemsAt.mono (fun b hb _ => ⟨Classical.byContradiction fun h => hb.2 h, rfl⟩) _ _ _ this
    · have := kc.cells (g := g) rfl j u hj
      rw [Nat.zero_mul]
      rw [Addr.add_lit] at this
      exact this

/-- Box b: kind k, shape v1, numbers v2, items v3. X: the box and whatever else the rows are apart from. -/
structure MkR (w0 wB w : World) (R X : Nat → Prop) (b : Nat) (k : Int) (v1 v2 v3 : Value) (n : List Int) (l : List Arr) : Prop where
  ext : Ext w0 w
  le : w0.heap.size ≤ b
  box : Box4 w b (.int .i64 k) v1 v2 v3
  xb : X b
  xl : ∀ x, X x → x < w.heap.size
  on : OwnI wB.heap.size (fun x => X x ∨ v3.ownBlock = some x) w v2 n.length n
  hB : w0.heap.size ≤ wB.heap.size
  wl : wB.heap.size ≤ w.heap.size
  keep : ∀ q, q < wB.heap.size → q ≠ b → w.heap[q]? = wB.heap[q]?
  rr : ∀ b, wB.heap.size ≤ b → R b
  oi : OwnR wB.heap.size R (fun x => X x ∨ v2.ownBlock = some x) w v3 l.length l

theorem MkR.fresh {w0 w : World} {R X : Nat → Prop} {b : Nat} {k : Int} {v1 : Value} (h1 : Ext w0 w) (h2 : w0.heap.size ≤ b) (h3 : Box4 w b (.int .i64 k) v1 (.slice none 0 0) (.slice none 0 0)) (h4 : X b) (h5 : ∀ x, X x → x < w.heap.size) (h6 : ∀ b, w.heap.size ≤ b → R b) (hB : w0.heap.size ≤ w.heap.size) :
    MkR w0 w w R X b k v1 (.slice none 0 0) (.slice none 0 0) [] [] := ⟨h1, h2, h3, h4, h5, OwnI.nil _ _ _, hB, Nat.le_refl _, fun _ _ _ => rfl, h6, OwnR.nil _ _ _ _⟩

theorem MkR.next {w0 wB w w' : World} {R X : Nat → Prop} {b : Nat} {k : Int} {v1 v2 v3 : Value} {n : List Int} {l : List Arr} (h : MkR w0 wB w R X b k v1 v2 v3 n l) (e : Ext w w') : MkR w0 wB w' R X b k v1 v2 v3 n l :=
  ⟨h.ext.trans e, h.le, h.box.ext e, h.xb, fun x hx => Nat.lt_of_lt_of_le (h.xl x hx) e.lt, h.on.ext e, h.hB, Nat.le_trans h.wl e.lt, fun q hq hqb => (e.block (Nat.lt_of_lt_of_le hq h.wl)).trans (h.keep q hq hqb), h.rr, h.oi.ext h.rr e⟩

theorem MkR.xl2 {w0 wB w : World} {R X : Nat → Prop} {b : Nat} {k : Int} {v1 v2 v3 : Value} {n : List Int} {l : List Arr} (h : MkR w0 wB w R X b k v1 v2 v3 n l) : ∀ x, (X x ∨ v3.ownBlock = some x) → x < w.heap.size := by
  intro x hx
  rcases hx with hx | hx
  · exact h.xl x hx
  · obtain ⟨_, _, cells, hr, _⟩ := h.oi
    exact (hr.lt x hx).2
theorem MkR.xl3 {w0 wB w : World} {R X : Nat → Prop} {b : Nat} {k : Int} {v1 v2 v3 : Value} {n : List Int} {l : List Arr} (h : MkR w0 wB w R X b k v1 v2 v3 n l) : ∀ x, (X x ∨ v2.ownBlock = some x) → x < w.heap.size := by
  intro x hx
  rcases hx with hx | hx
  · exact h.xl x hx
  · exact (h.on.2.2.1.lt x hx).2

/-- Behind an append to the numbers: what the store into the box needs. -/
theorem MkR.grownN {w0 wB w w' : World} {R X : Nat → Prop} {b : Nat} {k : Int} {v1 v2 v3 : Value} {n : List Int} {l : List Arr} (h : MkR w0 wB w R X b k v1 v2 v3 n l) (hg : w.grownBy w' v2.ownBlock) : Ext w0 w' ∧ Box4 w' b (.int .i64 k) v1 v2 v3 ∧ ∀ q, X q → w'.heap[q]? = w.heap[q]? := by
  have hl := h.on.2.2.1.lt
  have hx := h.on.2.2.2.1
  exact ⟨h.ext.grown hg h.ext.lt (fun q e => Nat.le_trans h.hB (hl q e).1), h.box.kept (hg.block b h.box.lt (fun e => hx b e.symm (.inl h.xb))), fun q hq => hg.block q (h.xl q hq) (fun e => hx q e.symm (.inl hq))⟩
theorem MkR.storedN {w0 wB w w' : World} {R X : Nat → Prop} {b g c m : Nat} {k : Int} {v1 v2 v3 : Value} {n n' : List Int} {l : List Arr} (h : MkR w0 wB w R X b k v1 v2 v3 n l) (hg : w.grownBy w' v2.ownBlock) (hm : n'.length = m)
    (ho : OwnI wB.heap.size (fun x => X x ∨ v3.ownBlock = some x) w' (.slice (some ⟨g, 0, none⟩) m c) m n') (hat : v2.ownBlock = some g ∨ g = w.heap.size) :
    MkR w0 wB (w'.setCell ⟨b, 2, none⟩ (.slice (some ⟨g, 0, none⟩) m c)) R X b k v1 (.slice (some ⟨g, 0, none⟩) m c) v3 n' l ∧ ∀ q, X q → q ≠ b → (w'.setCell ⟨b, 2, none⟩ (.slice (some ⟨g, 0, none⟩) m c)).heap[q]? = w.heap[q]? := by
  obtain ⟨h1, h2, h3⟩ := h.grownN hg
  subst hm
  have far : ∀ q, q ≠ b → (w'.setCell ⟨b, 2, none⟩ (.slice (some ⟨g, 0, none⟩) n'.length c)).heap[q]? = w'.heap[q]? := fun q hq => Below.heap_setCell _ _ _ _ (by simpa using hq)
  refine ⟨⟨h1.setCell (p := ⟨b, 2, none⟩) h.le _, h.le, h2.set2 _, h.xb, fun x hx => ?_, ho.same fun q _ _ hne => ⟨far q (fun e => hne (by rw [e]; exact .inl h.xb)), hne⟩, h.hB, Nat.le_trans h.wl (by simpa [World.setCell] using hg.size), fun q hq hqb => ?_, h.rr, h.oi.same h.rr fun q hlt _ hne => ?_⟩, fun q hq hqb => (far q hqb).trans (h3 q hq)⟩
  · have h8 := Nat.lt_of_lt_of_le (h.xl x hx) hg.size
    simpa [World.setCell] using h8
  · exact (far q hqb).trans ((hg.block q (Nat.lt_of_lt_of_le hq h.wl) (fun e => by have := (h.on.2.2.1.lt q e.symm).1; omega)).trans (h.keep q hq hqb))
  · have hqb : q ≠ b := fun e => hne (by rw [e]; exact .inl h.xb)
    refine ⟨(far q hqb).trans (hg.block q hlt (fun e => hne (.inr e.symm))), fun hx => ?_⟩
    rcases hx with hx | hx
    · exact hne (.inl hx)
    · simp only [Value.ownBlock, Option.some.injEq] at hx
      subst hx
      rcases hat with hat | hat
      · exact hne (.inr hat)
      · omega

/-- Behind an append to the items. -/
theorem MkR.grownI {w0 wB w w' : World} {R X : Nat → Prop} {b : Nat} {k : Int} {v1 v2 v3 : Value} {n : List Int} {l : List Arr} (h : MkR w0 wB w R X b k v1 v2 v3 n l) (hg : w.grownBy w' v3.ownBlock) : Ext w0 w' ∧ Box4 w' b (.int .i64 k) v1 v2 v3 ∧ ∀ q, X q → w'.heap[q]? = w.heap[q]? := by
  obtain ⟨_, hx, cells, hr, _⟩ := h.oi
  have hl := hr.lt
  exact ⟨h.ext.grown hg h.ext.lt (fun q e => Nat.le_trans h.hB (hl q e).1), h.box.kept (hg.block b h.box.lt (fun e => hx b e.symm (.inl h.xb))), fun q hq => hg.block q (h.xl q hq) (fun e => hx q e.symm (.inl hq))⟩
theorem MkR.storedI {w0 wB w w' : World} {R X : Nat → Prop} {b g c m : Nat} {k : Int} {v1 v2 v3 : Value} {n : List Int} {l l' : List Arr} (h : MkR w0 wB w R X b k v1 v2 v3 n l) (hg : w.grownBy w' v3.ownBlock) (hm : l'.length = m)
    (ho : OwnR wB.heap.size R (fun x => X x ∨ v2.ownBlock = some x) w' (.slice (some ⟨g, 0, none⟩) m c) m l') (hat : v3.ownBlock = some g ∨ g = w.heap.size) :
    MkR w0 wB (w'.setCell ⟨b, 3, none⟩ (.slice (some ⟨g, 0, none⟩) m c)) R X b k v1 v2 (.slice (some ⟨g, 0, none⟩) m c) n l' ∧ ∀ q, X q → q ≠ b → (w'.setCell ⟨b, 3, none⟩ (.slice (some ⟨g, 0, none⟩) m c)).heap[q]? = w.heap[q]? := by
  obtain ⟨h1, h2, h3⟩ := h.grownI hg
  subst hm
  have far : ∀ q, q ≠ b → (w'.setCell ⟨b, 3, none⟩ (.slice (some ⟨g, 0, none⟩) l'.length c)).heap[q]? = w'.heap[q]? := fun q hq => Below.heap_setCell _ _ _ _ (by simpa using hq)
  refine ⟨⟨h1.setCell (p := ⟨b, 3, none⟩) h.le _, h.le, h2.set3 _, h.xb, fun x hx => ?_, h.on.same fun q _ hlt hne => ?_, h.hB, Nat.le_trans h.wl (by simpa [World.setCell] using hg.size), fun q hq hqb => ?_, h.rr, ho.same h.rr fun q _ _ hne => ⟨far q (fun e => hne (by rw [e]; exact .inl h.xb)), hne⟩⟩, fun q hq hqb => (far q hqb).trans (h3 q hq)⟩
  · have h8 := Nat.lt_of_lt_of_le (h.xl x hx) hg.size
    simpa [World.setCell] using h8
  · have hqb : q ≠ b := fun e => hne (by rw [e]; exact .inl h.xb)
    refine ⟨(far q hqb).trans (hg.block q hlt (fun e => hne (.inr e.symm))), fun hx => ?_⟩
    rcases hx with hx | hx
    · exact hne (.inl hx)
    · simp only [Value.ownBlock, Option.some.injEq] at hx
      subst hx
      rcases hat with hat | hat
      · exact hne (.inr hat)
      · omega
  · exact (far q hqb).trans ((hg.block q (Nat.lt_of_lt_of_le hq h.wl) (fun e => by
      obtain ⟨_, _, cells, hr, _⟩ := h.oi
      have := (hr.lt q e.symm).1; omega)).trans (h.keep q hq hqb))
/-- What is new, or older than the rows, is apart from what the items own. -/
theorem MkR.apart {w0 wB w : World} {R X : Nat → Prop} {b : Nat} {k : Int} {v1 v2 v3 : Value} {n : List Int} {l : List Arr} (h : MkR w0 wB w R X b k v1 v2 v3 n l) (q : Nat) (hR : R q) (hq : (q < wB.heap.size ∧ ¬ X q) ∨ w.heap.size ≤ q) : ApartR R (fun x => X x ∨ v2.ownBlock = some x) v3 q := by
  have hl2 := h.on.2.2.1.lt
  obtain ⟨_, _, cells, hr, _⟩ := h.oi
  have hl3 := hr.lt
  refine ⟨hR, fun hx => ?_, fun e => ?_⟩
  · rcases hx with hx | hx
    · rcases hq with hq | hq
      · exact hq.2 hx
      · have h2 := h.xl q hx
        omega
    · have h1 := hl2 q hx
      omega
  · have h1 := hl3 q e
    omega

/-- The box's four cells read as the array, the shape as it came. -/
theorem MkR.arr {w0 wB w : World} {R X G : Nat → Prop} {b : Nat} {k : Int} {v1 v2 v3 : Value} {s n : List Int} {l : List Arr} (h : MkR w0 wB w R X b k v1 v2 v3 n l) (hk : -9223372036854775808 ≤ k ∧ k ≤ 9223372036854775807) (hs : ∃ p c, v1 = .slice p s.length c ∧ SlOk s.length c ∧ IntsAt G w p s) (hl : l.length ≤ 1759218604391) :
    ArrAt (fun x => (R x ∧ ¬ X x) ∨ G x) w (.mk k s n l) (.int .i64 k) v1 v2 v3 := by
  unfold ArrAt
  obtain ⟨p1, c1, e1, q1, i1⟩ := hs
  obtain ⟨p2, c2, e2, q2, i2⟩ := h.on.ints
  obtain ⟨p3, c3, e3, q3, i3⟩ := h.oi.items h.rr hl
  exact ⟨rfl, hk, ⟨p1, c1, e1, q1, i1.mono fun _ hx _ => ⟨.inr hx, rfl⟩⟩, ⟨p2, c2, e2, q2, i2.mono fun _ hx _ => ⟨.inl ⟨h.rr _ hx.1, fun e => hx.2 (.inl e)⟩, rfl⟩⟩, ⟨p3, c3, e3, q3, ItemsAt.mono (fun x hx _ => ⟨.inl ⟨hx.1, fun e => hx.2 (.inl e)⟩, rfl⟩) l p3 0 i3⟩⟩

end Go.Proofs.Ytgkemmdghmklfaa

namespace Go.Proofs.Ytgkemmdghmklfaa
set_option linter.unusedSimpArgs false
set_option linter.unusedVariables false

def ChainA (B : Nat) (R X : Nat → Prop) (w : World) (v : Value) (n : Nat) (l : List Arr) : Prop :=
  (n = 0 ∧ l = [] ∧ ∃ g, v = .slice (some ⟨g, 0, none⟩) 0 0 ∧ w.heap[g]? = some (.cells #[] 26 (0, 0)) ∧ B ≤ g ∧ ¬ X g) ∨
  (l.length = n ∧ (∃ cells, w.ownsRow B 26 4 v n cells ∧ CellsRead (fun b => R b ∧ ¬ X b) w cells l) ∧ ∃ g, v.ownBlock = some g ∧ X g)
theorem ChainA.mono {B : Nat} {R X X' : Nat → Prop} {w w' : World} {v : Value} {n : Nat} {l : List Arr} (h : ChainA B R X w v n l) (e : Ext w w') (hX : XGrow X w X') : ChainA B R X' w' v n l := by
  have ap : ∀ b, b < w.heap.size → ¬ X b → ¬ X' b := fun b hb hx hx' => by
    rcases hX.2 b hx' with h | h
    · exact hx h
    · omega
  rcases h with ⟨h1, h2, g, hv, hr, hb, hx⟩ | ⟨h1, ⟨cells, h2, h3⟩, g, hg, hx⟩
  · have hlt := (Array.getElem?_eq_some_iff.1 hr).1
    exact .inl ⟨h1, h2, g, hv, (e.block hlt).trans hr, hb, ap g hlt hx⟩
  · exact .inr ⟨h1, ⟨cells, ownsRow_same h2 fun g hg => e.block (h2.lt g hg).2, CellsRead.mono (fun b hb hlt => ⟨⟨hb.1, ap b hlt hb.2⟩, e.block hlt⟩) _ _ h3⟩, g, hg, hX.1 g hx⟩
def MProp.chainA (B : Nat) (R : Nat → Prop) (l : List Arr) : MProp := ⟨fun X w v => ∃ p c, v = .slice p l.length c ∧ ChainA B R X w (.slice p l.length c) l.length l, fun X X' w w' v e hX h => by
  obtain ⟨p, c, h1, h2⟩ := h
  exact ⟨p, c, h1, h2.mono e hX⟩⟩
/-- An empty row of arrays. -/
def MProp.rowA0 (B : Nat) : MProp := ⟨fun X w v => ∃ g, v = .slice (some ⟨g, 0, none⟩) 0 0 ∧ w.heap[g]? = some (.cells #[] 26 (0, 0)) ∧ B ≤ g ∧ ¬ X g, fun X X' w w' v e hX h => by
  obtain ⟨g, h1, h2, h3, h4⟩ := h
  have hlt := (Array.getElem?_eq_some_iff.1 h2).1
  refine ⟨g, h1, (e.block hlt).trans h2, h3, fun hx => ?_⟩
  rcases hX.2 g hx with h | h
  · exact h4 h
  · omega⟩
theorem zst_rowA0 (B : Nat) : ZSt (.rowA0 B) := fun X X' w w' v hc hx h => by
  obtain ⟨g, h1, h2, h3, h4⟩ := h
  have hlt := (Array.getElem?_eq_some_iff.1 h2).1
  refine ⟨g, h1, (hc.2 g hlt h4).trans h2, h3, fun hx' => ?_⟩
  rcases hx.2 g hx' with h | h
  · exact h4 h
  · omega
/-- A list of arrays. -/
def RdAX (R X : Nat → Prop) (w : World) (l : List Arr) (v : Value) : Prop := ∃ (p : Option Addr) (c : Nat), v = .slice p l.length c ∧ ItOk l.length c ∧ ItemsAt (fun b => (R b ∧ b < w.heap.size) ∧ ¬ X b) w p 0 l
def MProp.rda (R : Nat → Prop) (l : List Arr) : MProp := ⟨fun X w v => RdAX R X w l v, fun X X' w w' v e hX h => by
  obtain ⟨p, c, h1, h2, h3⟩ := h
  refine ⟨p, c, h1, h2, ItemsAt.mono (fun b hb hlt => ⟨⟨⟨hb.1.1, Nat.lt_of_lt_of_le hlt e.lt⟩, fun hx => ?_⟩, e.block hlt⟩) _ _ _ h3⟩
  rcases hX.2 b hx with h | h
  · exact hb.2 h
  · omega⟩
theorem zst_rda (R : Nat → Prop) (l : List Arr) : ZSt (.rda R l) := fun X X' w w' v hc hx h => by
  obtain ⟨p, c, h1, h2, h3⟩ := h
  refine ⟨p, c, h1, h2, ItemsAt.mono (fun b hb hlt => ⟨⟨⟨hb.1.1, Nat.lt_of_lt_of_le hlt hc.1⟩, fun hx' => ?_⟩, hc.2 b hlt hb.2⟩) _ _ _ h3⟩
  rcases hx.2 b hx' with h | h
  · exact hb.2 h
  · omega

theorem items_cells {F : Nat → Prop} {w : World} {b off : Nat} : ∀ (l : List Arr) (i : Nat), ItemsAt F w (some ⟨b, off, none⟩) i l →
    ∃ cells : List Value, cells.length = l.length * 4 ∧ (∀ j u, cells[j]? = some u → w.cell? ⟨b, off + i * 4 + j, none⟩ = some u) ∧ (∀ u ∈ cells, u.oneCell' = true) ∧ CellsRead F w cells l
  | [], _, _ => ⟨[], rfl, (fun j u h => by simp at h), (fun u h => by simp at h), (by unfold CellsRead; trivial)⟩
  | x :: r, i, h => by
    unfold ItemsAt at h
    obtain ⟨⟨b', off', c0, c1, c2, c3, hp, _, g0, g1, g2, g3, hx⟩, hr⟩ := h
    simp only [Option.some.injEq, Addr.mk.injEq, and_true] at hp
    obtain ⟨rfl, rfl⟩ := hp
    obtain ⟨cells, h1, h2, h3, h4⟩ := items_cells r (i + 1) hr
    refine ⟨c0 :: c1 :: c2 :: c3 :: cells, by simp [h1]; omega, fun j u hj => ?_, fun u hu => ?_, by unfold CellsRead; exact ⟨hx, h4⟩⟩
    · match j, hj with
      | 0, hj => simp at hj; subst hj; exact g0
      | 1, hj => simp at hj; subst hj; exact g1
      | 2, hj => simp at hj; subst hj; exact g2
      | 3, hj => simp at hj; subst hj; exact g3
      | j + 4, hj =>
        have := h2 j u (by simpa using hj)
        rw [show off + (i + 1) * 4 + j = off + i * 4 + (j + 4) by omega] at this
        exact this
    · simp only [List.mem_cons] at hu
      rcases hu with rfl | rfl | rfl | rfl | hu
      · exact hx.one _ (by simp)
      · exact hx.one _ (by simp)
      · exact hx.one _ (by simp)
      · exact hx.one _ (by simp)
      · exact h3 u hu
theorem CellsRead.append {F : Nat → Prop} {w : World} : ∀ (c1 : List Value) (l1 : List Arr) (c2 : List Value) (l2 : List Arr), CellsRead F w c1 l1 → CellsRead F w c2 l2 → CellsRead F w (c1 ++ c2) (l1 ++ l2)
  | [], [], c2, l2, _, h => h
  | a0 :: a1 :: a2 :: a3 :: cs, x :: r, c2, l2, h, h2 => by
    unfold CellsRead at h
    show CellsRead F w (a0 :: a1 :: a2 :: a3 :: (cs ++ c2)) (x :: (r ++ l2))
    unfold CellsRead
    exact ⟨h.1, CellsRead.append cs r c2 l2 h.2 h2⟩
  | [], _ :: _, _, _, h, _ => by unfold CellsRead at h; exact h.elim
  | [_], [], _, _, h, _ => by unfold CellsRead at h; exact h.elim
  | [_], _ :: _, _, _, h, _ => by unfold CellsRead at h; exact h.elim
  | [_, _], [], _, _, h, _ => by unfold CellsRead at h; exact h.elim
  | [_, _], _ :: _, _, _, h, _ => by unfold CellsRead at h; exact h.elim
  | [_, _, _], [], _, _, h, _ => by unfold CellsRead at h; exact h.elim
  | [_, _, _], _ :: _, _, _, h, _ => by unfold CellsRead at h; exact h.elim
  | _ :: _ :: _ :: _ :: _, [], _, _, h, _ => by unfold CellsRead at h; exact h.elim

/-- append(the chain's row of arrays, xs...) -/
theorem wpList_chainA {ops : Array Oper} {rest : List Oper} {o : Oper} {a : Act} {w : World} {Q : Exit → Act → World → Prop} (hgd : o.guard = none) (s x : Operand)
    (ho : o.op = .call { callee := .builtin .append, args := #[s, x], argTypes := #[24, 24] })
    (w0 : World) (R X : Nat → Prop) (v : Value) (n : Nat) (ys : List Arr) (p : Option Addr) (c : Nat) (xs : List Arr) (hs : a.eval s = v) (hown : ChainA w0.heap.size R X w v n ys) (hx : a.eval x = .slice p xs.length c) (hr : ItemsAt (fun b => (R b ∧ b < w.heap.size) ∧ ¬ X b) w p 0 xs)
    (hE : Ext w0 w) (hX : XIn X w0 w) (hn : n + xs.length ≤ 1759218604391)
    (h : ∀ v' w' (X' : Nat → Prop), Ext w0 w' → Chg X w w' → XGrow X w X' → XIn X' w0 w' → ChainA w0.heap.size R X' w' v' (n + xs.length) (ys ++ xs) → wpList Try.prog ops Q rest (a.put o.dst v') w') : wpList Try.prog ops Q (o :: rest) a w := by
  have hlt0 := hE.lt
  obtain ⟨i0, hi, hz0, hz1, hz2⟩ := info_parts infoA
  rcases hown with ⟨rfl, rfl, g, rfl, hrow, hgB, hgX⟩ | ⟨hyl, ⟨cells, hown, hcr⟩, g, hg, hgX⟩
  · cases xs with
    | nil =>
      refine wpList_plain hgd fun K hK => ?_
      have hrun := run_append_none (P := Try.prog) w 24 o.type 26 i0 Try.underlying24 hi (some ⟨g, 0, none⟩) 0 0 (Nat.le_refl _) p c
      unfold Oper.wp execOp
      simp only [ho, resolve, invoke, builtin, Sem.run_bind, Sem.run_pure, Result.andThen_ok, List.map_toArray, List.map_cons, List.map_nil, hs, hx, List.length_nil, hrun]
      exact hK _ _ (h _ _ X hE (Chg.of_ext (Ext.refl _)) kept_m hX (.inl ⟨rfl, rfl, g, rfl, hrow, hgB, hgX⟩))
    | cons x0 r =>
      obtain ⟨b, off, _, _, _, _, rfl, _⟩ := ItemsAt.get _ _ 0 0 hr (by simp)
      obtain ⟨news, hn1, hn2, hn3, hn4⟩ := items_cells _ 0 hr
      refine wpList_plain hgd fun K hK => ?_
      obtain ⟨v', w', hrun, hown, hgr⟩ := run_append_arg_grows (P := Try.prog) w 24 o.type 26 i0 _ 4 80 Try.underlying24 hi hz0 hz1 hz2 rfl (by decide) ⟨g, 0, none⟩ 0 0 [] rfl (fun j u hj => by simp at hj) ⟨b, off, none⟩ (x0 :: r).length c news hn1 (fun j u hj => by rw [Addr.add_lit]; have := hn2 j u hj; rwa [Nat.zero_mul, Nat.add_zero] at this) (by simp) (by unfold maxLen; omega) (by omega)
      unfold Oper.wp execOp
      simp only [ho, resolve, invoke, builtin, Sem.run_bind, Sem.run_pure, Result.andThen_ok, List.map_toArray, List.map_cons, List.map_nil, hs, hx, hrun]
      have hl := hown.lt
      have hEw : Ext w w' := (Ext.refl w).grown hgr (Nat.le_refl _) (fun q e => by cases e)
      have hown2 := hown
      obtain ⟨_, hrow2⟩ := hown2
      rcases hrow2 with ⟨_, h0⟩ | ⟨g', cap, cur, rfl, hb, _⟩
      · simp at h0
      · have hlg := hl g' rfl
        have hgX' : ∀ b, b < w.heap.size → ¬ X b → ¬ (X b ∨ b = g') := fun b hb1 hx1 hx2 => by
          rcases hx2 with h | h
          · exact hx1 h
          · omega
        refine hK _ _ (h _ _ (fun b => X b ∨ b = g') (hE.trans hEw) (Chg.of_ext hEw) ⟨fun b hb => .inl hb, fun b hb => hb.imp id (fun e => by omega)⟩ (fun b hb => ?_) (.inr ⟨by simp, ⟨_, ownsRow_base hown hlt0, ?_⟩, g', rfl, .inr rfl⟩))
        · rcases hb with hb | rfl
          · have := hX b hb; have := hEw.lt; omega
          · omega
        · rw [List.nil_append, List.nil_append]
          exact CellsRead.mono (fun b hb hlt => ⟨⟨hb.1.1, hgX' b hlt hb.2⟩, hEw.block hlt⟩) _ _ hn4
  · have hgl := hown.lt g hg
    have hown2 := hown
    obtain ⟨_, hrow2⟩ := hown2
    rcases hrow2 with ⟨rfl, _⟩ | ⟨g0, cap, cur, rfl, hb0, _, hnc, hrest⟩
    · simp [Value.ownBlock] at hg
    simp only [Value.ownBlock, Option.some.injEq] at hg
    subst hg
    cases xs with
    | nil =>
      refine wpList_plain hgd fun K hK => ?_
      have hrun := run_append_none (P := Try.prog) w 24 o.type 26 i0 Try.underlying24 hi (some ⟨g0, 0, none⟩) n cap hnc p c
      unfold Oper.wp execOp
      simp only [ho, resolve, invoke, builtin, Sem.run_bind, Sem.run_pure, Result.andThen_ok, List.map_toArray, List.map_cons, List.map_nil, hs, hx, List.length_nil, hrun]
      exact hK _ _ (h _ _ X hE (Chg.of_ext (Ext.refl _)) kept_m hX (.inr ⟨by simpa using hyl, ⟨cells, by simpa using hown, by simpa using hcr⟩, g0, rfl, hgX⟩))
    | cons x0 r =>
      obtain ⟨b, off, _, _, _, _, rfl, _⟩ := ItemsAt.get _ _ 0 0 hr (by simp)
      obtain ⟨news, hn1, hn2, hn3, hn4⟩ := items_cells _ 0 hr
      refine wpList_append_lies w hgd s x 24 ho w0.heap.size 26 i0 _ 4 80 Try.underlying24 hi hz0 hz1 hz2 rfl (by decide) _ n _ hs hown ⟨b, off, none⟩ (x0 :: r).length c news hx hn1 (fun j u hj => by rw [Addr.add_lit]; have := hn2 j u hj; rwa [Nat.zero_mul, Nat.add_zero] at this) hn3 (by simp) (by unfold maxLen; omega) (by omega) hlt0 w.heap.size rfl ?_
      intro g' cap' w' h1 hgrow hat hlt
      have hsz := hgrow.size
      have hg2 : g' = g0 ∨ g' = w.heap.size := hat.imp (fun e => by simp only [Value.ownBlock, Option.some.injEq] at e; exact e.symm) id
      have hchg : Chg X w w' := ⟨hsz, fun b hb hx => hgrow.block b hb (fun e => by simp only [Value.ownBlock, Option.some.injEq] at e; exact hx (by rw [e]; exact hgX))⟩
      have ap : ∀ b, b < w.heap.size → ¬ X b → ¬ (X b ∨ b = g') := fun b hb1 hx1 hx2 => by
        rcases hx2 with h | h
        · exact hx1 h
        · rcases hg2 with h3 | h3
          · exact hx1 (by rw [h, h3]; exact hgX)
          · omega
      refine h _ w' (fun b => X b ∨ b = g') (hE.grown hgrow hlt0 (fun q e => (hown.lt q e).1)) hchg ⟨fun b hb => .inl hb, fun b hb => ?_⟩ (fun b hb => ?_) (.inr ⟨by simp [hyl], ⟨_, h1, ?_⟩, g', rfl, .inr rfl⟩)
      · rcases hb with hb | rfl
        · exact .inl hb
        · rcases hg2 with rfl | rfl
          · exact .inl hgX
          · exact .inr (Nat.le_refl _)
      · rcases hb with hb | rfl
        · have := hX b hb; omega
        · have := (h1.lt b rfl).1; omega
      · exact CellsRead.append _ _ _ _ (CellsRead.mono (fun b hb hlt => ⟨⟨hb.1, ap b hlt hb.2⟩, hchg.2 b hlt hb.2⟩) _ _ hcr) (CellsRead.mono (fun b hb hlt => ⟨⟨hb.1.1, ap b hlt hb.2⟩, hchg.2 b hlt hb.2⟩) _ _ hn4)
/-- What the chain has made reads as the list. -/
theorem ChainA.items {B : Nat} {R X : Nat → Prop} {w : World} {p : Option Addr} {n c : Nat} {l : List Arr} (h : ChainA B R X w (.slice p n c) n l) (hn : n ≤ 1759218604391) : l.length = n ∧ ItOk n c ∧ ItemsAt (fun b => R b ∨ B ≤ b) w p 0 l := by
  rcases h with ⟨rfl, rfl, g, hv, _⟩ | ⟨h1, ⟨cells, h2, h3⟩, g, hg, _⟩
  · simp only [Value.slice.injEq] at hv
    obtain ⟨rfl, _, rfl⟩ := hv
    exact ⟨rfl, ⟨by simp, by simp, by simp⟩, by unfold ItemsAt; trivial⟩
  · have h2' := h2
    obtain ⟨_, hrow⟩ := h2'
    rcases hrow with ⟨hv, h0⟩ | ⟨g0, cap, cur, hv, hb, _, hnc, hcm, _⟩
    · simp only [Value.slice.injEq] at hv
      obtain ⟨rfl, _, rfl⟩ := hv
      simp [Value.ownBlock] at hg
    · simp only [Value.slice.injEq] at hv
      obtain ⟨rfl, _, rfl⟩ := hv
      refine ⟨h1, ⟨hnc, by unfold maxLen at hcm; omega, hn⟩, ?_⟩
      have := CellsRead.items (B := 0) (X := fun b => ¬ (R b ∨ B ≤ b)) (g := g0) cells l 0 h3 (fun j u hj => ?_) (fun b hb => ⟨Nat.zero_le _, fun h => h (.inl hb.1)⟩) ⟨Nat.zero_le _, fun h => h (.inr hb)⟩
      · exact ItemsAt.mono (fun b hb _ => ⟨Classical.byContradiction fun h => hb.2 h, rfl⟩) _ _ _ this
      · have := h2.cells (g := g0) rfl j u hj
        rw [Nat.zero_mul]
        rw [Addr.add_lit] at this
        exact this
end Go.Proofs.Ytgkemmdghmklfaa

namespace Go.Proofs.Ytgkemmdghmklfaa
set_option linter.unusedSimpArgs false
set_option linter.unusedVariables false
open Go.RowKit

theorem OwnA.form {B : Nat} {X : Nat → Prop} {w : World} {v : Value} {n : Nat} {l : List Arr} (h : OwnA B X w v n l) : ∃ p c, v = .slice p n c ∧ n ≤ c := by
  obtain ⟨_, _, cells, hr, _⟩ := h
  rcases hr.2 with ⟨rfl, h0⟩ | ⟨g, cap, cur, rfl, _, _, hnc, _⟩
  · exact ⟨none, 0, by rw [h0], by omega⟩
  · exact ⟨_, _, rfl, hnc⟩
/-- append(own, xs...) for arrays. -/
theorem wpList_append_arrs {ops : Array Oper} {rest : List Oper} {o : Oper} {a : Act} {w : World} {Q : Exit → Act → World → Prop} (hgd : o.guard = none) (s x : Operand)
    (ho : o.op = .call { callee := .builtin .append, args := #[s, x], argTypes := #[24, 24] })
    (F : Nat → Prop) (B : Nat) (X : Nat → Prop) (v : Value) (n : Nat) (ys : List Arr) (p : Option Addr) (c : Nat) (xs : List Arr) (hs : a.eval s = v) (hown : OwnA B X w v n ys) (hx : a.eval x = .slice p xs.length c) (hr : ItemsAt F w p 0 xs)
    (hF : ∀ b, F b → b < w.heap.size → Apart B X v b) (hX : ∀ b, X b → b < w.heap.size) (hn : n + xs.length ≤ 1759218604391) (hB : B ≤ w.heap.size)
    (h : ∀ v' w', OwnA B X w' v' (n + xs.length) (ys ++ xs) → w.grownBy w' v.ownBlock → (v'.ownBlock = v.ownBlock ∨ v'.ownBlock = some w.heap.size) → wpList Try.prog ops Q rest (a.put o.dst v') w') : wpList Try.prog ops Q (o :: rest) a w := by
  obtain ⟨i0, hi, hz0, hz1, hz2⟩ := info_parts infoA
  obtain ⟨ps, cs, hv, hcs⟩ := hown.form
  cases xs with
  | nil =>
    refine wpList_plain hgd fun K hK => ?_
    have hrun := run_append_none (P := Try.prog) w 24 o.type 26 i0 Try.underlying24 hi ps n cs hcs p c
    unfold Oper.wp execOp
    simp only [ho, resolve, invoke, builtin, Sem.run_bind, Sem.run_pure, Result.andThen_ok, List.map_toArray, List.map_cons, List.map_nil, hs, hv, hx, List.length_nil, hrun]
    rw [← hv]
    exact hK _ _ (h _ _ (by simpa using hown) ⟨rfl, rfl, rfl, Nat.le_refl _, fun _ _ _ => rfl⟩ (.inl rfl))
  | cons x0 r =>
    obtain ⟨b, off, _, _, _, _, rfl, _⟩ := ItemsAt.get _ _ 0 0 hr (by simp)
    obtain ⟨news, hn1, hn2, hn3, hn4⟩ := items_cells _ 0 hr
    obtain ⟨k1, k4, cells, k3, k5⟩ := hown
    refine wpList_append_lies w hgd s x 24 ho B 26 i0 _ 4 80 Try.underlying24 hi hz0 hz1 hz2 rfl (by decide) v n _ hs k3 ⟨b, off, none⟩ (x0 :: r).length c news hx hn1 (fun j u hj => by rw [Addr.add_lit]; have := hn2 j u hj; rwa [Nat.zero_mul, Nat.add_zero] at this) hn3 (by simp) (by unfold maxLen; omega) (by omega) hB w.heap.size rfl ?_
    intro g cap w' h1 hgrow hat hlt
    have key : ∀ q, Apart B X v q → q < w.heap.size → Apart B X (.slice (some ⟨g, 0, none⟩) (n + (x0 :: r).length) cap) q ∧ w'.heap[q]? = w.heap[q]? := by
      intro q ⟨b1, b2, b3⟩ hlt
      refine ⟨⟨b1, b2, ?_⟩, hgrow.block q hlt (fun e => b3 e.symm)⟩
      simp only [Value.ownBlock, ne_eq, Option.some.injEq]
      rcases hat with hat | hat
      · intro e; subst e; exact b3 hat
      · omega
    refine h _ _ ⟨by simp [k1], fun g' hg' => ?_, _, h1, ?_⟩ hgrow (hat.imp (fun e => e.symm) (fun e => by rw [← e]; rfl))
    · simp only [Value.ownBlock, Option.some.injEq] at hg'
      subst hg'
      rcases hat with hat | hat
      · exact k4 _ hat
      · exact fun hx => by have := hX _ hx; omega
    · exact CellsRead.append _ _ _ _ (CellsRead.mono key _ _ k5) (CellsRead.mono (fun q hq hlt => key q (hF q hq hlt) hlt) _ _ hn4)

theorem MkB.storedN' {w0 w w' : World} {X : Nat → Prop} {b : Nat} {k : Int} {v1 v2 v2' v3 : Value} {n n' : List Int} {l : List Arr} (h : MkB w0 w X b k v1 v2 v3 n l) (hg : w.grownBy w' v2.ownBlock)
    (ho : OwnI w0.heap.size (fun x => X x ∨ v3.ownBlock = some x) w' v2' n'.length n') (hat : v2'.ownBlock = v2.ownBlock ∨ v2'.ownBlock = some w.heap.size) :
    MkB w0 (w'.setCell ⟨b, 2, none⟩ v2') X b k v1 v2' v3 n' l ∧ ∀ q, X q → q ≠ b → (w'.setCell ⟨b, 2, none⟩ v2').heap[q]? = w.heap[q]? := by
  obtain ⟨h1, h2, h3⟩ := h.grownN hg
  have far : ∀ q, q ≠ b → (w'.setCell ⟨b, 2, none⟩ v2').heap[q]? = w'.heap[q]? := fun q hq => Below.heap_setCell _ _ _ _ (by simpa using hq)
  refine ⟨⟨h1.setCell (p := ⟨b, 2, none⟩) h.le _, h.le, h2.set2 _, h.xb, fun x hx => ?_, ho.same fun q _ _ hne => ⟨far q (fun e => hne (by rw [e]; exact .inl h.xb)), hne⟩, h.oi.same fun q hlt _ hne => ?_⟩, fun q hq hqb => (far q hqb).trans (h3 q hq)⟩
  · have h8 := Nat.lt_of_lt_of_le (h.xl x hx) hg.size
    simpa [World.setCell] using h8
  · have hqb : q ≠ b := fun e => hne (by rw [e]; exact .inl h.xb)
    refine ⟨(far q hqb).trans (hg.block q hlt (fun e => hne (.inr e.symm))), fun hx => ?_⟩
    rcases hx with hx | hx
    · exact hne (.inl hx)
    · rcases hat with hat | hat
      · exact hne (.inr (by rw [← hat]; exact hx))
      · rw [hat] at hx
        simp only [Option.some.injEq] at hx
        omega
theorem MkB.storedI' {w0 w w' : World} {X : Nat → Prop} {b : Nat} {k : Int} {v1 v2 v3 v3' : Value} {n : List Int} {l l' : List Arr} (h : MkB w0 w X b k v1 v2 v3 n l) (hg : w.grownBy w' v3.ownBlock)
    (ho : OwnA w0.heap.size (fun x => X x ∨ v2.ownBlock = some x) w' v3' l'.length l') (hat : v3'.ownBlock = v3.ownBlock ∨ v3'.ownBlock = some w.heap.size) :
    MkB w0 (w'.setCell ⟨b, 3, none⟩ v3') X b k v1 v2 v3' n l' ∧ ∀ q, X q → q ≠ b → (w'.setCell ⟨b, 3, none⟩ v3').heap[q]? = w.heap[q]? := by
  obtain ⟨h1, h2, h3⟩ := h.grownI hg
  have far : ∀ q, q ≠ b → (w'.setCell ⟨b, 3, none⟩ v3').heap[q]? = w'.heap[q]? := fun q hq => Below.heap_setCell _ _ _ _ (by simpa using hq)
  refine ⟨⟨h1.setCell (p := ⟨b, 3, none⟩) h.le _, h.le, h2.set3 _, h.xb, fun x hx => ?_, h.on.same fun q _ hlt hne => ?_, ho.same fun q _ _ hne => ⟨far q (fun e => hne (by rw [e]; exact .inl h.xb)), hne⟩⟩, fun q hq hqb => (far q hqb).trans (h3 q hq)⟩
  · have h8 := Nat.lt_of_lt_of_le (h.xl x hx) hg.size
    simpa [World.setCell] using h8
  · have hqb : q ≠ b := fun e => hne (by rw [e]; exact .inl h.xb)
    refine ⟨(far q hqb).trans (hg.block q hlt (fun e => hne (.inr e.symm))), fun hx => ?_⟩
    rcases hx with hx | hx
    · exact hne (.inl hx)
    · rcases hat with hat | hat
      · exact hne (.inr (by rw [← hat]; exact hx))
      · rw [hat] at hx
        simp only [Option.some.injEq] at hx
        omega
end Go.Proofs.Ytgkemmdghmklfaa

namespace Go.Proofs.Ytgkemmdghmklfaa
set_option linter.unusedSimpArgs false
set_option linter.unusedVariables false
open Go.RowKit

theorem OwnR.form {B : Nat} {R X : Nat → Prop} {w : World} {v : Value} {n : Nat} {l : List Arr} (h : OwnR B R X w v n l) : ∃ p c, v = .slice p n c ∧ n ≤ c := by
  obtain ⟨_, _, cells, hr, _⟩ := h
  rcases hr.2 with ⟨rfl, h0⟩ | ⟨g, cap, cur, rfl, _, _, hnc, _⟩
  · exact ⟨none, 0, by rw [h0], by omega⟩
  · exact ⟨_, _, rfl, hnc⟩
theorem wpList_append_arrsR {ops : Array Oper} {rest : List Oper} {o : Oper} {a : Act} {w : World} {Q : Exit → Act → World → Prop} (hgd : o.guard = none) (s x : Operand)
    (ho : o.op = .call { callee := .builtin .append, args := #[s, x], argTypes := #[24, 24] })
    (F : Nat → Prop) (B : Nat) (R X : Nat → Prop) (v : Value) (n : Nat) (ys : List Arr) (p : Option Addr) (c : Nat) (xs : List Arr) (hs : a.eval s = v) (hown : OwnR B R X w v n ys) (hx : a.eval x = .slice p xs.length c) (hr : ItemsAt F w p 0 xs)
    (hF : ∀ b, F b → b < w.heap.size → ApartR R X v b) (hX : ∀ b, X b → b < w.heap.size) (hn : n + xs.length ≤ 1759218604391) (hB : B ≤ w.heap.size)
    (h : ∀ v' w', OwnR B R X w' v' (n + xs.length) (ys ++ xs) → w.grownBy w' v.ownBlock → (v'.ownBlock = v.ownBlock ∨ v'.ownBlock = some w.heap.size) → wpList Try.prog ops Q rest (a.put o.dst v') w') : wpList Try.prog ops Q (o :: rest) a w := by
  obtain ⟨i0, hi, hz0, hz1, hz2⟩ := info_parts infoA
  obtain ⟨ps, cs, hv, hcs⟩ := hown.form
  cases xs with
  | nil =>
    refine wpList_plain hgd fun K hK => ?_
    have hrun := run_append_none (P := Try.prog) w 24 o.type 26 i0 Try.underlying24 hi ps n cs hcs p c
    unfold Oper.wp execOp
    simp only [ho, resolve, invoke, builtin, Sem.run_bind, Sem.run_pure, Result.andThen_ok, List.map_toArray, List.map_cons, List.map_nil, hs, hv, hx, List.length_nil, hrun]
    rw [← hv]
    exact hK _ _ (h _ _ (by simpa using hown) ⟨rfl, rfl, rfl, Nat.le_refl _, fun _ _ _ => rfl⟩ (.inl rfl))
  | cons x0 r =>
    obtain ⟨b, off, _, _, _, _, rfl, _⟩ := ItemsAt.get _ _ 0 0 hr (by simp)
    obtain ⟨news, hn1, hn2, hn3, hn4⟩ := items_cells _ 0 hr
    obtain ⟨k1, k4, cells, k3, k5⟩ := hown
    refine wpList_append_lies w hgd s x 24 ho B 26 i0 _ 4 80 Try.underlying24 hi hz0 hz1 hz2 rfl (by decide) v n _ hs k3 ⟨b, off, none⟩ (x0 :: r).length c news hx hn1 (fun j u hj => by rw [Addr.add_lit]; have := hn2 j u hj; rwa [Nat.zero_mul, Nat.add_zero] at this) hn3 (by simp) (by unfold maxLen; omega) (by omega) hB w.heap.size rfl ?_
    intro g cap w' h1 hgrow hat hlt
    have key : ∀ q, ApartR R X v q → q < w.heap.size → ApartR R X (.slice (some ⟨g, 0, none⟩) (n + (x0 :: r).length) cap) q ∧ w'.heap[q]? = w.heap[q]? := by
      intro q ⟨b1, b2, b3⟩ hlt
      refine ⟨⟨b1, b2, ?_⟩, hgrow.block q hlt (fun e => b3 e.symm)⟩
      simp only [Value.ownBlock, ne_eq, Option.some.injEq]
      rcases hat with hat | hat
      · intro e; subst e; exact b3 hat
      · omega
    refine h _ _ ⟨by simp [k1], fun g' hg' => ?_, _, h1, ?_⟩ hgrow (hat.imp (fun e => e.symm) (fun e => by rw [← e]; rfl))
    · simp only [Value.ownBlock, Option.some.injEq] at hg'
      subst hg'
      rcases hat with hat | hat
      · exact k4 _ hat
      · exact fun hx => by have := hX _ hx; omega
    · exact CellsRead.append _ _ _ _ (CellsRead.mono key _ _ k5) (CellsRead.mono (fun q hq hlt => key q (hF q hq hlt) hlt) _ _ hn4)

theorem MkR.storedN' {w0 wB w w' : World} {R X : Nat → Prop} {b : Nat} {k : Int} {v1 v2 v2' v3 : Value} {n n' : List Int} {l : List Arr} (h : MkR w0 wB w R X b k v1 v2 v3 n l) (hg : w.grownBy w' v2.ownBlock)
    (ho : OwnI wB.heap.size (fun x => X x ∨ v3.ownBlock = some x) w' v2' n'.length n') (hat : v2'.ownBlock = v2.ownBlock ∨ v2'.ownBlock = some w.heap.size) :
    MkR w0 wB (w'.setCell ⟨b, 2, none⟩ v2') R X b k v1 v2' v3 n' l := by
  obtain ⟨h1, h2, h3⟩ := h.grownN hg
  have far : ∀ q, q ≠ b → (w'.setCell ⟨b, 2, none⟩ v2').heap[q]? = w'.heap[q]? := fun q hq => Below.heap_setCell _ _ _ _ (by simpa using hq)
  refine ⟨h1.setCell (p := ⟨b, 2, none⟩) h.le _, h.le, h2.set2 _, h.xb, fun x hx => ?_, ho.same fun q _ _ hne => ⟨far q (fun e => hne (by rw [e]; exact .inl h.xb)), hne⟩, h.hB, Nat.le_trans h.wl (by simpa [World.setCell] using hg.size), fun q hq hqb => ?_, h.rr, h.oi.same h.rr fun q hlt _ hne => ?_⟩
  · have h8 := Nat.lt_of_lt_of_le (h.xl x hx) hg.size
    simpa [World.setCell] using h8
  · exact (far q hqb).trans ((hg.block q (Nat.lt_of_lt_of_le hq h.wl) (fun e => by have := (h.on.2.2.1.lt q e.symm).1; omega)).trans (h.keep q hq hqb))
  · have hqb : q ≠ b := fun e => hne (by rw [e]; exact .inl h.xb)
    refine ⟨(far q hqb).trans (hg.block q hlt (fun e => hne (.inr e.symm))), fun hx => ?_⟩
    rcases hx with hx | hx
    · exact hne (.inl hx)
    · rcases hat with hat | hat
      · exact hne (.inr (by rw [← hat]; exact hx))
      · rw [hat] at hx
        simp only [Option.some.injEq] at hx
        omega
theorem MkR.storedI' {w0 wB w w' : World} {R X : Nat → Prop} {b : Nat} {k : Int} {v1 v2 v3 v3' : Value} {n : List Int} {l l' : List Arr} (h : MkR w0 wB w R X b k v1 v2 v3 n l) (hg : w.grownBy w' v3.ownBlock)
    (ho : OwnR wB.heap.size R (fun x => X x ∨ v2.ownBlock = some x) w' v3' l'.length l') (hat : v3'.ownBlock = v3.ownBlock ∨ v3'.ownBlock = some w.heap.size) :
    MkR w0 wB (w'.setCell ⟨b, 3, none⟩ v3') R X b k v1 v2 v3' n l' := by
  obtain ⟨h1, h2, h3⟩ := h.grownI hg
  have far : ∀ q, q ≠ b → (w'.setCell ⟨b, 3, none⟩ v3').heap[q]? = w'.heap[q]? := fun q hq => Below.heap_setCell _ _ _ _ (by simpa using hq)
  refine ⟨h1.setCell (p := ⟨b, 3, none⟩) h.le _, h.le, h2.set3 _, h.xb, fun x hx => ?_, h.on.same fun q _ hlt hne => ?_, h.hB, Nat.le_trans h.wl (by simpa [World.setCell] using hg.size), fun q hq hqb => ?_, h.rr, ho.same h.rr fun q _ _ hne => ⟨far q (fun e => hne (by rw [e]; exact .inl h.xb)), hne⟩⟩
  · have h8 := Nat.lt_of_lt_of_le (h.xl x hx) hg.size
    simpa [World.setCell] using h8
  · have hqb : q ≠ b := fun e => hne (by rw [e]; exact .inl h.xb)
    refine ⟨(far q hqb).trans (hg.block q hlt (fun e => hne (.inr e.symm))), fun hx => ?_⟩
    rcases hx with hx | hx
    · exact hne (.inl hx)
    · rcases hat with hat | hat
      · exact hne (.inr (by rw [← hat]; exact hx))
      · rw [hat] at hx
        simp only [Option.some.injEq] at hx
        omega
  · exact (far q hqb).trans ((hg.block q (Nat.lt_of_lt_of_le hq h.wl) (fun e => by
      obtain ⟨_, _, cells, hr, _⟩ := h.oi
      have := (hr.lt q e.symm).1; omega)).trans (h.keep q hq hqb))
end Go.Proofs.Ytgkemmdghmklfaa

namespace Go.Proofs.Ytgkemmdghmklfaa
set_option linter.unusedSimpArgs false
set_option linter.unusedVariables false
open Go.RowKit

theorem take_drop_at {α : Type} (l : List α) (a q : Nat) (ha : a ≤ q) (h : q < l.length) : (l.drop a).take (q + 1 - a) = (l.drop a).take (q - a) ++ [l[q]] := by
  rw [show q + 1 - a = (q - a) + 1 by omega, List.take_succ_eq_append_getElem (by rw [List.length_drop]; omega), List.getElem_drop]
  congr 2
  simp only [show a + (q - a) = q by omega]

set_option maxRecDepth 100000 in
set_option maxHeartbeats 4000000 in
theorem rcells_any (F : Nat → Prop) (x : Arr) (c0 c1 c2 c3 : Value) (k : Int) (w : World) (hx : ArrAt F w x c0 c1 c2 c3) (hk : -9223372036854775808 ≤ k ∧ k ≤ 9223372036854775807) :
    Calls Try.prog 48 #[.agg #[c0, c1, c2, c3], .int .i64 k] w fun e w' => ∃ v, e = .returned v ∧ RdAA w.heap.size w' (cellsV x k) v ∧ Ext w w' := by
  obtain ⟨kx, s, nx, ix⟩ := x
  have hx' := hx
  unfold ArrAt at hx'
  obtain ⟨rfl, hkx, ⟨p1, m1, rfl, ⟨o1, o1', o1''⟩, i1⟩, ⟨p2, m2, rfl, ⟨o2, o2', o2''⟩, i2⟩, ⟨p3, m3, rfl, ⟨o3, o3', o3''⟩, i3⟩⟩ := hx'
  have HX := Lib.hid hx
  have HS := Lib.hid i1
  clear hx i1 i2 i3
  have HV : Hid (cellsV (.mk kx s nx ix) k = if rightV (.mk kx s nx ix) ≠ 0 then [] else
    (List.range (shapeSize (s.take (s.length - (rankV k s.length).toNat))).toNat).map fun i =>
      partV (.mk kx s nx ix) (i * (shapeSize (s.drop (s.length - (rankV k s.length).toNat))).toNat) (shapeSize (s.drop (s.length - (rankV k s.length).toNat))).toNat (s.drop (s.length - (rankV k s.length).toNat))) := rfl
  generalize cellsV (.mk kx s nx ix) k = fv at *
  have HRP := Lib.hid (@right_parts kx s nx ix)
  go_enter Try.func48, Try.ntmps48
  have hE0 : Ext w (w.alloc (.cells #[.int .i64 kx, .slice p1 s.length m1, .slice p2 nx.length m2, .slice p3 ix.length m3] 26)) := (Ext.refl _).alloc _
  have hB := box_new w (.int .i64 kx) (.slice p1 s.length m1) (.slice p2 nx.length m2) (.slice p3 ix.length m3)
  have HR := Lib.hid (rright6_any F _ _ _ _ _ _ (HX.out.ext hE0))
  have HE := Lib.hid hE0
  have HB := Lib.hid hB
  clear hE0 hB
  go_wp2_with fail
  refine HR.out.mono ?_
  rintro e w2 ⟨rfl, hE1⟩
  replace HE := Lib.hid (HE.out.trans hE1)
  have HBx := Lib.hid (HB.out.ext hE1)
  clear HR HB hE1
  generalize rightV (.mk kx s nx ix) = r at *
  by_cases hr : r = 0
  rotate_left
  · have hr1 : (r != 0) = true := by simpa using hr
    have HV2 := Lib.hid (show fv = [] by rw [HV.out, if_pos hr])
    clear hr
    go_wp2_with fail
    go_ret
    refine ⟨_, rfl, ?_, HE.out⟩
    rw [HV2.out]
    exact ⟨none, 0, rfl, ⟨by simp, by simp, by simp⟩, by unfold ItemsAt; trivial⟩
  subst hr
  obtain ⟨_, h8, hrt, hn3, hi3⟩ := HRP.out rfl
  have hbd := rankV_bd k s.length (by omega)
  obtain ⟨rv, hrv⟩ : ∃ rv : Nat, rankV k s.length = rv := ⟨(rankV k s.length).toNat, by omega⟩
  rw [hrv] at hbd
  have HRK := Lib.hid (show ∀ w, Calls Try.prog 96 #[.int .i64 k, .int .i64 (s.length : Int)] w fun e w' => e = .returned (.int .i64 (rv : Int)) ∧ Ext w w' from fun w => by
    have h := rrank_any k s.length w hk (by omega)
    rw [hrv] at h
    exact same_ext h)
  obtain ⟨n, hn⟩ : ∃ n, s.length - rv = n := ⟨_, rfl⟩
  obtain ⟨hsp, ht0, ht1, hd0, hd1⟩ := size_split hrt h8 n
  have HV2 := Lib.hid (show fv = (List.range (shapeSize (s.take n)).toNat).map fun i => partV (.mk kx s nx ix) (i * (shapeSize (s.drop n)).toNat) (shapeSize (s.drop n)).toNat (s.drop n) by rw [HV.out, if_neg (by simp), hrv, Int.toNat_natCast, hn])
  have hnl : n ≤ s.length := by omega
  have htl : (s.take n).length = n := by rw [List.length_take]; omega
  have hdl : (s.drop n).length = s.length - n := by rw [List.length_drop]
  have hct := HS.out.cut (n := n) 0 m1 o1
  rw [List.drop_zero] at hct
  have hcd := HS.out.cut (n := s.length - n) n m1 o1
  rw [List.take_of_length_le (by omega)] at hcd
  have hws : IntKind.i64.wrap ((s.length : Int) - (rv : Int)) = (n : Int) := by rw [show (s.length : Int) - (rv : Int) = (n : Int) by omega]; exact IntWalk.i64_in _ (by omega)
  have hrt1 := fun w => slice_h p1 s.length m1 w n (by omega)
  have hrd1 := fun w => slice_l p1 s.length m1 w n (by omega)
  generalize cutAt p1 0 m1 1 = pt at *
  generalize cutAt p1 n m1 1 = pd at *
  obtain ⟨ln, hln⟩ : ∃ ln, s.length - n = ln := ⟨_, rfl⟩
  obtain ⟨md, hmd⟩ : ∃ md, m1 - n = md := ⟨_, rfl⟩
  rw [hln] at hrd1 hdl
  rw [hmd] at hrd1
  have hlm : ln ≤ md ∧ md ≤ 9223372036854775807 ∧ ln ≤ 8 := by omega
  have hs1 := fun (w' : World) (e : Ext w w') => (r2size_any F pt m1 (s.take n) w' (hct.ext e) (by unfold lenMax; omega))
  have hs2 := fun (w' : World) (e : Ext w w') => (r2size_any F pd md (s.drop n) w' (hcd.ext e) (by unfold lenMax; omega))
  rw [htl] at hs1
  rw [hdl] at hs2
  generalize htn : s.take n = tn at *
  generalize hdn : s.drop n = dn at *
  obtain ⟨cn, hcn⟩ : ∃ cn : Nat, shapeSize tn = cn := ⟨(shapeSize tn).toNat, by omega⟩
  obtain ⟨zn, hzn⟩ : ∃ zn : Nat, shapeSize dn = zn := ⟨(shapeSize dn).toNat, by omega⟩
  rw [hcn] at hs1 hsp ht1
  rw [hzn] at hs2 hsp hd1
  have HV3 := Lib.hid (show fv = (List.range cn).map fun i => partV (.mk kx s nx ix) (i * zn) zn dn by rw [HV2.out, hcn, hzn, Int.toNat_natCast, Int.toNat_natCast])
  have HS1 := Lib.hid hs1
  have HS2 := Lib.hid hs2
  have hnc : kx ≠ 3 → nx.length = cn * zn := fun h => by have := (hn3 h).2; rw [hsp] at this; exact_mod_cast this
  have hic : kx = 3 → ix.length = cn * zn := fun h => by have := (hi3 h).2; rw [hsp] at this; exact_mod_cast this
  have HNC := Lib.hid hnc
  have HIC := Lib.hid hic
  have hc6 : cn ≤ 65536 := by omega
  have hz6 : zn ≤ 65536 := by omega
  have HDL := Lib.hid hdl
  have HCD := Lib.hid hcd
  have HEw := Lib.hid HE.out
  clear hct hcd hrv htl hdl HV HV2 hn hs1 hs2 hsp ht0 ht1 hd0 hd1 hcn hzn hnc hic htn hdn hrt hn3 hi3 HRP hln hmd
  go_wp2_with fail
  have HAx : Hid True := Lib.hid trivial
  refine wp_region_x1 [MProp.is (.pointer (some ⟨w.heap.size, 1, none⟩)), MProp.is (.slice p1 s.length m1), MProp.is (.int .i64 (s.length : Int)), MProp.is (.int .i64 k), MProp.is (.pointer (some ⟨w.heap.size, 1, none⟩)), MProp.is (.slice p1 s.length m1), MProp.is (.int .i64 (s.length : Int)), MProp.is (.int .i64 (rv : Int)), MProp.is (.int .i64 (n : Int))] [0, 1, 2, 3, 4, 5, 6, 7, 8] [] [15, 16, 17, 18, 19, 20, 21, 22, 23] 9 (by kernel_rfl) (by kernel_rfl) (by kernel_rfl) rfl ?_ ?_ ?_
  · refine mem_cons_m ?_ (mem_cons_m ?_ (mem_cons_m ?_ (mem_cons_m ?_ (mem_cons_m ?_ (mem_cons_m ?_ (mem_cons_m ?_ (mem_cons_m ?_ (mem_cons_m ?_ (mem_nil_m)))))))))
    · refine ⟨_, 15, rfl, by kernel_rfl, ?_⟩
      intro u w9 X hE hX hd K hK
      clear hd
      simp only [overlay, List.setIfInBounds_toArray, List.set] at hK ⊢
      go_wp2_with fail
      exact hK _ _ X (Ext.refl _) kept_m hX rfl
    · refine ⟨_, 16, rfl, by kernel_rfl, ?_⟩
      intro u w9 X hE hX hd K hK
      have d0 : u 15 = .pointer (some ⟨w.heap.size, 1, none⟩) := hd 0 (by kernel_rfl)
      clear hd
      simp only [overlay, List.setIfInBounds_toArray, List.set, d0] at hK ⊢
      have e9 : Ext w2 w9 := (Ext.refl w2).drew.trans hE
      obtain ⟨s0, s1, s2, s3⟩ := (HBx.out.ext e9).cell
      go_wp2_with fail
      exact hK _ _ X (Ext.refl _) kept_m hX rfl
    · refine ⟨_, 17, rfl, by kernel_rfl, ?_⟩
      intro u w9 X hE hX hd K hK
      have d1 : u 16 = .slice p1 s.length m1 := hd 1 (by kernel_rfl)
      clear hd
      simp only [overlay, List.setIfInBounds_toArray, List.set, d1] at hK ⊢
      go_wp2_with fail
      exact hK _ _ X (Ext.refl _) kept_m hX rfl
    · refine ⟨_, 18, rfl, by kernel_rfl, ?_⟩
      intro u w9 X hE hX hd K hK
      clear hd
      simp only [overlay, List.setIfInBounds_toArray, List.set] at hK ⊢
      go_wp2_with fail
      exact hK _ _ X (Ext.refl _) kept_m hX rfl
    · refine ⟨_, 19, rfl, by kernel_rfl, ?_⟩
      intro u w9 X hE hX hd K hK
      clear hd
      simp only [overlay, List.setIfInBounds_toArray, List.set] at hK ⊢
      go_wp2_with fail
      exact hK _ _ X (Ext.refl _) kept_m hX rfl
    · refine ⟨_, 20, rfl, by kernel_rfl, ?_⟩
      intro u w9 X hE hX hd K hK
      have d4 : u 19 = .pointer (some ⟨w.heap.size, 1, none⟩) := hd 4 (by kernel_rfl)
      clear hd
      simp only [overlay, List.setIfInBounds_toArray, List.set, d4] at hK ⊢
      have e9 : Ext w2 w9 := (Ext.refl w2).drew.trans hE
      obtain ⟨s0, s1, s2, s3⟩ := (HBx.out.ext e9).cell
      go_wp2_with fail
      exact hK _ _ X (Ext.refl _) kept_m hX rfl
    · refine ⟨_, 21, rfl, by kernel_rfl, ?_⟩
      intro u w9 X hE hX hd K hK
      have d5 : u 20 = .slice p1 s.length m1 := hd 5 (by kernel_rfl)
      clear hd
      simp only [overlay, List.setIfInBounds_toArray, List.set, d5] at hK ⊢
      go_wp2_with fail
      exact hK _ _ X (Ext.refl _) kept_m hX rfl
    · refine ⟨_, 22, rfl, by kernel_rfl, ?_⟩
      intro u w9 X hE hX hd K hK
      have d3 : u 18 = .int .i64 k := hd 3 (by kernel_rfl)
      have d6 : u 21 = .int .i64 (s.length : Int) := hd 6 (by kernel_rfl)
      clear hd
      simp only [overlay, List.setIfInBounds_toArray, List.set, d3, d6] at hK ⊢
      have e9 : Ext w2 w9 := (Ext.refl w2).drew.trans hE
      go_wp2_with fail
      refine (HRK.out w9).mono ?_
      rintro e w8 ⟨rfl, hE8⟩
      go_wp2_with fail
      exact hK _ _ X hE8 kept_m (hX.ext hE8) rfl
    · refine ⟨_, 23, rfl, by kernel_rfl, ?_⟩
      intro u w9 X hE hX hd K hK
      have d2 : u 17 = .int .i64 (s.length : Int) := hd 2 (by kernel_rfl)
      have d7 : u 22 = .int .i64 (rv : Int) := hd 7 (by kernel_rfl)
      clear hd
      simp only [overlay, List.setIfInBounds_toArray, List.set, d2, d7] at hK ⊢
      go_wp2_with fail
      exact hK _ _ X (Ext.refl _) kept_m hX rfl
  · exact mem_nil_m
  intro u w9 X hE hX hd
  have d0 : u 15 = .pointer (some ⟨w.heap.size, 1, none⟩) := hd 0 (by decide)
  have d1 : u 16 = .slice p1 s.length m1 := hd 1 (by decide)
  have d2 : u 17 = .int .i64 (s.length : Int) := hd 2 (by decide)
  have d3 : u 18 = .int .i64 k := hd 3 (by decide)
  have d4 : u 19 = .pointer (some ⟨w.heap.size, 1, none⟩) := hd 4 (by decide)
  have d5 : u 20 = .slice p1 s.length m1 := hd 5 (by decide)
  have d6 : u 21 = .int .i64 (s.length : Int) := hd 6 (by decide)
  have d7 : u 22 = .int .i64 (rv : Int) := hd 7 (by decide)
  have d8 : u 23 = .int .i64 (n : Int) := hd 8 (by decide)
  clear hd
  simp only [overlay, List.setIfInBounds_toArray, List.set, d0, d1, d2, d3, d4, d5, d6, d7, d8]
  have e9 : Ext w2 w9 := (Ext.refl w2).drew.trans hE
  clear d0 d1 d2 d3 d4 d5 d6 d7 d8
  clear hX hE
  clear u
  obtain ⟨wk2, rfl⟩ : ∃ wx : World, wx = w9 := ⟨_, rfl⟩
  replace HBx := Lib.hid (HBx.out.ext e9)
  replace HE := Lib.hid (HE.out.trans (e9))
  clear e9
  go_wp2_with fail
  refine OnlyN.mk ?_
  obtain ⟨s0, s1, s2, s3⟩ := HBx.out.cell
  go_wp2_with fail
  refine (HS1.out _ HE.out).mono ?_
  rintro e w9 ⟨rfl, rfl⟩
  go_wp2_with fail
  refine (HS2.out _ HE.out).mono ?_
  rintro e w9 ⟨rfl, rfl⟩
  go_wp2_with fail
  clear s0 s1 s2 s3
  have HV4 := Lib.hid (show fv = (List.range cn).map (fun i : Nat => partV (.mk kx s nx ix) (i * zn) zn dn) from HV3.out)
  have hdl := HDL.out
  have hld : ln = dn.length := hdl.symm
  subst hld
  have hxx := HX.out
  unfold ArrAt at hxx
  obtain ⟨_, _, _, ⟨_, _, e2, _, j2⟩, ⟨_, _, e3, _, j3⟩⟩ := hxx
  cases e2
  cases e3
  have HN := Lib.hid j2
  have HI := Lib.hid j3
  clear j2 j3
  clear HV3 hdl HDL
  go_loopw [8, 9] (fun ov iv wr => ∃ (i : Nat) (p : Option Addr) (c : Nat), ov = .slice p i c ∧ iv = .int .i64 (i : Int) ∧ i ≤ cn ∧ OwnA wk2.heap.size (fun _ => False) wr (.slice p i c) i ((List.range i).map (fun i : Nat => partV (.mk kx s nx ix) (i * zn) zn dn)) ∧ Ext wk2 wr) (fun _ iv _ => cn - (intOf iv).toNat)
  case atStart => exact ⟨0, _, _, rfl, rfl, Nat.zero_le _, OwnA.nil _ _ _, Ext.refl _⟩
  case round =>
    obtain ⟨i, p, c, rfl, rfl, hic, hO, hE0⟩ := hrel
    by_cases hlt : i < cn
    rotate_left
    · have hie : i = cn := by omega
      subst hie
      go_wp2_with fail
      go_ret
      obtain ⟨p9, c9, hv9, hk9, hi9⟩ := hO.items (by omega)
      have hE9 := HE.out.trans hE0
      refine ⟨_, rfl, ?_, hE9⟩
      rw [HV4.out, hv9]
      exact ⟨p9, c9, rfl, hk9, ItemsAt.mono (fun b hb _ => ⟨Nat.le_trans HE.out.lt hb.1, rfl⟩) _ _ _ hi9⟩
    · have hmul : i * zn ≤ 65536 * 65536 := Nat.mul_le_mul (by omega) hz6
      have hle : i * zn + zn ≤ cn * zn := by
        have := Nat.mul_le_mul_right zn (show i + 1 ≤ cn from hlt)
        rwa [Nat.succ_mul] at this
      have HNC2 := Lib.hid (fun h => Nat.le_trans hle (Nat.le_of_eq (HNC.out h).symm))
      have HIC2 := Lib.hid (fun h => Nat.le_trans hle (Nat.le_of_eq (HIC.out h).symm))
      have hwm : IntKind.i64.wrap ((i : Int) * (zn : Int)) = ((i * zn : Nat) : Int) := by rw [← Int.natCast_mul, IntWalk.i64_in _ (by omega)]
      have hpv : partV (.mk kx s nx ix) (i * zn) zn dn = .mk kx dn (if kx = 3 then [] else (nx.drop (i * zn)).take zn) (if kx = 3 then (ix.drop (i * zn)).take zn else []) := rfl
      have HPV := Lib.hid hpv
      clear hpv hle
      generalize hia : i * zn = a at *
      have HIA := Lib.hid hia
      clear hia
      obtain ⟨e, he⟩ : ∃ e, e = a + zn := ⟨_, rfl⟩
      have hwa : IntKind.i64.wrap ((a : Int) + (zn : Int)) = (e : Int) := by rw [show (a : Int) + (zn : Int) = (e : Int) by omega]; exact IntWalk.i64_in _ (by omega)
      obtain ⟨wo, rfl⟩ : ∃ wx : World, wx = wr := ⟨_, rfl⟩
      have HE0 := Lib.hid hE0
      go_wp2_with fail
      refine wp_region_x1 [MProp.is (.pointer (some ⟨w.heap.size, 0, none⟩)), MProp.is (.int .i64 kx), MProp.row wo.heap.size 0 [], MProp.is (.pointer (some ⟨w.heap.size, 1, none⟩)), MProp.is (.slice p1 s.length m1), MProp.is (.int .i64 (n : Int)), MProp.is (.slice pd dn.length md), MProp.own wo.heap.size dn, MProp.ownAgg wo.heap.size kx dn, MProp.box] [0, 1, 2, 3, 4, 5, 6, 7, 8, 9] [] [39, 40, 41, 42, 43, 44, 45, 46, 47, 10] 10 (by kernel_rfl) (by kernel_rfl) (by kernel_rfl) rfl ?_ ?_ ?_
      · refine mem_cons_m ?_ (mem_cons_m ?_ (mem_cons_m ?_ (mem_cons_m ?_ (mem_cons_m ?_ (mem_cons_m ?_ (mem_cons_m ?_ (mem_cons_m ?_ (mem_cons_m ?_ (mem_cons_m ?_ (mem_nil_m))))))))))
        · refine ⟨_, 39, rfl, by kernel_rfl, ?_⟩
          intro u w9 X hE hX hd K hK
          clear hd
          simp only [overlay, List.setIfInBounds_toArray, List.set] at hK ⊢
          go_wp2_with fail
          exact hK _ _ X (Ext.refl _) kept_m hX rfl
        · refine ⟨_, 40, rfl, by kernel_rfl, ?_⟩
          intro u w9 X hE hX hd K hK
          have d0 : u 39 = .pointer (some ⟨w.heap.size, 0, none⟩) := hd 0 (by kernel_rfl)
          clear hd
          simp only [overlay, List.setIfInBounds_toArray, List.set, d0] at hK ⊢
          obtain ⟨s0, s1, s2, s3⟩ := (HBx.out.ext (hE0.trans ((Ext.refl wo).drew.trans hE))).cell
          go_wp2_with fail
          exact hK _ _ X (Ext.refl _) kept_m hX rfl
        · refine ⟨_, 41, rfl, by kernel_rfl, ?_⟩
          intro u w9 X hE hX hd K hK
          clear hd
          simp only [overlay, List.setIfInBounds_toArray, List.set] at hK ⊢
          have hlt' : wo.heap.size ≤ w9.heap.size := hE.lt
          go_wp2_with fail
          exact hK _ _ X ((Ext.refl _).alloc _) kept_m (hX.ext ((Ext.refl _).alloc _)) ⟨_, rfl, rowI_new' w9 [], hlt', fun hx => by have := (hX _ hx).2; omega⟩
        · refine ⟨_, 42, rfl, by kernel_rfl, ?_⟩
          intro u w9 X hE hX hd K hK
          clear hd
          simp only [overlay, List.setIfInBounds_toArray, List.set] at hK ⊢
          go_wp2_with fail
          exact hK _ _ X (Ext.refl _) kept_m hX rfl
        · refine ⟨_, 43, rfl, by kernel_rfl, ?_⟩
          intro u w9 X hE hX hd K hK
          have d3 : u 42 = .pointer (some ⟨w.heap.size, 1, none⟩) := hd 3 (by kernel_rfl)
          clear hd
          simp only [overlay, List.setIfInBounds_toArray, List.set, d3] at hK ⊢
          obtain ⟨s0, s1, s2, s3⟩ := (HBx.out.ext (hE0.trans ((Ext.refl wo).drew.trans hE))).cell
          go_wp2_with fail
          exact hK _ _ X (Ext.refl _) kept_m hX rfl
        · refine ⟨_, 44, rfl, by kernel_rfl, ?_⟩
          intro u w9 X hE hX hd K hK
          clear hd
          simp only [overlay, List.setIfInBounds_toArray, List.set] at hK ⊢
          go_wp2_with fail
          exact hK _ _ X (Ext.refl _) kept_m hX rfl
        · refine ⟨_, 45, rfl, by kernel_rfl, ?_⟩
          intro u w9 X hE hX hd K hK
          have d4 : u 43 = .slice p1 s.length m1 := hd 4 (by kernel_rfl)
          have d5 : u 44 = .int .i64 (n : Int) := hd 5 (by kernel_rfl)
          clear hd
          simp only [overlay, List.setIfInBounds_toArray, List.set, d4, d5] at hK ⊢
          go_wp2_with fail
          exact hK _ _ X (Ext.refl _) kept_m hX rfl
        · refine ⟨_, 46, rfl, by kernel_rfl, ?_⟩
          intro u w9 X hE hX hd K hK
          have d2 : ∃ g, u 41 = .slice (some ⟨g, 0, none⟩) 0 0 ∧ RowI w9 g [] ∧ wo.heap.size ≤ g ∧ ¬ X g := hd 2 (by kernel_rfl)
          have d6 : u 45 = .slice pd dn.length md := hd 6 (by kernel_rfl)
          clear hd
          simp only [overlay, List.setIfInBounds_toArray, List.set, d6] at hK ⊢
          obtain ⟨g9, hv2, hr2, hb2, hx2⟩ := d2
          simp only [hv2] at hK ⊢
          have hlt' : wo.heap.size ≤ w9.heap.size := hE.lt
          refine wpList_append_zero rfl _ _ rfl F wo.heap.size X g9 pd md dn rfl hr2 hb2 hx2 rfl (HCD.out.ext (HE.out.trans (hE0.trans ((Ext.refl wo).drew.trans hE)))) (fun b hb => (hX b hb).2) (by omega) hlt' ?_
          intro v' w' hO9 hE'
          obtain ⟨pv, cv, rfl, hcv⟩ := hO9.form
          exact hK _ _ X hE' kept_m (hX.ext hE') ⟨pv, cv, rfl, hO9⟩
        · refine ⟨_, 47, rfl, by kernel_rfl, ?_⟩
          intro u w9 X hE hX hd K hK
          have d1 : u 40 = .int .i64 kx := hd 1 (by kernel_rfl)
          have d7 : ∃ p c, u 46 = .slice p dn.length c ∧ OwnI wo.heap.size X w9 (.slice p dn.length c) dn.length dn := hd 7 (by kernel_rfl)
          clear hd
          simp only [overlay, List.setIfInBounds_toArray, List.set, d1] at hK ⊢
          obtain ⟨pv, cv, hv7, hO7⟩ := d7
          simp only [hv7] at hK ⊢
          go_wp2_with fail
          exact hK _ _ X (Ext.refl _) kept_m hX ⟨pv, cv, rfl, hO7⟩
        · refine ⟨_, 10, rfl, by kernel_rfl, ?_⟩
          intro u w9 X hE hX hd K hK
          clear hd
          simp only [overlay, List.setIfInBounds_toArray, List.set] at hK ⊢
          go_wp2_with fail
          exact hK _ _ (fun b => X b ∨ b = w9.heap.size) ((Ext.refl _).alloc _) added_m (hX.add hE _) ⟨_, rfl, box_new _ _ _ _ _, .inr rfl⟩
      · exact mem_nil_m
      intro u w9 X hE hX hd
      have d0 : u 39 = .pointer (some ⟨w.heap.size, 0, none⟩) := hd 0 (by decide)
      have d1 : u 40 = .int .i64 kx := hd 1 (by decide)
      have d2 : ∃ g, u 41 = .slice (some ⟨g, 0, none⟩) 0 0 ∧ RowI w9 g [] ∧ wo.heap.size ≤ g ∧ ¬ X g := hd 2 (by decide)
      have d3 : u 42 = .pointer (some ⟨w.heap.size, 1, none⟩) := hd 3 (by decide)
      have d4 : u 43 = .slice p1 s.length m1 := hd 4 (by decide)
      have d5 : u 44 = .int .i64 (n : Int) := hd 5 (by decide)
      have d6 : u 45 = .slice pd dn.length md := hd 6 (by decide)
      have d7 : ∃ p c, u 46 = .slice p dn.length c ∧ OwnI wo.heap.size X w9 (.slice p dn.length c) dn.length dn := hd 7 (by decide)
      have d8 : ∃ p c, u 47 = .agg #[.int .i64 kx, .slice p dn.length c, .slice none 0 0, .slice none 0 0] ∧ OwnI wo.heap.size X w9 (.slice p dn.length c) dn.length dn := hd 8 (by decide)
      have d9 : ∃ b, u 10 = .pointer (some ⟨b, 0, none⟩) ∧ Box4 w9 b (.int .i64 0) (.slice none 0 0) (.slice none 0 0) (.slice none 0 0) ∧ X b := hd 9 (by decide)
      clear hd
      simp only [overlay, List.setIfInBounds_toArray, List.set, d0, d1, d3, d4, d5, d6]
      obtain ⟨bo, hvb, hbox, hxb⟩ := d9
      obtain ⟨ps, cs, hva, hOs⟩ := d8
      have hbo := hX bo hxb
      simp only [hvb, hva]
      obtain ⟨q0, q1, q2, q3⟩ := hbox.cell
      have f0 := hbox.free 0
      have f1 := hbox.free 1
      have f2 := hbox.free 2
      have f3 := hbox.free 3
      clear d0 d1 d2 d3 d4 d5 d6 d7
      have e9 := (Ext.refl wo).drew.trans hE
      obtain ⟨gg1, gg2, gg3⟩ := hbox.put4 e9 hbo.1 (.int .i64 kx) (.slice ps dn.length cs) (.slice none 0 0) (.slice none 0 0)
      have hOs2 := hOs.same (Y := fun x => x = bo) (w' := (((w9.setCell ⟨bo, 0, none⟩ (.int .i64 kx)).setCell ⟨bo, 1, none⟩ (.slice ps dn.length cs)).setCell ⟨bo, 2, none⟩ (.slice none 0 0)).setCell ⟨bo, 3, none⟩ (.slice none 0 0)) (fun q _ _ hne => ⟨gg3 q (fun e => hne (by rw [e]; exact hxb)), fun e => hne (by rw [e]; exact hxb)⟩)
      have HGG := Lib.hid (And.intro gg1 (And.intro gg2 hOs2))
      have hbl := hbo.1
      have HBL := Lib.hid (show wo.heap.size ≤ bo from hbl)
      clear gg1 gg2 gg3 hOs2 hOs hbox hbo hbl e9 hX hE
      generalize u 41 = t41 at *
      generalize u 46 = t46 at *
      clear hvb hva
      clear u
      go_wp2_with fail
      refine OnlyN.mk ?_
      obtain ⟨gg1, gg2, hOs⟩ := HGG.out
      clear HGG q0 q1 q2 q3 f0 f1 f2 f3
      generalize (((w9.setCell ⟨bo, 0, none⟩ (.int .i64 kx)).setCell ⟨bo, 1, none⟩ (.slice ps dn.length cs)).setCell ⟨bo, 2, none⟩ (.slice none 0 0)).setCell ⟨bo, 3, none⟩ (.slice none 0 0) = w5 at *
      have hM0 : MkB wo w5 (fun x => x < w5.heap.size ∧ wo.heap.size ≤ x) bo kx (.slice ps dn.length cs) (.slice none 0 0) (.slice none 0 0) [] [] := MkB.fresh gg1 HBL.out gg2 ⟨gg2.lt, HBL.out⟩ (fun x hx => hx.1)
      have HM0 := Lib.hid hM0
      have HOS := Lib.hid hOs
      clear gg1 gg2 hOs hM0
      go_wp2_with fail
      go_loopw [11] (fun jv wr => ∃ (q : Nat) (n' : List Int) (l' : List Arr) (v2 v3 : Value), jv = .int .i64 (q : Int) ∧ a ≤ q ∧ q ≤ e ∧ n'.length ≤ q - a ∧ l'.length ≤ q - a ∧ MkB wo wr (fun x => x < w5.heap.size ∧ wo.heap.size ≤ x) bo kx (.slice ps dn.length cs) v2 v3 n' l' ∧
        (∀ q, wo.heap.size ≤ q → q < w5.heap.size → q ≠ bo → wr.heap[q]? = w5.heap[q]?) ∧
        Hid (n' = if kx = 3 then [] else (nx.drop a).take (q - a)) ∧ Hid (l' = if kx = 3 then (ix.drop a).take (q - a) else [])) (fun jv _ => e - (intOf jv).toNat)
      case atStart => exact ⟨a, [], [], _, _, by go_num, Nat.le_refl _, by omega, Nat.zero_le _, Nat.zero_le _, HM0.out, fun _ _ _ _ => rfl, by simp [Hid], by simp [Hid]⟩
      case round =>
        obtain ⟨q, n', l', v2, v3, rfl, haq, hj, hn1, hl1, hM, hkeep, HGN, HGI⟩ := hrel
        have hkp : ∀ q, wo.heap.size ≤ q → q < w5.heap.size → q ≠ bo → wr.heap[q]? = w5.heap[q]? := hkeep
        have HKP := Lib.hid hkp
        clear hkp hkeep HM0
        by_cases hjz : q < e
        rotate_left
        · have hje : q - a = zn := by omega
          have hgn := HGN.out
          have hgi := HGI.out
          rw [hje] at hgn hgi
          obtain ⟨pa, ca, hv2, _, _⟩ := hM.on.ints
          subst hv2
          obtain ⟨pb, cb, hv3, _, _⟩ := hM.oi.items (by omega)
          subst hv3
          obtain ⟨pz, cz, hvz, hkz, hiz⟩ := HOS.out.ints
          simp only [Value.slice.injEq] at hvz
          obtain ⟨rfl, _, rfl⟩ := hvz
          have hA := MkB.arr (G := fun b => wo.heap.size ≤ b) hM hkx ⟨ps, cs, rfl, hkz, hiz.mono fun b hb hlt => ⟨hb.1, HKP.out b hb.1 hlt hb.2⟩⟩ (by omega)
          have hPe : Arr.mk kx dn n' l' = partV (.mk kx s nx ix) (i * zn) zn dn := by rw [HIA.out, HPV.out, ← hgn, ← hgi]
          rw [hPe] at hA
          have hA2 := ArrAt.mono (G := Apart wk2.heap.size (fun _ => False) (.slice p i c)) (fun q hq _ => ⟨hO.apart0 HE0.out.lt q (by rcases hq with hq | hq; exact hq.1; exact hq), rfl⟩) _ _ _ _ _ hA
          have hEm := hM.ext
          have HA2 := Lib.hid hA2
          have HO2 := Lib.hid (hO.ext hEm)
          have hE1 := HE0.out.trans hEm
          have HE1 := Lib.hid hE1
          obtain ⟨q0, q1, q2, q3⟩ := hM.box.cell
          clear hA hA2 hPe hM HGN HGI hgn hgi hje hiz hE1 hEm hO
          have hYb := box_new wr (.int .i64 kx) (.slice ps dn.length cs) (.slice pa n'.length ca) (.slice pb l'.length cb)
          have HYB := Lib.hid hYb
          clear hYb
          go_wp2_with (at_builtin; refine wpList_append_arr rfl _ _ rfl wk2.heap.size (fun _ => False) _ i _ _ _ _ _ _ rfl (HO2.out.ext ((Ext.refl _).alloc _)) _ _ rfl HYB.out (fun _ h => h.elim) (HA2.out.ext ((Ext.refl _).alloc _)) (by omega) (HE1.out.alloc _).lt ?_)
          intro gb cap w8 hon8 hgrow hat8 _ hgb
          have hS8 : Ext wk2 w8 := (HE1.out.alloc _).grown hgrow (HE1.out.alloc _).lt (fun q e => (HO2.out.lt q e).1)
          clear q0 q1 q2 q3 hgrow hat8 HYB
          go_wp2_with fail
          go_roundw
          case rel => exact ⟨i + 1, _, _, rfl, by go_num, by omega, by rw [List.range_succ, List.map_append]; exact hon8, hS8⟩
          case measure => simp [intOf]; omega
        · have hE5 := HE0.out
          obtain ⟨sb0, sb1, sb2, sb3⟩ := (HBx.out.ext hE5).cell
          obtain ⟨s0, s1, s2, s3⟩ := (HBx.out.ext (hE5.trans hM.ext)).cell
          have HXL := Lib.hid hM.xl
          have hM2 := hM
          obtain ⟨ob0, ob1, ob2, ob3⟩ := hM2.box.cell
          clear hM
          by_cases hk3 : (kx == 3) = true
          · have hk' : kx = 3 := by simpa using hk3
            have hbi : q < ix.length := by have := HIC2.out hk'; omega
            obtain ⟨bi, off, k0, k1, k2, k3, hq3, hbv, g0, g1, g2, g3, hx⟩ := ItemsAt.get ix _ 0 q (HI.out.ext (HE.out.trans hE5)) hbi
            rw [Nat.zero_add] at g0 g1 g2 g3
            subst hq3
            have HGI2 : Hid (l' ++ [ix[q]] = if kx = 3 then (ix.drop a).take (q + 1 - a) else []) := by
              show _ = _
              have h := HGI.out
              rw [if_pos hk'] at h
              rw [if_pos hk', h, take_drop_at ix a q haq hbi]
            have HGN2 : Hid (n' = if kx = 3 then [] else (nx.drop a).take (q + 1 - a)) := by
              show _ = _
              have h := HGN.out
              rw [if_pos hk'] at h ⊢
              exact h
            generalize ix[q] = x at *
            obtain ⟨yk, pp1, ll1, uu1, pp2, ll2, uu2, pp3, ll3, uu3, rfl, rfl, rfl, rfl⟩ := hx.form
            clear HGN HGI hk'
            go_wp2_with fail
            clear s0 s1 s2 s3 ob0 ob1 ob2 ob3
            have hS0 : Ext wo wr.drew ∧ wr.drew.cell? ⟨bo, 3, none⟩ = some v3 := ⟨hM2.ext.drew, hM2.box.cell.2.2.2⟩
            refine wp_region_g [0, 1, 2, 3, 4, 5, 6] [7, 8, 9, 10, 11] (fun w' => Ext wo w' ∧ w'.cell? ⟨bo, 3, none⟩ = some v3) (by kernel_rfl) (by kernel_rfl) hS0 ?_
            iterate 7
              refine wpHead_cons (v := ?_) rfl (by rfl) (fun w' hS => ?_) ?_
              rotate_left
              · obtain ⟨hS1, hS2⟩ := hS
                have e0 := hS1.cell sb0
                have e1 := hS1.cell sb1
                have e2 := hS1.cell sb2
                have e3 := hS1.cell sb3
                have e4 := hS1.cell g0
                have e5 := hS1.cell g1
                have e6 := hS1.cell g2
                have e7 := hS1.cell g3
                go_simp
                try with_reducible rfl
              try simp only [Act.put, List.setIfInBounds_toArray, List.set]
            unfold wpHead
            refine wpTail_cons rfl (fun K hK => ?_)
            clear sb0 sb1 sb2 sb3 g0 g1 g2 g3
            go_wp2_with fail
            refine (rclone_any (SizeOf.sizeOf x + 1) F x _ _ _ _ _ (by omega) (hx.ext hS0.1)).mono ?_
            rintro e w3 ⟨y0', y1', y2', y3', rfl, hy', hE3⟩
            have hEr : Ext wr w3 := Ext.trans ((Ext.refl _).drew) hE3
            have hM3 := hM2.next hEr
            have hS3 : Ext wo w3 ∧ w3.cell? ⟨bo, 3, none⟩ = some v3 := ⟨hM3.ext, hM3.box.cell.2.2.2⟩
            go_wp2_with fail
            refine hK _ _ hS3 ?_
            try simp only [Act.put, List.setIfInBounds_toArray, List.set]
            refine wpTail_cons rfl (fun K hK => ?_)
            have hY := ArrAt.mono (G := Apart wo.heap.size (fun x => (fun x => x < w5.heap.size ∧ wo.heap.size ≤ x) x ∨ v2.ownBlock = some x) v3) (w' := w3) (fun q hq _ => ⟨hM2.apart q hq, rfl⟩) _ _ _ _ _ hy'
            obtain ⟨yk, pq1, mm1, n1, pq2, mm2, n2, pq3, mm3, n3, rfl, rfl, rfl, rfl⟩ := hY.form
            clear hx hy' hE3 hM2 hS0
            go_wp2_with fail
            have hEn : Ext wr (w3.alloc (.cells #[.int .i64 yk, .slice pq1 mm1 n1, .slice pq2 mm2 n2, .slice pq3 mm3 n3] 26)) := hEr.alloc _
            have hM4 := hM3.next ((Ext.refl _).alloc (.cells #[.int .i64 yk, .slice pq1 mm1 n1, .slice pq2 mm2 n2, .slice pq3 mm3 n3] 26))
            have hbx4 := box_new w3 (.int .i64 yk) (.slice pq1 mm1 n1) (.slice pq2 mm2 n2) (.slice pq3 mm3 n3)
            have hY4 := hY.ext ((Ext.refl _).alloc (.cells #[.int .i64 yk, .slice pq1 mm1 n1, .slice pq2 mm2 n2, .slice pq3 mm3 n3] 26))
            generalize w3.alloc (.cells #[.int .i64 yk, .slice pq1 mm1 n1, .slice pq2 mm2 n2, .slice pq3 mm3 n3] 26) = w4' at *
            refine hK _ _ ⟨hM4.ext, hM4.box.cell.2.2.2⟩ ?_
            try simp only [Act.put, List.setIfInBounds_toArray, List.set]
            refine wpTail_cons rfl (fun K hK => ?_)
            refine wpList_append_arr rfl _ _ rfl wo.heap.size _ v3 l'.length l' x _ _ _ _ rfl hM4.oi _ _ rfl hbx4 hM4.xl3 hY4 (by omega) hM4.ext.lt ?_
            intro g cap w8 hon8 hgrow hat8 _ _
            obtain ⟨q1, q2, q3⟩ := hM4.grownI hgrow
            obtain ⟨_, _, _, t3⟩ := q2.cell
            have tf := q2.free 3
            obtain ⟨hM8, hfar⟩ := hM4.storedI (l' := l' ++ [x]) hgrow (by simp) hon8 (by simpa using hat8)
            refine hK _ _ ⟨q1, t3⟩ ?_
            try simp only [Act.put, List.setIfInBounds_toArray, List.set]
            refine wpTail_free2 rfl rfl (by kernel_rfl) ?_
            clear hM3 hM4 hbx4 hY4 hY hon8 hgrow hat8 q1 q2 q3 hS3 hEr
            go_wp2_with fail
            refine OnlyN.mk ?_
            have hkeep2 : ∀ q, wo.heap.size ≤ q → q < w5.heap.size → q ≠ bo → (w8.setCell ⟨bo, 3, none⟩ (.slice (some ⟨g, 0, none⟩) (l'.length + 1) cap)).heap[q]? = w5.heap[q]? := fun q a1 a2 a3 => ((hfar q ⟨a2, a1⟩ a3).trans (hEn.block (HXL.out q ⟨a2, a1⟩))).trans (HKP.out q a1 a2 a3)
            revert hM8 hkeep2
            generalize w8.setCell ⟨bo, 3, none⟩ (.slice (some ⟨g, 0, none⟩) (l'.length + 1) cap) = wk
            intro hM8 hkeep2
            clear hfar t3 tf
            (try simp only [Exit.inBlock, Exit.then])
            go_wp2_with fail
            go_roundw
            case rel => exact ⟨q + 1, n', l' ++ [x], _, _, by go_num, by omega, by omega, by omega, by simp; omega, hM8, hkeep2, HGN2.out, HGI2.out⟩
            case measure => simp [intOf]; omega
          · have hk' : kx ≠ 3 := by simpa using hk3
            have hk3' := Bool.eq_false_iff.2 hk3
            have hbi : q < nx.length := by have := HNC2.out hk'; omega
            obtain ⟨bv, ov, rfl, av, av1, av2⟩ := (HN.out.ext (HE.out.trans hE5)).get hbi
            have HGN2 : Hid (n' ++ [nx.getD q 0] = if kx = 3 then [] else (nx.drop a).take (q + 1 - a)) := by
              show _ = _
              have h := HGN.out
              rw [if_neg hk'] at h
              rw [if_neg hk', h, take_drop_at nx a q haq hbi]
              simp [List.getD, hbi]
            have HGI2 : Hid (l' = if kx = 3 then (ix.drop a).take (q + 1 - a) else []) := by
              show _ = _
              have h := HGI.out
              rw [if_neg hk'] at h ⊢
              exact h
            generalize nx.getD q 0 = xv at *
            clear HGN HGI hk' hk3
            go_wp2_with fail
            clear s0 s1 s2 s3 ob0 ob1 ob2 ob3
            have hS0 : Ext wo wr.drew ∧ wr.drew.cell? ⟨bo, 2, none⟩ = some v2 := ⟨hM2.ext.drew, hM2.box.cell.2.2.1⟩
            refine wp_region_g [0, 1, 2, 3, 4, 5, 6] [7, 8, 9, 10] (fun w' => Ext wo w' ∧ w'.cell? ⟨bo, 2, none⟩ = some v2) (by kernel_rfl) (by kernel_rfl) hS0 ?_
            iterate 7
              refine wpHead_cons (v := ?_) rfl (by rfl) (fun w' hS => ?_) ?_
              rotate_left
              · obtain ⟨hS1, hS2⟩ := hS
                have e0 := hS1.cell sb0
                have e1 := hS1.cell sb1
                have e2 := hS1.cell sb2
                have e3 := hS1.cell sb3
                have e4 := hS1.cell av
                go_simp
                try with_reducible rfl
              try simp only [Act.put, List.setIfInBounds_toArray, List.set]
            unfold wpHead
            refine wpTail_cons rfl (fun K hK => ?_)
            clear sb0 sb1 sb2 sb3 av
            go_wp2_with fail
            have hEn : Ext wr (wr.alloc (.cells #[.int .i64 xv] 3)).drew := ((Ext.refl _).alloc _).drew
            have hnc : (wr.alloc (.cells #[.int .i64 xv] 3)).drew.cell? ⟨wr.heap.size, 0, none⟩ = some (.int .i64 xv) := by simp
            generalize (wr.alloc (.cells #[.int .i64 xv] 3)).drew = w7 at hEn hnc ⊢
            have hM7 := hM2.next hEn
            refine hK _ _ ⟨hM7.ext, hM7.box.cell.2.2.1⟩ ?_
            try simp only [Act.put, List.setIfInBounds_toArray, List.set]
            refine wpTail_cons rfl (fun K hK => ?_)
            refine wpList_append_int rfl _ _ rfl wo.heap.size _ v2 n'.length n' xv rfl hM7.on ⟨wr.heap.size, 0, none⟩ 1 rfl hnc hM7.xl2 ⟨av1, av2⟩ (by omega) hM7.ext.lt ?_
            intro g cap w8 hon8 hgrow hat8 _ _
            obtain ⟨q1, q2, q3⟩ := hM7.grownN hgrow
            obtain ⟨_, _, t2, _⟩ := q2.cell
            have tf := q2.free 2
            obtain ⟨hM8, hfar⟩ := hM7.storedN (n' := n' ++ [xv]) hgrow (by simp) hon8 (by simpa using hat8)
            refine hK _ _ ⟨q1, t2⟩ ?_
            try simp only [Act.put, List.setIfInBounds_toArray, List.set]
            refine wpTail_free2 rfl rfl (by kernel_rfl) ?_
            clear hM7 hon8 hgrow hat8 q1 q2 q3 hS0 hM2 hnc
            go_wp2_with fail
            refine OnlyN.mk ?_
            have hkeep2 : ∀ q, wo.heap.size ≤ q → q < w5.heap.size → q ≠ bo → (w8.setCell ⟨bo, 2, none⟩ (.slice (some ⟨g, 0, none⟩) (n'.length + 1) cap)).heap[q]? = w5.heap[q]? := fun q a1 a2 a3 => ((hfar q ⟨a2, a1⟩ a3).trans (hEn.block (HXL.out q ⟨a2, a1⟩))).trans (HKP.out q a1 a2 a3)
            revert hM8 hkeep2
            generalize w8.setCell ⟨bo, 2, none⟩ (.slice (some ⟨g, 0, none⟩) (n'.length + 1) cap) = wk
            intro hM8 hkeep2
            clear hfar t2 tf
            (try simp only [Exit.inBlock, Exit.then])
            go_wp2_with fail
            go_roundw
            case rel => exact ⟨q + 1, n' ++ [xv], l', _, _, by go_num, by omega, by omega, by simp; omega, by omega, hM8, hkeep2, HGN2.out, HGI2.out⟩
            case measure => simp [intOf]; omega

end Go.Proofs.Ytgkemmdghmklfaa
