/-
  ROWS OF ARRAYS WHOSE TREES MAY LIE IN OLD BLOCKS TOO (those of R); an array in the making whose items are so.
-/
import Derived.Test.YtgkemmdghmklfaaApp2
namespace Go.Proofs.Ytgkemmdghmklfaa
set_option linter.unusedSimpArgs false
set_option linter.unusedVariables false
open Go.RowKit

def ApartR (R X : Nat → Prop) (v : Value) (b : Nat) : Prop := R b ∧ ¬ X b ∧ v.ownBlock ≠ some b
/-- The value v owns a row of arrays that read as the trees, in the blocks R. -/
def OwnR (B : Nat) (R X : Nat → Prop) (w : World) (v : Value) (n : Nat) (l : List Arr) : Prop :=
  l.length = n ∧ (∀ g, v.ownBlock = some g → ¬ X g) ∧ ∃ cells, w.ownsRow B 26 4 v n cells ∧ CellsRead (ApartR R X v) w cells l
theorem OwnR.nil (B : Nat) (R X : Nat → Prop) (w : World) : OwnR B R X w (.slice none 0 0) 0 [] := ⟨rfl, by simp [Value.ownBlock], [], World.ownsRow_nil _ _ _ _, by unfold CellsRead; trivial⟩
theorem OwnR.same {B : Nat} {R X Y : Nat → Prop} {w w' : World} {v : Value} {n : Nat} {l : List Arr} (h : OwnR B R X w v n l) (hR : ∀ b, B ≤ b → R b) (hs : ∀ b, b < w.heap.size → R b → ¬ X b → w'.heap[b]? = w.heap[b]? ∧ ¬ Y b) : OwnR B R Y w' v n l := by
  obtain ⟨h1, h4, cells, h3, h5⟩ := h
  have hl := h3.lt
  refine ⟨h1, fun g hg => (hs g (hl g hg).2 (hR g (hl g hg).1) (h4 g hg)).2, cells, ownsRow_same h3 fun g hg => (hs g (hl g hg).2 (hR g (hl g hg).1) (h4 g hg)).1, CellsRead.mono (fun b hb hlt => ?_) cells l h5⟩
  obtain ⟨q1, q2, q3⟩ := hb
  obtain ⟨r1, r2⟩ := hs b hlt q1 q2
  exact ⟨⟨q1, r2, q3⟩, r1⟩
theorem OwnR.ext {B : Nat} {R X : Nat → Prop} {w w' : World} {v : Value} {n : Nat} {l : List Arr} (h : OwnR B R X w v n l) (hR : ∀ b, B ≤ b → R b) (e : Ext w w') : OwnR B R X w' v n l := h.same hR fun _ hlt _ hx => ⟨e.block hlt, hx⟩
theorem OwnR.appended {B : Nat} {R X : Nat → Prop} {w w' : World} {v : Value} {n g cap : Nat} {l : List Arr} {x : Arr} {c0 c1 c2 c3 : Value} {cells : List Value} (h1 : l.length = n) (h4 : ∀ g, v.ownBlock = some g → ¬ X g)
    (h5 : CellsRead (ApartR R X v) w cells l) (hX : ∀ b, X b → b < w.heap.size) (hx : ArrAt (ApartR R X v) w x c0 c1 c2 c3)
    (hr : w'.ownsRow B 26 4 (.slice (some ⟨g, 0, none⟩) (n + 1) cap) (n + 1) (cells ++ [c0, c1, c2, c3])) (hg : w.grownBy w' v.ownBlock) (hat : v.ownBlock = some g ∨ g = w.heap.size) :
    OwnR B R X w' (.slice (some ⟨g, 0, none⟩) (n + 1) cap) (n + 1) (l ++ [x]) := by
  have key : ∀ b, ApartR R X v b → b < w.heap.size → ApartR R X (.slice (some ⟨g, 0, none⟩) (n + 1) cap) b ∧ w'.heap[b]? = w.heap[b]? := by
    intro b ⟨b1, b2, b3⟩ hlt
    refine ⟨⟨b1, b2, ?_⟩, hg.block b hlt (fun e => b3 e.symm)⟩
    simp only [Value.ownBlock, ne_eq, Option.some.injEq]
    rcases hat with hat | hat
    · intro e; subst e; exact b3 hat
    · omega
  refine ⟨by simp [h1], fun g' hg' => ?_, _, hr, ?_⟩
  · simp only [Value.ownBlock, Option.some.injEq] at hg'
    subst hg'
    rcases hat with hat | hat
    · exact h4 _ hat
    · exact fun hx => by have := hX _ hx; omega
  · exact CellsRead.snoc (ArrAt.mono key x _ _ _ _ hx) _ _ (CellsRead.mono key _ _ h5)
theorem wpList_append_arrR {ops : Array Oper} {rest : List Oper} {o : Oper} {a : Act} {w : World} {Q : Exit → Act → World → Prop} (hgd : o.guard = none) (s x : Operand)
    (ho : o.op = .call { callee := .builtin .append, args := #[s, x], argTypes := #[24, 24] })
    (B : Nat) (R X : Nat → Prop) (v : Value) (n : Nat) (l : List Arr) (y : Arr) (c0 c1 c2 c3 : Value) (hs : a.eval s = v) (hown : OwnR B R X w v n l) (b c : Nat) (hx : a.eval x = .slice (some ⟨b, 0, none⟩) 1 c) (hb : Box4 w b c0 c1 c2 c3)
    (hX : ∀ b, X b → b < w.heap.size) (hy : ArrAt (ApartR R X v) w y c0 c1 c2 c3) (hn : n < 1759218604391) (hB : B ≤ w.heap.size)
    (h : ∀ g cap w', OwnR B R X w' (.slice (some ⟨g, 0, none⟩) (n + 1) cap) (n + 1) (l ++ [y]) → w.grownBy w' v.ownBlock → (v.ownBlock = some g ∨ g = w.heap.size) → g < w'.heap.size → B ≤ g →
      wpList Try.prog ops Q rest (a.put o.dst (.slice (some ⟨g, 0, none⟩) (n + 1) cap)) w') : wpList Try.prog ops Q (o :: rest) a w := by
  obtain ⟨i0, hi, hz0, hz1, hz2⟩ := info_parts infoA
  obtain ⟨k1, k4, cells, k3, k5⟩ := hown
  refine wpList_append_lies w hgd s x 24 ho B 26 i0 _ 4 80 Try.underlying24 hi hz0 hz1 hz2 rfl (by decide) v n _ hs k3 ⟨b, 0, none⟩ 1 c [c0, c1, c2, c3] hx rfl ?_ hy.one (by decide) (by unfold maxLen; omega) (by omega) hB w.heap.size rfl ?_
  · exact World.news_of_block (cs := #[c0, c1, c2, c3]) hb
  · intro g cap w' h1 hgrow hat hlt
    exact h g cap w' (OwnR.appended k1 k4 k5 hX hy h1 hgrow hat) hgrow hat hlt (h1.lt g rfl).1
theorem OwnR.items {B : Nat} {R X : Nat → Prop} {w : World} {v : Value} {n : Nat} {l : List Arr} (h : OwnR B R X w v n l) (hR : ∀ b, B ≤ b → R b) (hn : n ≤ 1759218604391) : ∃ p c, v = .slice p l.length c ∧ ItOk l.length c ∧ ItemsAt (fun b => R b ∧ ¬ X b) w p 0 l := by
  obtain ⟨k1, k4, cells, k3, k5⟩ := h
  have kc := k3
  rcases k3.2 with ⟨rfl, rfl⟩ | ⟨g, cap, cur, rfl, hb, hg, hnc, hcm, hcs, htake⟩
  · have : l = [] := List.eq_nil_of_length_eq_zero k1
    subst this
    exact ⟨none, 0, rfl, ⟨by simp, by simp, by simp⟩, by unfold ItemsAt; trivial⟩
  · refine ⟨some ⟨g, 0, none⟩, cap, by rw [k1], ⟨by omega, by unfold maxLen at hcm; omega, by omega⟩, ?_⟩
    have := CellsRead.items (B := 0) (X := fun b => ¬ (R b ∧ ¬ X b)) (g := g) cells l 0 k5 (fun j u hj => ?_) (fun b hb => ⟨Nat.zero_le _, fun h => h ⟨hb.1, hb.2.1⟩⟩) ⟨Nat.zero_le _, fun h => h ⟨hR g hb, k4 g rfl⟩⟩
    · exact ItemsAt.mono (fun b hb _ => ⟨Classical.byContradiction fun h => hb.2 h, rfl⟩) _ _ _ this
    · have := kc.cells (g := g) rfl j u hj
      rw [Nat.zero_mul]
      rw [Addr.add_lit] at this
      exact this

/-- Box b: kind k, shape v1, numbers v2, items v3. X: the box and whatever else the rows are apart from. -/
structure MkR (w0 wB w : World) (R X : Nat → Prop) (b : Nat) (k : Int) (v1 v2 v3 : Value) (n : List Int) (l : List Arr) : Prop where
  ext : Ext w0 w
  le : w0.heap.size ≤ b
  box : Box4 w b (.int .i64 k) v1 v2 v3
  xb : X b
  xl : ∀ x, X x → x < w.heap.size
  on : OwnI wB.heap.size (fun x => X x ∨ v3.ownBlock = some x) w v2 n.length n
  hB : w0.heap.size ≤ wB.heap.size
  wl : wB.heap.size ≤ w.heap.size
  keep : ∀ q, q < wB.heap.size → q ≠ b → w.heap[q]? = wB.heap[q]?
  rr : ∀ b, wB.heap.size ≤ b → R b
  oi : OwnR wB.heap.size R (fun x => X x ∨ v2.ownBlock = some x) w v3 l.length l

theorem MkR.fresh {w0 w : World} {R X : Nat → Prop} {b : Nat} {k : Int} {v1 : Value} (h1 : Ext w0 w) (h2 : w0.heap.size ≤ b) (h3 : Box4 w b (.int .i64 k) v1 (.slice none 0 0) (.slice none 0 0)) (h4 : X b) (h5 : ∀ x, X x → x < w.heap.size) (h6 : ∀ b, w.heap.size ≤ b → R b) (hB : w0.heap.size ≤ w.heap.size) :
    MkR w0 w w R X b k v1 (.slice none 0 0) (.slice none 0 0) [] [] := ⟨h1, h2, h3, h4, h5, OwnI.nil _ _ _, hB, Nat.le_refl _, fun _ _ _ => rfl, h6, OwnR.nil _ _ _ _⟩

theorem MkR.next {w0 wB w w' : World} {R X : Nat → Prop} {b : Nat} {k : Int} {v1 v2 v3 : Value} {n : List Int} {l : List Arr} (h : MkR w0 wB w R X b k v1 v2 v3 n l) (e : Ext w w') : MkR w0 wB w' R X b k v1 v2 v3 n l :=
  ⟨h.ext.trans e, h.le, h.box.ext e, h.xb, fun x hx => Nat.lt_of_lt_of_le (h.xl x hx) e.lt, h.on.ext e, h.hB, Nat.le_trans h.wl e.lt, fun q hq hqb => (e.block (Nat.lt_of_lt_of_le hq h.wl)).trans (h.keep q hq hqb), h.rr, h.oi.ext h.rr e⟩

theorem MkR.xl2 {w0 wB w : World} {R X : Nat → Prop} {b : Nat} {k : Int} {v1 v2 v3 : Value} {n : List Int} {l : List Arr} (h : MkR w0 wB w R X b k v1 v2 v3 n l) : ∀ x, (X x ∨ v3.ownBlock = some x) → x < w.heap.size := by
  intro x hx
  rcases hx with hx | hx
  · exact h.xl x hx
  · obtain ⟨_, _, cells, hr, _⟩ := h.oi
    exact (hr.lt x hx).2
theorem MkR.xl3 {w0 wB w : World} {R X : Nat → Prop} {b : Nat} {k : Int} {v1 v2 v3 : Value} {n : List Int} {l : List Arr} (h : MkR w0 wB w R X b k v1 v2 v3 n l) : ∀ x, (X x ∨ v2.ownBlock = some x) → x < w.heap.size := by
  intro x hx
  rcases hx with hx | hx
  · exact h.xl x hx
  · exact (h.on.2.2.1.lt x hx).2

/-- Behind an append to the numbers: what the store into the box needs. -/
theorem MkR.grownN {w0 wB w w' : World} {R X : Nat → Prop} {b : Nat} {k : Int} {v1 v2 v3 : Value} {n : List Int} {l : List Arr} (h : MkR w0 wB w R X b k v1 v2 v3 n l) (hg : w.grownBy w' v2.ownBlock) : Ext w0 w' ∧ Box4 w' b (.int .i64 k) v1 v2 v3 ∧ ∀ q, X q → w'.heap[q]? = w.heap[q]? := by
  have hl := h.on.2.2.1.lt
  have hx := h.on.2.2.2.1
  exact ⟨h.ext.grown hg h.ext.lt (fun q e => Nat.le_trans h.hB (hl q e).1), h.box.kept (hg.block b h.box.lt (fun e => hx b e.symm (.inl h.xb))), fun q hq => hg.block q (h.xl q hq) (fun e => hx q e.symm (.inl hq))⟩
theorem MkR.storedN {w0 wB w w' : World} {R X : Nat → Prop} {b g c m : Nat} {k : Int} {v1 v2 v3 : Value} {n n' : List Int} {l : List Arr} (h : MkR w0 wB w R X b k v1 v2 v3 n l) (hg : w.grownBy w' v2.ownBlock) (hm : n'.length = m)
    (ho : OwnI wB.heap.size (fun x => X x ∨ v3.ownBlock = some x) w' (.slice (some ⟨g, 0, none⟩) m c) m n') (hat : v2.ownBlock = some g ∨ g = w.heap.size) :
    MkR w0 wB (w'.setCell ⟨b, 2, none⟩ (.slice (some ⟨g, 0, none⟩) m c)) R X b k v1 (.slice (some ⟨g, 0, none⟩) m c) v3 n' l ∧ ∀ q, X q → q ≠ b → (w'.setCell ⟨b, 2, none⟩ (.slice (some ⟨g, 0, none⟩) m c)).heap[q]? = w.heap[q]? := by
  obtain ⟨h1, h2, h3⟩ := h.grownN hg
  subst hm
  have far : ∀ q, q ≠ b → (w'.setCell ⟨b, 2, none⟩ (.slice (some ⟨g, 0, none⟩) n'.length c)).heap[q]? = w'.heap[q]? := fun q hq => Below.heap_setCell _ _ _ _ (by simpa using hq)
  refine ⟨⟨h1.setCell (p := ⟨b, 2, none⟩) h.le _, h.le, h2.set2 _, h.xb, fun x hx => ?_, ho.same fun q _ _ hne => ⟨far q (fun e => hne (by rw [e]; exact .inl h.xb)), hne⟩, h.hB, Nat.le_trans h.wl (by simpa [World.setCell] using hg.size), fun q hq hqb => ?_, h.rr, h.oi.same h.rr fun q hlt _ hne => ?_⟩, fun q hq hqb => (far q hqb).trans (h3 q hq)⟩
  · have h8 := Nat.lt_of_lt_of_le (h.xl x hx) hg.size
    simpa [World.setCell] using h8
  · exact (far q hqb).trans ((hg.block q (Nat.lt_of_lt_of_le hq h.wl) (fun e => by have := (h.on.2.2.1.lt q e.symm).1; omega)).trans (h.keep q hq hqb))
  · have hqb : q ≠ b := fun e => hne (by rw [e]; exact .inl h.xb)
    refine ⟨(far q hqb).trans (hg.block q hlt (fun e => hne (.inr e.symm))), fun hx => ?_⟩
    rcases hx with hx | hx
    · exact hne (.inl hx)
    · simp only [Value.ownBlock, Option.some.injEq] at hx
      subst hx
      rcases hat with hat | hat
      · exact hne (.inr hat)
      · omega

/-- Behind an append to the items. -/
theorem MkR.grownI {w0 wB w w' : World} {R X : Nat → Prop} {b : Nat} {k : Int} {v1 v2 v3 : Value} {n : List Int} {l : List Arr} (h : MkR w0 wB w R X b k v1 v2 v3 n l) (hg : w.grownBy w' v3.ownBlock) : Ext w0 w' ∧ Box4 w' b (.int .i64 k) v1 v2 v3 ∧ ∀ q, X q → w'.heap[q]? = w.heap[q]? := by
  obtain ⟨_, hx, cells, hr, _⟩ := h.oi
  have hl := hr.lt
  exact ⟨h.ext.grown hg h.ext.lt (fun q e => Nat.le_trans h.hB (hl q e).1), h.box.kept (hg.block b h.box.lt (fun e => hx b e.symm (.inl h.xb))), fun q hq => hg.block q (h.xl q hq) (fun e => hx q e.symm (.inl hq))⟩
theorem MkR.storedI {w0 wB w w' : World} {R X : Nat → Prop} {b g c m : Nat} {k : Int} {v1 v2 v3 : Value} {n : List Int} {l l' : List Arr} (h : MkR w0 wB w R X b k v1 v2 v3 n l) (hg : w.grownBy w' v3.ownBlock) (hm : l'.length = m)
    (ho : OwnR wB.heap.size R (fun x => X x ∨ v2.ownBlock = some x) w' (.slice (some ⟨g, 0, none⟩) m c) m l') (hat : v3.ownBlock = some g ∨ g = w.heap.size) :
    MkR w0 wB (w'.setCell ⟨b, 3, none⟩ (.slice (some ⟨g, 0, none⟩) m c)) R X b k v1 v2 (.slice (some ⟨g, 0, none⟩) m c) n l' ∧ ∀ q, X q → q ≠ b → (w'.setCell ⟨b, 3, none⟩ (.slice (some ⟨g, 0, none⟩) m c)).heap[q]? = w.heap[q]? := by
  obtain ⟨h1, h2, h3⟩ := h.grownI hg
  subst hm
  have far : ∀ q, q ≠ b → (w'.setCell ⟨b, 3, none⟩ (.slice (some ⟨g, 0, none⟩) l'.length c)).heap[q]? = w'.heap[q]? := fun q hq => Below.heap_setCell _ _ _ _ (by simpa using hq)
  refine ⟨⟨h1.setCell (p := ⟨b, 3, none⟩) h.le _, h.le, h2.set3 _, h.xb, fun x hx => ?_, h.on.same fun q _ hlt hne => ?_, h.hB, Nat.le_trans h.wl (by simpa [World.setCell] using hg.size), fun q hq hqb => ?_, h.rr, ho.same h.rr fun q _ _ hne => ⟨far q (fun e => hne (by rw [e]; exact .inl h.xb)), hne⟩⟩, fun q hq hqb => (far q hqb).trans (h3 q hq)⟩
  · have h8 := Nat.lt_of_lt_of_le (h.xl x hx) hg.size
    simpa [World.setCell] using h8
  · have hqb : q ≠ b := fun e => hne (by rw [e]; exact .inl h.xb)
    refine ⟨(far q hqb).trans (hg.block q hlt (fun e => hne (.inr e.symm))), fun hx => ?_⟩
    rcases hx with hx | hx
    · exact hne (.inl hx)
    · simp only [Value.ownBlock, Option.some.injEq] at hx
      subst hx
      rcases hat with hat | hat
      · exact hne (.inr hat)
      · omega
  · exact (far q hqb).trans ((hg.block q (Nat.lt_of_lt_of_le hq h.wl) (fun e => by
      obtain ⟨_, _, cells, hr, _⟩ := h.oi
      have := (hr.lt q e.symm).1; omega)).trans (h.keep q hq hqb))
/-- What is new, or older than the rows, is apart from what the items own. -/
theorem MkR.apart {w0 wB w : World} {R X : Nat → Prop} {b : Nat} {k : Int} {v1 v2 v3 : Value} {n : List Int} {l : List Arr} (h : MkR w0 wB w R X b k v1 v2 v3 n l) (q : Nat) (hR : R q) (hq : (q < wB.heap.size ∧ ¬ X q) ∨ w.heap.size ≤ q) : ApartR R (fun x => X x ∨ v2.ownBlock = some x) v3 q := by
  have hl2 := h.on.2.2.1.lt
  obtain ⟨_, _, cells, hr, _⟩ := h.oi
  have hl3 := hr.lt
  refine ⟨hR, fun hx => ?_, fun e => ?_⟩
  · rcases hx with hx | hx
    · rcases hq with hq | hq
      · exact hq.2 hx
      · have h2 := h.xl q hx
        omega
    · have h1 := hl2 q hx
      omega
  · have h1 := hl3 q e
    omega

/-- The box's four cells read as the array, the shape as it came. -/
theorem MkR.arr {w0 wB w : World} {R X G : Nat → Prop} {b : Nat} {k : Int} {v1 v2 v3 : Value} {s n : List Int} {l : List Arr} (h : MkR w0 wB w R X b k v1 v2 v3 n l) (hk : -9223372036854775808 ≤ k ∧ k ≤ 9223372036854775807) (hs : ∃ p c, v1 = .slice p s.length c ∧ SlOk s.length c ∧ IntsAt G w p s) (hl : l.length ≤ 1759218604391) :
    ArrAt (fun x => (R x ∧ ¬ X x) ∨ G x) w (.mk k s n l) (.int .i64 k) v1 v2 v3 := by
  unfold ArrAt
  obtain ⟨p1, c1, e1, q1, i1⟩ := hs
  obtain ⟨p2, c2, e2, q2, i2⟩ := h.on.ints
  obtain ⟨p3, c3, e3, q3, i3⟩ := h.oi.items h.rr hl
  exact ⟨rfl, hk, ⟨p1, c1, e1, q1, i1.mono fun _ hx _ => ⟨.inr hx, rfl⟩⟩, ⟨p2, c2, e2, q2, i2.mono fun _ hx _ => ⟨.inl ⟨h.rr _ hx.1, fun e => hx.2 (.inl e)⟩, rfl⟩⟩, ⟨p3, c3, e3, q3, ItemsAt.mono (fun x hx _ => ⟨.inl ⟨hx.1, fun e => hx.2 (.inl e)⟩, rfl⟩) l p3 0 i3⟩⟩

end Go.Proofs.Ytgkemmdghmklfaa
