/-
  WHAT A CALL OWNS: rows of numbers and rows of arrays that it has made; boxes; append by one. (The element types' numbers are the dump's.)
-/
import Derived.Test.YtgkemmdghmklfaaChecked
import Derived.Test.YtgkemmdghmklfaaBase
import Derived.Test.YtgkemmdghmklfaaRegion
import Derived.Deep.AppendLies
namespace Go.Proofs.Ytgkemmdghmklfaa
set_option linter.unusedSimpArgs false
set_option linter.unusedVariables false
open Go.RowKit

theorem infoI : (Try.prog.info? 3).map (fun i => (i.zero, i.size, i.bytes)) = some (some (.int .i64 0), 1, 8) := by kernel_rfl
theorem infoA : (Try.prog.info? 26).map (fun i => (i.zero, i.size, i.bytes)) = some (some (.agg #[.int .i64 0, .slice none 0 0, .slice none 0 0, .slice none 0 0]), 4, 80) := by kernel_rfl

/-- A struct of four cells in a block of its own. -/
def Box4 (w : World) (b : Nat) (c0 c1 c2 c3 : Value) : Prop := w.heap[b]? = some (.cells #[c0, c1, c2, c3] 26 (0, 0))

theorem Box4.cell {w : World} {b : Nat} {c0 c1 c2 c3 : Value} (h : Box4 w b c0 c1 c2 c3) : w.cell? ⟨b, 0, none⟩ = some c0 ∧ w.cell? ⟨b, 1, none⟩ = some c1 ∧ w.cell? ⟨b, 2, none⟩ = some c2 ∧ w.cell? ⟨b, 3, none⟩ = some c3 := by
  unfold Box4 at h
  refine ⟨?_, ?_, ?_, ?_⟩ <;> simp [World.cell?, h]
theorem Box4.free {w : World} {b : Nat} {c0 c1 c2 c3 : Value} (h : Box4 w b c0 c1 c2 c3) (o : Nat) : w.frozen? ⟨b, o, none⟩ = false := by
  unfold Box4 at h
  simp [World.frozen?, h]
theorem Box4.lt {w : World} {b : Nat} {c0 c1 c2 c3 : Value} (h : Box4 w b c0 c1 c2 c3) : b < w.heap.size := (Array.getElem?_eq_some_iff.1 h).1
theorem Box4.kept {w w' : World} {b : Nat} {c0 c1 c2 c3 : Value} (h : Box4 w b c0 c1 c2 c3) (e : w'.heap[b]? = w.heap[b]?) : Box4 w' b c0 c1 c2 c3 := by
  unfold Box4 at h ⊢
  rw [e]; exact h
theorem Box4.ext {w w' : World} {b : Nat} {c0 c1 c2 c3 : Value} (h : Box4 w b c0 c1 c2 c3) (e : Ext w w') : Box4 w' b c0 c1 c2 c3 := h.kept (e.block h.lt)
theorem heap_setCell_at {w : World} {b o : Nat} {v : Value} {cs : Array Value} {t : TypeId} {fr : Nat × Nat} (h : w.heap[b]? = some (.cells cs t fr)) : (w.setCell ⟨b, o, none⟩ v).heap[b]? = some (.cells (cs.setIfInBounds o v) t fr) := by
  simp [World.setCell, Array.getElem?_modify, h]
theorem Box4.set0 {w : World} {b : Nat} {c0 c1 c2 c3 : Value} (h : Box4 w b c0 c1 c2 c3) (v : Value) : Box4 (w.setCell ⟨b, 0, none⟩ v) b v c1 c2 c3 := by
  have := heap_setCell_at (o := 0) (v := v) h
  simpa [Box4] using this
theorem Box4.set1 {w : World} {b : Nat} {c0 c1 c2 c3 : Value} (h : Box4 w b c0 c1 c2 c3) (v : Value) : Box4 (w.setCell ⟨b, 1, none⟩ v) b c0 v c2 c3 := by
  have := heap_setCell_at (o := 1) (v := v) h
  simpa [Box4] using this
theorem Box4.set2 {w : World} {b : Nat} {c0 c1 c2 c3 : Value} (h : Box4 w b c0 c1 c2 c3) (v : Value) : Box4 (w.setCell ⟨b, 2, none⟩ v) b c0 c1 v c3 := by
  have := heap_setCell_at (o := 2) (v := v) h
  simpa [Box4] using this
theorem Box4.set3 {w : World} {b : Nat} {c0 c1 c2 c3 : Value} (h : Box4 w b c0 c1 c2 c3) (v : Value) : Box4 (w.setCell ⟨b, 3, none⟩ v) b c0 c1 c2 v := by
  have := heap_setCell_at (o := 3) (v := v) h
  simpa [Box4] using this
theorem Box4.far {w : World} {b : Nat} {c0 c1 c2 c3 : Value} (h : Box4 w b c0 c1 c2 c3) {a : Addr} (hne : b ≠ a.block) (v : Value) : Box4 (w.setCell a v) b c0 c1 c2 c3 := h.kept (Below.heap_setCell _ _ _ _ hne)

/-- The value v owns a row of the numbers xs, in blocks from B on that are not in X. -/
def OwnI (B : Nat) (X : Nat → Prop) (w : World) (v : Value) (n : Nat) (xs : List Int) : Prop :=
  xs.length = n ∧ n ≤ 17592186044416 ∧ w.ownsRow B 3 1 v n (xs.map (Value.int .i64)) ∧ (∀ g, v.ownBlock = some g → ¬ X g) ∧ ∀ x ∈ xs, -9223372036854775808 ≤ x ∧ x ≤ 9223372036854775807

mutual
/-- The cells read, four by four, as the trees. -/
def CellsRead (F : Nat → Prop) (w : World) : List Value → List Arr → Prop
  | [], [] => True
  | c0 :: c1 :: c2 :: c3 :: cs, x :: r => ArrAt F w x c0 c1 c2 c3 ∧ CellsRead F w cs r
  | _, _ => False
end

theorem CellsRead.mono {F G : Nat → Prop} {w w' : World} (hF : ∀ b, F b → b < w.heap.size → G b ∧ w'.heap[b]? = w.heap[b]?) : ∀ (cs : List Value) (l : List Arr), CellsRead F w cs l → CellsRead G w' cs l
  | [], [], _ => by unfold CellsRead; trivial
  | c0 :: c1 :: c2 :: c3 :: cs, x :: r, h => by
    unfold CellsRead at h ⊢
    exact ⟨ArrAt.mono hF x _ _ _ _ h.1, CellsRead.mono hF cs r h.2⟩
  | [], _ :: _, h => by unfold CellsRead at h; exact h.elim
  | [_], _, h => by unfold CellsRead at h; exact h.elim
  | [_, _], _, h => by unfold CellsRead at h; exact h.elim
  | [_, _, _], _, h => by unfold CellsRead at h; exact h.elim
  | _ :: _ :: _ :: _ :: _, [], h => by unfold CellsRead at h; exact h.elim

theorem CellsRead.snoc {F : Nat → Prop} {w : World} {c0 c1 c2 c3 : Value} {x : Arr} (hx : ArrAt F w x c0 c1 c2 c3) : ∀ (cs : List Value) (l : List Arr), CellsRead F w cs l → CellsRead F w (cs ++ [c0, c1, c2, c3]) (l ++ [x])
  | [], [], _ => by simp only [List.nil_append]; unfold CellsRead; exact ⟨hx, by unfold CellsRead; trivial⟩
  | d0 :: d1 :: d2 :: d3 :: cs, y :: r, h => by
    unfold CellsRead at h
    simp only [List.cons_append]
    unfold CellsRead
    exact ⟨h.1, CellsRead.snoc hx cs r h.2⟩
  | [], _ :: _, h => by unfold CellsRead at h; exact h.elim
  | [_], _, h => by unfold CellsRead at h; exact h.elim
  | [_, _], _, h => by unfold CellsRead at h; exact h.elim
  | [_, _, _], _, h => by unfold CellsRead at h; exact h.elim
  | _ :: _ :: _ :: _ :: _, [], h => by unfold CellsRead at h; exact h.elim

/-- Where the trees of an owned row may lie: new blocks, none of X, not the row itself. -/
def Apart (B : Nat) (X : Nat → Prop) (v : Value) (b : Nat) : Prop := B ≤ b ∧ ¬ X b ∧ v.ownBlock ≠ some b

/-- The value v owns a row of arrays that read as the trees. -/
def OwnA (B : Nat) (X : Nat → Prop) (w : World) (v : Value) (n : Nat) (l : List Arr) : Prop :=
  l.length = n ∧ (∀ g, v.ownBlock = some g → ¬ X g) ∧ ∃ cells, w.ownsRow B 26 4 v n cells ∧ CellsRead (Apart B X v) w cells l

theorem OwnI.nil (B : Nat) (X : Nat → Prop) (w : World) : OwnI B X w (.slice none 0 0) 0 [] := ⟨rfl, by omega, World.ownsRow_nil _ _ _ _, by simp [Value.ownBlock], by simp⟩
theorem OwnA.nil (B : Nat) (X : Nat → Prop) (w : World) : OwnA B X w (.slice none 0 0) 0 [] := ⟨rfl, by simp [Value.ownBlock], [], World.ownsRow_nil _ _ _ _, by unfold CellsRead; trivial⟩

theorem ownsRow_same {w w' : World} {base : Nat} {e : TypeId} {size : Nat} {v : Value} {n : Nat} {xs : List Value} (h : w.ownsRow base e size v n xs) (hs : ∀ g, v.ownBlock = some g → w'.heap[g]? = w.heap[g]?) : w'.ownsRow base e size v n xs := by
  refine ⟨h.1, ?_⟩
  rcases h.2 with hn | ⟨g, cap, cur, rfl, hb, hgg, rest⟩
  · exact .inl hn
  · exact .inr ⟨g, cap, cur, rfl, hb, by rw [hs g rfl]; exact hgg, rest⟩

/-- What is owned stays owned while its block is as it was. -/
theorem OwnI.same {B : Nat} {X Y : Nat → Prop} {w w' : World} {v : Value} {n : Nat} {xs : List Int} (h : OwnI B X w v n xs) (hs : ∀ g, v.ownBlock = some g → g < w.heap.size → ¬ X g → w'.heap[g]? = w.heap[g]? ∧ ¬ Y g) : OwnI B Y w' v n xs := by
  obtain ⟨h1, h2, h3, h4, h5⟩ := h
  have hl := h3.lt
  exact ⟨h1, h2, ownsRow_same h3 fun g hg => (hs g hg (hl g hg).2 (h4 g hg)).1, fun g hg => (hs g hg (hl g hg).2 (h4 g hg)).2, h5⟩
theorem OwnI.ext {B : Nat} {X : Nat → Prop} {w w' : World} {v : Value} {n : Nat} {xs : List Int} (h : OwnI B X w v n xs) (e : Ext w w') : OwnI B X w' v n xs := h.same fun _ _ hlt hx => ⟨e.block hlt, hx⟩
theorem OwnA.same {B : Nat} {X Y : Nat → Prop} {w w' : World} {v : Value} {n : Nat} {l : List Arr} (h : OwnA B X w v n l) (hs : ∀ b, b < w.heap.size → B ≤ b → ¬ X b → w'.heap[b]? = w.heap[b]? ∧ ¬ Y b) : OwnA B Y w' v n l := by
  obtain ⟨h1, h4, cells, h3, h5⟩ := h
  have hl := h3.lt
  refine ⟨h1, fun g hg => (hs g (hl g hg).2 (hl g hg).1 (h4 g hg)).2, cells, ownsRow_same h3 fun g hg => (hs g (hl g hg).2 (hl g hg).1 (h4 g hg)).1, CellsRead.mono (fun b hb hlt => ?_) cells l h5⟩
  obtain ⟨q1, q2, q3⟩ := hb
  obtain ⟨r1, r2⟩ := hs b hlt q1 q2
  exact ⟨⟨q1, r2, q3⟩, r1⟩
theorem OwnA.ext {B : Nat} {X : Nat → Prop} {w w' : World} {v : Value} {n : Nat} {l : List Arr} (h : OwnA B X w v n l) (e : Ext w w') : OwnA B X w' v n l := h.same fun _ hlt _ hx => ⟨e.block hlt, hx⟩

/-- Appending one number. -/
theorem OwnI.appended {B : Nat} {X : Nat → Prop} {w w' : World} {v : Value} {n g cap : Nat} {xs : List Int} {d : Int} (h : OwnI B X w v n xs) (hX : ∀ b, X b → b < w.heap.size) (hd : -9223372036854775808 ≤ d ∧ d ≤ 9223372036854775807) (hn : n < 17592186044416)
    (h1 : w'.ownsRow B 3 1 (.slice (some ⟨g, 0, none⟩) (n + 1) cap) (n + 1) (xs.map (Value.int .i64) ++ [.int .i64 d])) (hat : v.ownBlock = some g ∨ g = w.heap.size) :
    OwnI B X w' (.slice (some ⟨g, 0, none⟩) (n + 1) cap) (n + 1) (xs ++ [d]) := by
  obtain ⟨k1, k2, k3, k4, k5⟩ := h
  refine ⟨by simp [k1], by omega, by simpa using h1, fun g' hg' => ?_, fun x hx => ?_⟩
  · simp only [Value.ownBlock, Option.some.injEq] at hg'
    subst hg'
    rcases hat with hat | hat
    · exact k4 _ hat
    · exact fun hx => by have := hX _ hx; omega
  · rcases List.mem_append.1 hx with hx | hx
    · exact k5 x hx
    · rw [List.mem_singleton] at hx
      rw [hx]; exact hd

/-- The list of a plain region: append of one number that lies at ad. -/
theorem wpList_append_int {ops : Array Oper} {rest : List Oper} {o : Oper} {a : Act} {w : World} {Q : Exit → Act → World → Prop} (hgd : o.guard = none) (s x : Operand)
    (ho : o.op = .call { callee := .builtin .append, args := #[s, x], argTypes := #[23, 23] })
    (B : Nat) (X : Nat → Prop) (v : Value) (n : Nat) (xs : List Int) (d : Int) (hs : a.eval s = v) (hown : OwnI B X w v n xs) (ad : Addr) (c : Nat) (hx : a.eval x = .slice (some ad) 1 c) (hc : w.cell? ad = some (.int .i64 d))
    (hX : ∀ b, X b → b < w.heap.size) (hd : -9223372036854775808 ≤ d ∧ d ≤ 9223372036854775807) (hn : n < 17592186044416) (hB : B ≤ w.heap.size)
    (h : ∀ g cap w', OwnI B X w' (.slice (some ⟨g, 0, none⟩) (n + 1) cap) (n + 1) (xs ++ [d]) → w.grownBy w' v.ownBlock → (v.ownBlock = some g ∨ g = w.heap.size) → g < w'.heap.size → B ≤ g →
      wpList Try.prog ops Q rest (a.put o.dst (.slice (some ⟨g, 0, none⟩) (n + 1) cap)) w') : wpList Try.prog ops Q (o :: rest) a w := by
  obtain ⟨i0, hi, hz0, hz1, hz2⟩ := info_parts infoI
  have hown' := hown
  obtain ⟨k1, k2, k3, k4, k5⟩ := hown
  refine wpList_append_lies w hgd s x 23 ho B 3 i0 (.int .i64 0) 1 8 Try.underlying23 hi hz0 hz1 hz2 rfl (by decide) v n _ hs k3 ad 1 c [.int .i64 d] hx rfl ?_ ?_ (by decide) (by unfold maxLen; omega) (by omega) hB w.heap.size rfl ?_
  · intro j u hj
    match j, hj with
    | 0, hj => simp at hj; subst hj; simpa [Addr.add] using hc
  · intro u hu; simp at hu; subst hu; rfl
  · intro g cap w' h1 hgrow hat hlt
    have hB' : B ≤ g := (h1.lt g rfl).1
    exact h g cap w' (hown'.appended hX hd hn h1 hat) hgrow hat hlt hB'

/-- Appending one array. -/
theorem OwnA.appended {B : Nat} {X : Nat → Prop} {w w' : World} {v : Value} {n g cap : Nat} {l : List Arr} {x : Arr} {c0 c1 c2 c3 : Value} {cells : List Value} (h1 : l.length = n) (h4 : ∀ g, v.ownBlock = some g → ¬ X g)
    (h5 : CellsRead (Apart B X v) w cells l) (hX : ∀ b, X b → b < w.heap.size) (hx : ArrAt (Apart B X v) w x c0 c1 c2 c3)
    (hr : w'.ownsRow B 26 4 (.slice (some ⟨g, 0, none⟩) (n + 1) cap) (n + 1) (cells ++ [c0, c1, c2, c3])) (hg : w.grownBy w' v.ownBlock) (hat : v.ownBlock = some g ∨ g = w.heap.size) :
    OwnA B X w' (.slice (some ⟨g, 0, none⟩) (n + 1) cap) (n + 1) (l ++ [x]) := by
  have key : ∀ b, Apart B X v b → b < w.heap.size → Apart B X (.slice (some ⟨g, 0, none⟩) (n + 1) cap) b ∧ w'.heap[b]? = w.heap[b]? := by
    intro b ⟨b1, b2, b3⟩ hlt
    refine ⟨⟨b1, b2, ?_⟩, hg.block b hlt (fun e => b3 e.symm)⟩
    simp only [Value.ownBlock, ne_eq, Option.some.injEq]
    rcases hat with hat | hat
    · intro e; subst e; exact b3 hat
    · omega
  refine ⟨by simp [h1], fun g' hg' => ?_, _, hr, ?_⟩
  · simp only [Value.ownBlock, Option.some.injEq] at hg'
    subst hg'
    rcases hat with hat | hat
    · exact h4 _ hat
    · exact fun hx => by have := hX _ hx; omega
  · exact CellsRead.snoc (ArrAt.mono key x _ _ _ _ hx) _ _ (CellsRead.mono key _ _ h5)

theorem ArrAt.one {F : Nat → Prop} {w : World} {x : Arr} {c0 c1 c2 c3 : Value} (hx : ArrAt F w x c0 c1 c2 c3) : ∀ u ∈ [c0, c1, c2, c3], u.oneCell' = true := by
  obtain ⟨k, p1, n1, k1, p2, n2, k2, p3, n3, k3, rfl, rfl, rfl, rfl⟩ := hx.form
  intro u hu
  simp only [List.mem_cons, List.not_mem_nil, or_false] at hu
  rcases hu with rfl | rfl | rfl | rfl <;> rfl

theorem wpList_append_arr {ops : Array Oper} {rest : List Oper} {o : Oper} {a : Act} {w : World} {Q : Exit → Act → World → Prop} (hgd : o.guard = none) (s x : Operand)
    (ho : o.op = .call { callee := .builtin .append, args := #[s, x], argTypes := #[24, 24] })
    (B : Nat) (X : Nat → Prop) (v : Value) (n : Nat) (l : List Arr) (y : Arr) (c0 c1 c2 c3 : Value) (hs : a.eval s = v) (hown : OwnA B X w v n l) (b c : Nat) (hx : a.eval x = .slice (some ⟨b, 0, none⟩) 1 c) (hb : Box4 w b c0 c1 c2 c3)
    (hX : ∀ b, X b → b < w.heap.size) (hy : ArrAt (Apart B X v) w y c0 c1 c2 c3) (hn : n < 1759218604391) (hB : B ≤ w.heap.size)
    (h : ∀ g cap w', OwnA B X w' (.slice (some ⟨g, 0, none⟩) (n + 1) cap) (n + 1) (l ++ [y]) → w.grownBy w' v.ownBlock → (v.ownBlock = some g ∨ g = w.heap.size) → g < w'.heap.size → B ≤ g →
      wpList Try.prog ops Q rest (a.put o.dst (.slice (some ⟨g, 0, none⟩) (n + 1) cap)) w') : wpList Try.prog ops Q (o :: rest) a w := by
  obtain ⟨i0, hi, hz0, hz1, hz2⟩ := info_parts infoA
  obtain ⟨k1, k4, cells, k3, k5⟩ := hown
  refine wpList_append_lies w hgd s x 24 ho B 26 i0 _ 4 80 Try.underlying24 hi hz0 hz1 hz2 rfl (by decide) v n _ hs k3 ⟨b, 0, none⟩ 1 c [c0, c1, c2, c3] hx rfl ?_ hy.one (by decide) (by unfold maxLen; omega) (by omega) hB w.heap.size rfl ?_
  · exact World.news_of_block (cs := #[c0, c1, c2, c3]) hb
  · intro g cap w' h1 hgrow hat hlt
    exact h g cap w' (OwnA.appended k1 k4 k5 hX hy h1 hgrow hat) hgrow hat hlt (h1.lt g rfl).1

/-- What is owned reads as the list. -/
theorem OwnI.ints {B : Nat} {X : Nat → Prop} {w : World} {v : Value} {n : Nat} {xs : List Int} (h : OwnI B X w v n xs) : ∃ p c, v = .slice p xs.length c ∧ SlOk xs.length c ∧ IntsAt (fun b => B ≤ b ∧ ¬ X b) w p xs := by
  obtain ⟨k1, k2, k3, k4, k5⟩ := h
  have kc := k3
  rcases k3.2 with ⟨rfl, rfl⟩ | ⟨g, cap, cur, rfl, hb, hg, hnc, hcm, hcs, htake⟩
  · have : xs = [] := List.eq_nil_of_length_eq_zero k1
    subst this
    exact ⟨none, 0, rfl, ⟨by simp, by simp, by simp⟩, fun i hi => by simp at hi⟩
  · refine ⟨some ⟨g, 0, none⟩, cap, by rw [k1], ⟨by omega, by unfold maxLen at hcm; omega, by omega⟩, fun i hi => ⟨g, 0, rfl, ⟨hb, k4 g rfl⟩, ?_, ?_⟩⟩
    · have := kc.cells (g := g) rfl i (.int .i64 (xs.getD i 0)) (by simp [List.getD, hi])
      simpa [Addr.add_lit] using this
    · exact k5 _ (by simp [List.getD, hi])

theorem CellsRead.items {B : Nat} {X : Nat → Prop} {w : World} {g : Nat} {F : Nat → Prop} : ∀ (cs : List Value) (l : List Arr) (i : Nat), CellsRead F w cs l → (∀ j u, cs[j]? = some u → w.cell? ⟨g, i * 4 + j, none⟩ = some u) → (∀ b, F b → B ≤ b ∧ ¬ X b) → (B ≤ g ∧ ¬ X g) →
    ItemsAt (fun b => B ≤ b ∧ ¬ X b) w (some ⟨g, 0, none⟩) i l
  | [], [], _, _, _, _, _ => by unfold ItemsAt; trivial
  | c0 :: c1 :: c2 :: c3 :: cs, x :: r, i, h, hc, hF, hg => by
    unfold CellsRead at h
    unfold ItemsAt
    refine ⟨⟨g, 0, c0, c1, c2, c3, rfl, hg, ?_, ?_, ?_, ?_, ArrAt.mono (fun b hb _ => ⟨hF b hb, rfl⟩) x _ _ _ _ h.1⟩, CellsRead.items cs r (i + 1) h.2 (fun j u hj => ?_) hF hg⟩
    · have := hc 0 c0 rfl; simpa using this
    · have := hc 1 c1 rfl; simpa using this
    · have := hc 2 c2 rfl; simpa using this
    · have := hc 3 c3 rfl; simpa using this
    · have := hc (j + 4) u (by simpa using hj)
      rw [show (i + 1) * 4 + j = i * 4 + (j + 4) by omega]
      exact this
  | [], _ :: _, _, h, _, _, _ => by unfold CellsRead at h; exact h.elim
  | [_], _, _, h, _, _, _ => by unfold CellsRead at h; exact h.elim
  | [_, _], _, _, h, _, _, _ => by unfold CellsRead at h; exact h.elim
  | [_, _, _], _, _, h, _, _, _ => by unfold CellsRead at h; exact h.elim
  | _ :: _ :: _ :: _ :: _, [], _, h, _, _, _ => by unfold CellsRead at h; exact h.elim

theorem OwnA.items {B : Nat} {X : Nat → Prop} {w : World} {v : Value} {n : Nat} {l : List Arr} (h : OwnA B X w v n l) (hn : n ≤ 1759218604391) : ∃ p c, v = .slice p l.length c ∧ ItOk l.length c ∧ ItemsAt (fun b => B ≤ b ∧ ¬ X b) w p 0 l := by
  obtain ⟨k1, k4, cells, k3, k5⟩ := h
  have kc := k3
  rcases k3.2 with ⟨rfl, rfl⟩ | ⟨g, cap, cur, rfl, hb, hg, hnc, hcm, hcs, htake⟩
  · have : l = [] := List.eq_nil_of_length_eq_zero k1
    subst this
    exact ⟨none, 0, rfl, ⟨by simp, by simp, by simp⟩, by unfold ItemsAt; trivial⟩
  · refine ⟨some ⟨g, 0, none⟩, cap, by rw [k1], ⟨by omega, by unfold maxLen at hcm; omega, by omega⟩, CellsRead.items cells l 0 k5 (fun j u hj => ?_) (fun b hb => ⟨hb.1, hb.2.1⟩) ⟨hb, k4 g rfl⟩⟩
    have := kc.cells (g := g) rfl j u hj
    rw [Nat.zero_mul]
    rw [Addr.add_lit] at this
    exact this
end Go.Proofs.Ytgkemmdghmklfaa
