/-
  A ROW OF ARRAYS IN THE MAKING that is appended to again and again inside a drawn region: append(append([]Array{}, a...), b...). The elements' trees may lie in old blocks too (those of R).
-/
import Derived.Test.YtgeppialbkijiaaChain
import Derived.Test.YtgeppialbkijiaaMkR
namespace Go.Proofs.Ytgeppialbkijiaa
set_option linter.unusedSimpArgs false
set_option linter.unusedVariables false

def ChainA (B : Nat) (R X : Nat → Prop) (w : World) (v : Value) (n : Nat) (l : List Arr) : Prop :=
  (n = 0 ∧ l = [] ∧ ∃ g, v = .slice (some ⟨g, 0, none⟩) 0 0 ∧ w.heap[g]? = some (.cells #[] 26 (0, 0)) ∧ B ≤ g ∧ ¬ X g) ∨
  (l.length = n ∧ (∃ cells, w.ownsRow B 26 4 v n cells ∧ CellsRead (fun b => R b ∧ ¬ X b) w cells l) ∧ ∃ g, v.ownBlock = some g ∧ X g)
theorem ChainA.mono {B : Nat} {R X X' : Nat → Prop} {w w' : World} {v : Value} {n : Nat} {l : List Arr} (h : ChainA B R X w v n l) (e : Ext w w') (hX : XGrow X w X') : ChainA B R X' w' v n l := by
  have ap : ∀ b, b < w.heap.size → ¬ X b → ¬ X' b := fun b hb hx hx' => by
    rcases hX.2 b hx' with h | h
    · exact hx h
    · omega
  rcases h with ⟨h1, h2, g, hv, hr, hb, hx⟩ | ⟨h1, ⟨cells, h2, h3⟩, g, hg, hx⟩
  · have hlt := (Array.getElem?_eq_some_iff.1 hr).1
    exact .inl ⟨h1, h2, g, hv, (e.block hlt).trans hr, hb, ap g hlt hx⟩
  · exact .inr ⟨h1, ⟨cells, ownsRow_same h2 fun g hg => e.block (h2.lt g hg).2, CellsRead.mono (fun b hb hlt => ⟨⟨hb.1, ap b hlt hb.2⟩, e.block hlt⟩) _ _ h3⟩, g, hg, hX.1 g hx⟩
def MProp.chainA (B : Nat) (R : Nat → Prop) (l : List Arr) : MProp := ⟨fun X w v => ∃ p c, v = .slice p l.length c ∧ ChainA B R X w (.slice p l.length c) l.length l, fun X X' w w' v e hX h => by
  obtain ⟨p, c, h1, h2⟩ := h
  exact ⟨p, c, h1, h2.mono e hX⟩⟩
/-- An empty row of arrays. -/
def MProp.rowA0 (B : Nat) : MProp := ⟨fun X w v => ∃ g, v = .slice (some ⟨g, 0, none⟩) 0 0 ∧ w.heap[g]? = some (.cells #[] 26 (0, 0)) ∧ B ≤ g ∧ ¬ X g, fun X X' w w' v e hX h => by
  obtain ⟨g, h1, h2, h3, h4⟩ := h
  have hlt := (Array.getElem?_eq_some_iff.1 h2).1
  refine ⟨g, h1, (e.block hlt).trans h2, h3, fun hx => ?_⟩
  rcases hX.2 g hx with h | h
  · exact h4 h
  · omega⟩
theorem zst_rowA0 (B : Nat) : ZSt (.rowA0 B) := fun X X' w w' v hc hx h => by
  obtain ⟨g, h1, h2, h3, h4⟩ := h
  have hlt := (Array.getElem?_eq_some_iff.1 h2).1
  refine ⟨g, h1, (hc.2 g hlt h4).trans h2, h3, fun hx' => ?_⟩
  rcases hx.2 g hx' with h | h
  · exact h4 h
  · omega
/-- A list of arrays. -/
def RdAX (R X : Nat → Prop) (w : World) (l : List Arr) (v : Value) : Prop := ∃ (p : Option Addr) (c : Nat), v = .slice p l.length c ∧ ItOk l.length c ∧ ItemsAt (fun b => (R b ∧ b < w.heap.size) ∧ ¬ X b) w p 0 l
def MProp.rda (R : Nat → Prop) (l : List Arr) : MProp := ⟨fun X w v => RdAX R X w l v, fun X X' w w' v e hX h => by
  obtain ⟨p, c, h1, h2, h3⟩ := h
  refine ⟨p, c, h1, h2, ItemsAt.mono (fun b hb hlt => ⟨⟨⟨hb.1.1, Nat.lt_of_lt_of_le hlt e.lt⟩, fun hx => ?_⟩, e.block hlt⟩) _ _ _ h3⟩
  rcases hX.2 b hx with h | h
  · exact hb.2 h
  · omega⟩
theorem zst_rda (R : Nat → Prop) (l : List Arr) : ZSt (.rda R l) := fun X X' w w' v hc hx h => by
  obtain ⟨p, c, h1, h2, h3⟩ := h
  refine ⟨p, c, h1, h2, ItemsAt.mono (fun b hb hlt => ⟨⟨⟨hb.1.1, Nat.lt_of_lt_of_le hlt hc.1⟩, fun hx' => ?_⟩, hc.2 b hlt hb.2⟩) _ _ _ h3⟩
  rcases hx.2 b hx' with h | h
  · exact hb.2 h
  · omega

theorem items_cells {F : Nat → Prop} {w : World} {b off : Nat} : ∀ (l : List Arr) (i : Nat), ItemsAt F w (some ⟨b, off, none⟩) i l →
    ∃ cells : List Value, cells.length = l.length * 4 ∧ (∀ j u, cells[j]? = some u → w.cell? ⟨b, off + i * 4 + j, none⟩ = some u) ∧ (∀ u ∈ cells, u.oneCell' = true) ∧ CellsRead F w cells l
  | [], _, _ => ⟨[], rfl, (fun j u h => by simp at h), (fun u h => by simp at h), (by unfold CellsRead; trivial)⟩
  | x :: r, i, h => by
    unfold ItemsAt at h
    obtain ⟨⟨b', off', c0, c1, c2, c3, hp, _, g0, g1, g2, g3, hx⟩, hr⟩ := h
    simp only [Option.some.injEq, Addr.mk.injEq, and_true] at hp
    obtain ⟨rfl, rfl⟩ := hp
    obtain ⟨cells, h1, h2, h3, h4⟩ := items_cells r (i + 1) hr
    refine ⟨c0 :: c1 :: c2 :: c3 :: cells, by simp [h1]; omega, fun j u hj => ?_, fun u hu => ?_, by unfold CellsRead; exact ⟨hx, h4⟩⟩
    · match j, hj with
      | 0, hj => simp at hj; subst hj; exact g0
      | 1, hj => simp at hj; subst hj; exact g1
      | 2, hj => simp at hj; subst hj; exact g2
      | 3, hj => simp at hj; subst hj; exact g3
      | j + 4, hj =>
        have := h2 j u (by simpa using hj)
        rw [show off + (i + 1) * 4 + j = off + i * 4 + (j + 4) by omega] at this
        exact this
    · simp only [List.mem_cons] at hu
      rcases hu with rfl | rfl | rfl | rfl | hu
      · exact hx.one _ (by simp)
      · exact hx.one _ (by simp)
      · exact hx.one _ (by simp)
      · exact hx.one _ (by simp)
      · exact h3 u hu
theorem CellsRead.append {F : Nat → Prop} {w : World} : ∀ (c1 : List Value) (l1 : List Arr) (c2 : List Value) (l2 : List Arr), CellsRead F w c1 l1 → CellsRead F w c2 l2 → CellsRead F w (c1 ++ c2) (l1 ++ l2)
  | [], [], c2, l2, _, h => h
  | a0 :: a1 :: a2 :: a3 :: cs, x :: r, c2, l2, h, h2 => by
    unfold CellsRead at h
    show CellsRead F w (a0 :: a1 :: a2 :: a3 :: (cs ++ c2)) (x :: (r ++ l2))
    unfold CellsRead
    exact ⟨h.1, CellsRead.append cs r c2 l2 h.2 h2⟩
  | [], _ :: _, _, _, h, _ => by unfold CellsRead at h; exact h.elim
  | [_], [], _, _, h, _ => by unfold CellsRead at h; exact h.elim
  | [_], _ :: _, _, _, h, _ => by unfold CellsRead at h; exact h.elim
  | [_, _], [], _, _, h, _ => by unfold CellsRead at h; exact h.elim
  | [_, _], _ :: _, _, _, h, _ => by unfold CellsRead at h; exact h.elim
  | [_, _, _], [], _, _, h, _ => by unfold CellsRead at h; exact h.elim
  | [_, _, _], _ :: _, _, _, h, _ => by unfold CellsRead at h; exact h.elim
  | _ :: _ :: _ :: _ :: _, [], _, _, h, _ => by unfold CellsRead at h; exact h.elim

/-- append(the chain's row of arrays, xs...) -/
theorem wpList_chainA {ops : Array Oper} {rest : List Oper} {o : Oper} {a : Act} {w : World} {Q : Exit → Act → World → Prop} (hgd : o.guard = none) (s x : Operand)
    (ho : o.op = .call { callee := .builtin .append, args := #[s, x], argTypes := #[24, 24] })
    (w0 : World) (R X : Nat → Prop) (v : Value) (n : Nat) (ys : List Arr) (p : Option Addr) (c : Nat) (xs : List Arr) (hs : a.eval s = v) (hown : ChainA w0.heap.size R X w v n ys) (hx : a.eval x = .slice p xs.length c) (hr : ItemsAt (fun b => (R b ∧ b < w.heap.size) ∧ ¬ X b) w p 0 xs)
    (hE : Ext w0 w) (hX : XIn X w0 w) (hn : n + xs.length ≤ 1759218604391)
    (h : ∀ v' w' (X' : Nat → Prop), Ext w0 w' → Chg X w w' → XGrow X w X' → XIn X' w0 w' → ChainA w0.heap.size R X' w' v' (n + xs.length) (ys ++ xs) → wpList Try.prog ops Q rest (a.put o.dst v') w') : wpList Try.prog ops Q (o :: rest) a w := by
  have hlt0 := hE.lt
  obtain ⟨i0, hi, hz0, hz1, hz2⟩ := info_parts infoA
  rcases hown with ⟨rfl, rfl, g, rfl, hrow, hgB, hgX⟩ | ⟨hyl, ⟨cells, hown, hcr⟩, g, hg, hgX⟩
  · cases xs with
    | nil =>
      refine wpList_plain hgd fun K hK => ?_
      have hrun := run_append_none (P := Try.prog) w 24 o.type 26 i0 Try.underlying24 hi (some ⟨g, 0, none⟩) 0 0 (Nat.le_refl _) p c
      unfold Oper.wp execOp
      simp only [ho, resolve, invoke, builtin, Sem.run_bind, Sem.run_pure, Result.andThen_ok, List.map_toArray, List.map_cons, List.map_nil, hs, hx, List.length_nil, hrun]
      exact hK _ _ (h _ _ X hE (Chg.of_ext (Ext.refl _)) kept_m hX (.inl ⟨rfl, rfl, g, rfl, hrow, hgB, hgX⟩))
    | cons x0 r =>
      obtain ⟨b, off, _, _, _, _, rfl, _⟩ := ItemsAt.get _ _ 0 0 hr (by simp)
      obtain ⟨news, hn1, hn2, hn3, hn4⟩ := items_cells _ 0 hr
      refine wpList_plain hgd fun K hK => ?_
      obtain ⟨v', w', hrun, hown, hgr⟩ := run_append_arg_grows (P := Try.prog) w 24 o.type 26 i0 _ 4 80 Try.underlying24 hi hz0 hz1 hz2 rfl (by decide) ⟨g, 0, none⟩ 0 0 [] rfl (fun j u hj => by simp at hj) ⟨b, off, none⟩ (x0 :: r).length c news hn1 (fun j u hj => by rw [Addr.add_lit]; have := hn2 j u hj; rwa [Nat.zero_mul, Nat.add_zero] at this) (by simp) (by unfold maxLen; omega) (by omega)
      unfold Oper.wp execOp
      simp only [ho, resolve, invoke, builtin, Sem.run_bind, Sem.run_pure, Result.andThen_ok, List.map_toArray, List.map_cons, List.map_nil, hs, hx, hrun]
      have hl := hown.lt
      have hEw : Ext w w' := (Ext.refl w).grown hgr (Nat.le_refl _) (fun q e => by cases e)
      have hown2 := hown
      obtain ⟨_, hrow2⟩ := hown2
      rcases hrow2 with ⟨_, h0⟩ | ⟨g', cap, cur, rfl, hb, _⟩
      · simp at h0
      · have hlg := hl g' rfl
        have hgX' : ∀ b, b < w.heap.size → ¬ X b → ¬ (X b ∨ b = g') := fun b hb1 hx1 hx2 => by
          rcases hx2 with h | h
          · exact hx1 h
          · omega
        refine hK _ _ (h _ _ (fun b => X b ∨ b = g') (hE.trans hEw) (Chg.of_ext hEw) ⟨fun b hb => .inl hb, fun b hb => hb.imp id (fun e => by omega)⟩ (fun b hb => ?_) (.inr ⟨by simp, ⟨_, ownsRow_base hown hlt0, ?_⟩, g', rfl, .inr rfl⟩))
        · rcases hb with hb | rfl
          · have := hX b hb; have := hEw.lt; omega
          · omega
        · rw [List.nil_append, List.nil_append]
          exact CellsRead.mono (fun b hb hlt => ⟨⟨hb.1.1, hgX' b hlt hb.2⟩, hEw.block hlt⟩) _ _ hn4
  · have hgl := hown.lt g hg
    have hown2 := hown
    obtain ⟨_, hrow2⟩ := hown2
    rcases hrow2 with ⟨rfl, _⟩ | ⟨g0, cap, cur, rfl, hb0, _, hnc, hrest⟩
    · simp [Value.ownBlock] at hg
    simp only [Value.ownBlock, Option.some.injEq] at hg
    subst hg
    cases xs with
    | nil =>
      refine wpList_plain hgd fun K hK => ?_
      have hrun := run_append_none (P := Try.prog) w 24 o.type 26 i0 Try.underlying24 hi (some ⟨g0, 0, none⟩) n cap hnc p c
      unfold Oper.wp execOp
      simp only [ho, resolve, invoke, builtin, Sem.run_bind, Sem.run_pure, Result.andThen_ok, List.map_toArray, List.map_cons, List.map_nil, hs, hx, List.length_nil, hrun]
      exact hK _ _ (h _ _ X hE (Chg.of_ext (Ext.refl _)) kept_m hX (.inr ⟨by simpa using hyl, ⟨cells, by simpa using hown, by simpa using hcr⟩, g0, rfl, hgX⟩))
    | cons x0 r =>
      obtain ⟨b, off, _, _, _, _, rfl, _⟩ := ItemsAt.get _ _ 0 0 hr (by simp)
      obtain ⟨news, hn1, hn2, hn3, hn4⟩ := items_cells _ 0 hr
      refine wpList_append_lies w hgd s x 24 ho w0.heap.size 26 i0 _ 4 80 Try.underlying24 hi hz0 hz1 hz2 rfl (by decide) _ n _ hs hown ⟨b, off, none⟩ (x0 :: r).length c news hx hn1 (fun j u hj => by rw [Addr.add_lit]; have := hn2 j u hj; rwa [Nat.zero_mul, Nat.add_zero] at this) hn3 (by simp) (by unfold maxLen; omega) (by omega) hlt0 w.heap.size rfl ?_
      intro g' cap' w' h1 hgrow hat hlt
      have hsz := hgrow.size
      have hg2 : g' = g0 ∨ g' = w.heap.size := hat.imp (fun e => by simp only [Value.ownBlock, Option.some.injEq] at e; exact e.symm) id
      have hchg : Chg X w w' := ⟨hsz, fun b hb hx => hgrow.block b hb (fun e => by simp only [Value.ownBlock, Option.some.injEq] at e; exact hx (by rw [e]; exact hgX))⟩
      have ap : ∀ b, b < w.heap.size → ¬ X b → ¬ (X b ∨ b = g') := fun b hb1 hx1 hx2 => by
        rcases hx2 with h | h
        · exact hx1 h
        · rcases hg2 with h3 | h3
          · exact hx1 (by rw [h, h3]; exact hgX)
          · omega
      refine h _ w' (fun b => X b ∨ b = g') (hE.grown hgrow hlt0 (fun q e => (hown.lt q e).1)) hchg ⟨fun b hb => .inl hb, fun b hb => ?_⟩ (fun b hb => ?_) (.inr ⟨by simp [hyl], ⟨_, h1, ?_⟩, g', rfl, .inr rfl⟩)
      · rcases hb with hb | rfl
        · exact .inl hb
        · rcases hg2 with rfl | rfl
          · exact .inl hgX
          · exact .inr (Nat.le_refl _)
      · rcases hb with hb | rfl
        · have := hX b hb; omega
        · have := (h1.lt b rfl).1; omega
      · exact CellsRead.append _ _ _ _ (CellsRead.mono (fun b hb hlt => ⟨⟨hb.1, ap b hlt hb.2⟩, hchg.2 b hlt hb.2⟩) _ _ hcr) (CellsRead.mono (fun b hb hlt => ⟨⟨hb.1.1, ap b hlt hb.2⟩, hchg.2 b hlt hb.2⟩) _ _ hn4)
/-- What the chain has made reads as the list. -/
theorem ChainA.items {B : Nat} {R X : Nat → Prop} {w : World} {p : Option Addr} {n c : Nat} {l : List Arr} (h : ChainA B R X w (.slice p n c) n l) (hn : n ≤ 1759218604391) : l.length = n ∧ ItOk n c ∧ ItemsAt (fun b => R b ∨ B ≤ b) w p 0 l := by
  rcases h with ⟨rfl, rfl, g, hv, _⟩ | ⟨h1, ⟨cells, h2, h3⟩, g, hg, _⟩
  · simp only [Value.slice.injEq] at hv
    obtain ⟨rfl, _, rfl⟩ := hv
    exact ⟨rfl, ⟨by simp, by simp, by simp⟩, by unfold ItemsAt; trivial⟩
  · have h2' := h2
    obtain ⟨_, hrow⟩ := h2'
    rcases hrow with ⟨hv, h0⟩ | ⟨g0, cap, cur, hv, hb, _, hnc, hcm, _⟩
    · simp only [Value.slice.injEq] at hv
      obtain ⟨rfl, _, rfl⟩ := hv
      simp [Value.ownBlock] at hg
    · simp only [Value.slice.injEq] at hv
      obtain ⟨rfl, _, rfl⟩ := hv
      refine ⟨h1, ⟨hnc, by unfold maxLen at hcm; omega, hn⟩, ?_⟩
      have := CellsRead.items (B := 0) (X := fun b => ¬ (R b ∨ B ≤ b)) (g := g0) cells l 0 h3 (fun j u hj => ?_) (fun b hb => ⟨Nat.zero_le _, fun h => h (.inl hb.1)⟩) ⟨Nat.zero_le _, fun h => h (.inr hb)⟩
      · exact ItemsAt.mono (fun b hb _ => ⟨Classical.byContradiction fun h => hb.2 h, rfl⟩) _ _ _ this
      · have := h2.cells (g := g0) rfl j u hj
        rw [Nat.zero_mul]
        rw [Addr.add_lit] at this
        exact this
end Go.Proofs.Ytgeppialbkijiaa
