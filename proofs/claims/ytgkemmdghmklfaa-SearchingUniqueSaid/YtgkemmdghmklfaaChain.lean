/-
  A ROW IN THE MAKING THAT IS APPENDED TO AGAIN AND AGAIN inside a drawn region (the chain of RegZ): append(append([]int{}, a...), b...).
-/
import Derived.Test.YtgkemmdghmklfaaRegZ
import Derived.Test.YtgkemmdghmklfaaApp2
namespace Go.Proofs.Ytgkemmdghmklfaa
set_option linter.unusedSimpArgs false
set_option linter.unusedVariables false

/-- The row of the chain: empty still, and nobody's; or the region's own (its block among X). -/
def ChainRow (B : Nat) (X : Nat → Prop) (w : World) (v : Value) (n : Nat) (l : List Int) : Prop :=
  (n = 0 ∧ l = [] ∧ ∃ g, v = .slice (some ⟨g, 0, none⟩) 0 0 ∧ RowI w g [] ∧ B ≤ g ∧ ¬ X g) ∨ (OwnI B (fun _ => False) w v n l ∧ ∃ g, v.ownBlock = some g ∧ X g)
theorem ChainRow.mono {B : Nat} {X X' : Nat → Prop} {w w' : World} {v : Value} {n : Nat} {l : List Int} (h : ChainRow B X w v n l) (e : Ext w w') (hX : XGrow X w X') : ChainRow B X' w' v n l := by
  rcases h with ⟨h1, h2, g, hv, hr, hb, hx⟩ | ⟨h1, g, hg, hx⟩
  · refine .inl ⟨h1, h2, g, hv, hr.ext e, hb, fun hx' => ?_⟩
    have hlt := hr.lt
    rcases hX.2 g hx' with h | h
    · exact hx h
    · omega
  · exact .inr ⟨h1.ext e, g, hg, hX.1 g hx⟩
theorem ChainRow.own {B : Nat} {X : Nat → Prop} {w : World} {v : Value} {n : Nat} {l : List Int} (h : ChainRow B X w v n l) : OwnI B (fun _ => False) w v n l ∧ ∃ g, v.ownBlock = some g := by
  rcases h with ⟨rfl, rfl, g, rfl, hr, hb, hx⟩ | ⟨h1, g, hg, _⟩
  · exact ⟨OwnI.of_row hr rfl (by omega) hb (fun h => h) (by simp), g, rfl⟩
  · exact ⟨h1, g, hg⟩
def MProp.chain (B : Nat) (l : List Int) : MProp := ⟨fun X w v => ∃ p c, v = .slice p l.length c ∧ ChainRow B X w (.slice p l.length c) l.length l, fun X X' w w' v e hX h => by
  obtain ⟨p, c, h1, h2⟩ := h
  exact ⟨p, c, h1, h2.mono e hX⟩⟩
theorem zst_row (B n : Nat) (t : List Int) : ZSt (.row B n t) := fun X X' w w' v hc hx h => by
  obtain ⟨g, h1, h2, h3, h4⟩ := h
  refine ⟨g, h1, h2.kept (hc.2 g h2.lt h4), h3, fun hx' => ?_⟩
  have hlt := h2.lt
  rcases hx.2 g hx' with h | h
  · exact h4 h
  · omega
/-- A row among the region's own blocks. -/
def MProp.xrow (B n : Nat) (t : List Int) : MProp := ⟨fun X w v => ∃ g, v = .slice (some ⟨g, 0, none⟩) n n ∧ RowI w g t ∧ B ≤ g ∧ X g, fun X X' w w' v e hX h => by
  obtain ⟨g, h1, h2, h3, h4⟩ := h
  exact ⟨g, h1, h2.ext e, h3, hX.1 g h4⟩⟩

/-- append(the chain's row, xs...) -/
theorem wpList_chain {ops : Array Oper} {rest : List Oper} {o : Oper} {a : Act} {w : World} {Q : Exit → Act → World → Prop} (hgd : o.guard = none) (s x : Operand)
    (ho : o.op = .call { callee := .builtin .append, args := #[s, x], argTypes := #[23, 23] })
    (w0 : World) (X : Nat → Prop) (v : Value) (n : Nat) (ys : List Int) (p : Option Addr) (c : Nat) (xs : List Int) (hs : a.eval s = v) (hown : ChainRow w0.heap.size X w v n ys) (hx : a.eval x = .slice p xs.length c) (hr : IntsAt (fun b => b < w.heap.size ∧ ¬ X b) w p xs)
    (hE : Ext w0 w) (hX : XIn X w0 w) (hn : n + xs.length ≤ 17592186044416)
    (h : ∀ v' w' (X' : Nat → Prop), Ext w0 w' → Chg X w w' → XGrow X w X' → XIn X' w0 w' → ChainRow w0.heap.size X' w' v' (n + xs.length) (ys ++ xs) → wpList Try.prog ops Q rest (a.put o.dst v') w') : wpList Try.prog ops Q (o :: rest) a w := by
  have hlt0 := hE.lt
  rcases hown with ⟨rfl, rfl, g, rfl, hrow, hgB, hgX⟩ | ⟨hown, g, hg, hgX⟩
  · obtain ⟨i0, hi, hz0, hz1, hz2⟩ := info_parts infoI
    cases xs with
    | nil =>
      refine wpList_plain hgd fun K hK => ?_
      have hrun := run_append_none (P := Try.prog) w 23 o.type 3 i0 Try.underlying23 hi (some ⟨g, 0, none⟩) 0 0 (Nat.le_refl _) p c
      unfold Oper.wp execOp
      simp only [ho, resolve, invoke, builtin, Sem.run_bind, Sem.run_pure, Result.andThen_ok, List.map_toArray, List.map_cons, List.map_nil, hs, hx, List.length_nil, hrun]
      exact hK _ _ (h _ _ X hE (Chg.of_ext (Ext.refl _)) kept_m hX (.inl ⟨rfl, rfl, g, rfl, hrow, hgB, hgX⟩))
    | cons x0 r =>
      obtain ⟨b, off, rfl, _, _⟩ := hr 0 (by simp)
      refine wpList_plain hgd fun K hK => ?_
      obtain ⟨v', w', hrun, hown, hgr⟩ := run_append_arg_grows (P := Try.prog) w 23 o.type 3 i0 (.int .i64 0) 1 8 Try.underlying23 hi hz0 hz1 hz2 rfl (by decide) ⟨g, 0, none⟩ 0 0 [] rfl (fun j u hj => by simp at hj) ⟨b, off, none⟩ (x0 :: r).length c ((x0 :: r).map (Value.int .i64)) (by simp) hr.news (by simp) (by unfold maxLen; omega) (by omega)
      unfold Oper.wp execOp
      simp only [ho, resolve, invoke, builtin, Sem.run_bind, Sem.run_pure, Result.andThen_ok, List.map_toArray, List.map_cons, List.map_nil, hs, hx, hrun]
      have hl := hown.lt
      have hEw : Ext w w' := (Ext.refl w).grown hgr (Nat.le_refl _) (fun q e => by cases e)
      have hOI : OwnI w0.heap.size (fun _ => False) w' v' (0 + (x0 :: r).length) ([] ++ (x0 :: r)) := ⟨by simp, by omega, by simpa using ownsRow_base hown hlt0, fun _ _ h => h, fun z hz => hr.wf z (by simpa using hz)⟩
      obtain ⟨pv, cv, rfl, hcv⟩ := hOI.form
      have hown2 := hown
      obtain ⟨_, hrow2⟩ := hown2
      rcases hrow2 with ⟨_, h0⟩ | ⟨g', cap, cur, he, hb, _⟩
      · simp at h0
      · simp only [Value.slice.injEq] at he
        obtain ⟨rfl, _, rfl⟩ := he
        have hlg := hl g' rfl
        refine hK _ _ (h _ _ (fun b => X b ∨ b = g') (hE.trans hEw) (Chg.of_ext hEw) ⟨fun b hb => .inl hb, fun b hb => hb.imp id (fun e => by omega)⟩ (fun b hb => ?_) (.inr ⟨hOI, g', rfl, .inr rfl⟩))
        rcases hb with hb | rfl
        · have := hX b hb; have := hEw.lt; omega
        · omega
  · have hgl := (hown.2.2.1.lt g hg).1
    refine wpList_append_ints hgd s x ho _ w0.heap.size (fun _ => False) v n ys p c xs hs hown hx hr (fun _ h => h.elim) hn hlt0 ?_
    intro v' w' hO hgrow hat
    have hsz := hgrow.size
    have hg' : ∃ g', v'.ownBlock = some g' ∧ (g' = g ∨ g' = w.heap.size) := by
      rcases hat with h1 | h1
      · exact ⟨g, by rw [h1, hg], .inl rfl⟩
      · exact ⟨_, h1, .inr rfl⟩
    obtain ⟨g', hg1, hg2⟩ := hg'
    have hlg := hO.2.2.1.lt g' hg1
    refine h v' w' (fun b => X b ∨ b = g') (hE.grown hgrow hlt0 (fun q e => (hown.2.2.1.lt q e).1)) ⟨hsz, fun b hb hx => hgrow.block b hb (fun e => hx (by rw [hg] at e; cases e; exact hgX))⟩ ⟨fun b hb => .inl hb, fun b hb => ?_⟩ (fun b hb => ?_) (.inr ⟨hO, g', hg1, .inr rfl⟩)
    · rcases hb with hb | rfl
      · exact .inl hb
      · rcases hg2 with rfl | rfl
        · exact .inl hgX
        · exact .inr (Nat.le_refl _)
    · rcases hb with hb | rfl
      · have := hX b hb; omega
      · omega
theorem IntsAt.drop {F : Nat → Prop} {w : World} {b off : Nat} {xs : List Int} (h : IntsAt F w (some ⟨b, off, none⟩) xs) (k : Nat) : IntsAt F w (some ⟨b, off + k, none⟩) (xs.drop k) := by
  intro i hi
  rw [List.length_drop] at hi
  obtain ⟨b', o', e, hf, hc, h1, h2⟩ := h (k + i) (by omega)
  simp only [Option.some.injEq, Addr.mk.injEq, and_true] at e
  obtain ⟨rfl, rfl⟩ := e
  have hg : (xs.drop k).getD i 0 = xs.getD (k + i) 0 := by simp [List.getD]
  exact ⟨b, off + k, rfl, hf, by rw [hg, Nat.add_assoc]; exact hc, by rw [hg]; exact h1, by rw [hg]; exact h2⟩
theorem IntsAt.take {F : Nat → Prop} {w : World} {p : Option Addr} {xs : List Int} (h : IntsAt F w p xs) (k : Nat) : IntsAt F w p (xs.take k) := by
  intro i hi
  rw [List.length_take] at hi
  have hg : (xs.take k).getD i 0 = xs.getD i 0 := by simp [List.getD, List.getElem?_take, show i < k by omega]
  rw [hg]
  exact h i (by omega)
end Go.Proofs.Ytgkemmdghmklfaa
