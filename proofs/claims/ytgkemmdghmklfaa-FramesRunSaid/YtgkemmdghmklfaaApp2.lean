/-
  append([]int{}, xs...): a region's operation that only adds; a row of the call's own as a value of a region.
-/
import Derived.Test.YtgkemmdghmklfaaApp
import Derived.Test.YtgkemmdghmklfaaMkB
namespace Go.Proofs.Ytgkemmdghmklfaa
set_option linter.unusedSimpArgs false
set_option linter.unusedVariables false
open Go.RowKit

theorem ownsRow_base {w : World} {B C : Nat} {e : TypeId} {size : Nat} {v : Value} {n : Nat} {xs : List Value} (h : w.ownsRow C e size v n xs) (hB : B ≤ C) : w.ownsRow B e size v n xs := by
  obtain ⟨h1, h2⟩ := h
  refine ⟨h1, ?_⟩
  rcases h2 with h2 | ⟨g, cap, cur, he, hb, h3⟩
  · exact .inl h2
  · exact .inr ⟨g, cap, cur, he, Nat.le_trans hB hb, h3⟩

/-- append([]int{}, xs...) -/
theorem wpList_append_zero {ops : Array Oper} {rest : List Oper} {o : Oper} {a : Act} {w : World} {Q : Exit → Act → World → Prop} (hgd : o.guard = none) (s x : Operand)
    (ho : o.op = .call { callee := .builtin .append, args := #[s, x], argTypes := #[23, 23] })
    (F : Nat → Prop) (B : Nat) (X : Nat → Prop) (g : Nat) (p : Option Addr) (c : Nat) (xs : List Int) (hs : a.eval s = .slice (some ⟨g, 0, none⟩) 0 0) (hrow : RowI w g []) (hgB : B ≤ g) (hgX : ¬ X g) (hx : a.eval x = .slice p xs.length c) (hr : IntsAt F w p xs)
    (hX : ∀ b, X b → b < w.heap.size) (hn : xs.length ≤ 17592186044416) (hB : B ≤ w.heap.size)
    (h : ∀ v' w', OwnI B X w' v' xs.length xs → Ext w w' → wpList Try.prog ops Q rest (a.put o.dst v') w') : wpList Try.prog ops Q (o :: rest) a w := by
  obtain ⟨i0, hi, hz0, hz1, hz2⟩ := info_parts infoI
  cases xs with
  | nil =>
    refine wpList_plain hgd fun K hK => ?_
    have hrun := run_append_none (P := Try.prog) w 23 o.type 3 i0 Try.underlying23 hi (some ⟨g, 0, none⟩) 0 0 (Nat.le_refl _) p c
    unfold Oper.wp execOp
    simp only [ho, resolve, invoke, builtin, Sem.run_bind, Sem.run_pure, Result.andThen_ok, List.map_toArray, List.map_cons, List.map_nil, hs, hx, List.length_nil, hrun]
    exact hK _ _ (h _ _ (OwnI.of_row hrow rfl (by omega) hgB hgX (by simp)) (Ext.refl _))
  | cons x0 r =>
    obtain ⟨b, off, rfl, _, _⟩ := hr 0 (by simp)
    refine wpList_plain hgd fun K hK => ?_
    obtain ⟨v', w', hrun, hown, hg⟩ := run_append_arg_grows (P := Try.prog) w 23 o.type 3 i0 (.int .i64 0) 1 8 Try.underlying23 hi hz0 hz1 hz2 rfl (by decide) ⟨g, 0, none⟩ 0 0 [] rfl (fun j u hj => by simp at hj) ⟨b, off, none⟩ (x0 :: r).length c ((x0 :: r).map (Value.int .i64)) (by simp) hr.news (by simp) (by unfold maxLen; omega) (by omega)
    unfold Oper.wp execOp
    simp only [ho, resolve, invoke, builtin, Sem.run_bind, Sem.run_pure, Result.andThen_ok, List.map_toArray, List.map_cons, List.map_nil, hs, hx, hrun]
    have hl := hown.lt
    refine hK _ _ (h _ _ ⟨by simp, by omega, ?_, fun q hq hxq => ?_, fun z hz => hr.wf z hz⟩ ((Ext.refl w).grown hg (Nat.le_refl _) (fun q e => by cases e)))
    · have := ownsRow_base hown hB
      simpa using this
    · have h1 := (hl q hq).1
      have h2 := hX q hxq
      omega

def MProp.own (B : Nat) (xs : List Int) : MProp := ⟨fun X w v => ∃ p c, v = .slice p xs.length c ∧ OwnI B X w (.slice p xs.length c) xs.length xs, fun X X' w w' v e hX h => by
  obtain ⟨p, c, h1, h2⟩ := h
  refine ⟨p, c, h1, h2.same fun g _ hlt hne => ⟨e.block hlt, fun hx => ?_⟩⟩
  rcases hX.2 g hx with h | h
  · exact hne h
  · omega⟩
def MProp.ownAgg (B : Nat) (k : Int) (xs : List Int) : MProp := ⟨fun X w v => ∃ p c, v = .agg #[.int .i64 k, .slice p xs.length c, .slice none 0 0, .slice none 0 0] ∧ OwnI B X w (.slice p xs.length c) xs.length xs, fun X X' w w' v e hX h => by
  obtain ⟨p, c, h1, h2⟩ := h
  refine ⟨p, c, h1, h2.same fun g _ hlt hne => ⟨e.block hlt, fun hx => ?_⟩⟩
  rcases hX.2 g hx with h | h
  · exact hne h
  · omega⟩
end Go.Proofs.Ytgkemmdghmklfaa
