/-
  append onto nil of a list of numbers that came in; copy of numbers and of arrays.
-/
import Derived.Test.YtgkemmdghmklfaaOwn
import Derived.Laws.CopyOwn
namespace Go.Proofs.Ytgkemmdghmklfaa
set_option linter.unusedSimpArgs false
set_option linter.unusedVariables false
open Go.RowKit

theorem run_append_nil_empty {P : Program} (w : World) (t ty e : TypeId) (i : TypeInfo) (ht : P.underlying t = some (.slice e)) (hi : P.info? e = some i) (p : Option Addr) (c : Nat) :
    (Builtin.append_ #[t, t] ty #[.slice none 0 0, .slice p 0 c]).run P w = .ok (.slice none 0 0) w := by
  cases p <;> simp [Builtin.append_, run_underlying ht, sizeOf, typeInfo, hi, Builtin.lenOf, Builtin.firstCells, loadCells, loadCellsFrom]

theorem wpList_append_nil {ops : Array Oper} {rest : List Oper} {o : Oper} {a : Act} {w : World} {Q : Exit → Act → World → Prop} (hgd : o.guard = none) (s x : Operand)
    (ho : o.op = .call { callee := .builtin .append, args := #[s, x], argTypes := #[23, 23] })
    (F : Nat → Prop) (B : Nat) (X : Nat → Prop) (p : Option Addr) (c : Nat) (xs : List Int) (hs : a.eval s = .slice none 0 0) (hx : a.eval x = .slice p xs.length c) (hr : IntsAt F w p xs)
    (hX : ∀ b, X b → b < w.heap.size) (hn : xs.length ≤ lenMax) (hB : B ≤ w.heap.size)
    (h : ∀ v w', OwnI B X w' v xs.length xs → Ext w w' → wpList Try.prog ops Q rest (a.put o.dst v) w') : wpList Try.prog ops Q (o :: rest) a w := by
  obtain ⟨i0, hi, hz0, hz1, hz2⟩ := info_parts infoI
  unfold lenMax at hn
  cases xs with
  | nil =>
    refine wpList_plain hgd fun K hK => ?_
    have hrun := run_append_nil_empty (P := Try.prog) w 23 o.type 3 i0 Try.underlying23 hi p c
    unfold Oper.wp execOp
    simp only [ho, resolve, invoke, builtin, Sem.run_bind, Sem.run_pure, Result.andThen_ok, List.map_toArray, List.map_cons, List.map_nil, hs, hx, List.length_nil, hrun]
    exact hK _ _ (h _ _ (OwnI.nil B X w) (Ext.refl _))
  | cons x0 r =>
    obtain ⟨b, off, rfl, _, _⟩ := hr 0 (by simp)
    refine wpList_append_lies w hgd s x 23 ho B 3 i0 (.int .i64 0) 1 8 Try.underlying23 hi hz0 hz1 hz2 rfl (by decide) (.slice none 0 0) 0 [] hs (World.ownsRow_nil _ _ _ _) ⟨b, off, none⟩ (x0 :: r).length c ((x0 :: r).map (Value.int .i64)) hx (by simp) ?_ ?_ (by simp) (by unfold maxLen; omega) (by omega) hB w.heap.size rfl ?_
    · intro j u hj
      have hlt : j < (x0 :: r).length := by
        rcases Nat.lt_or_ge j (x0 :: r).length with h' | h'
        · exact h'
        · rw [List.getElem?_eq_none (by simpa using h')] at hj; cases hj
      obtain ⟨b', off', e, _, hc, _⟩ := hr j hlt
      cases e
      rw [Addr.add_lit, hc]
      rw [List.getElem?_map] at hj
      simp only [List.getD]
      cases hq : (x0 :: r)[j]? with
      | none => rw [hq] at hj; cases hj
      | some z => rw [hq] at hj; simpa using hj
    · intro u hu
      obtain ⟨z, _, rfl⟩ := List.mem_map.1 hu
      rfl
    · intro g cap w' h1 hgrow hat hlt
      simp only [Nat.zero_add, List.nil_append] at h1
      have hg : g = w.heap.size := by
        rcases hat with hat | hat
        · simp [Value.ownBlock] at hat
        · exact hat
      have hE : Ext w w' := Below.grown (Below.refl _ _) hgrow (Nat.le_refl _) (fun k e => by simp [Value.ownBlock] at e)
      simp only [Nat.zero_add]
      refine h _ _ ⟨rfl, by omega, h1, fun g' hg' => ?_, fun z hz => ?_⟩ hE
      · simp only [Value.ownBlock, Option.some.injEq] at hg'
        subst hg'
        exact fun hx => by have := hX _ hx; omega
      · obtain ⟨j, hj, e⟩ := List.mem_iff_getElem.1 hz
        obtain ⟨_, _, _, _, _, h3, h4⟩ := hr j hj
        simp only [List.getD, hj, List.getElem?_eq_getElem, Option.getD_some] at h3 h4
        rw [← e]
        exact ⟨h3, h4⟩

/-- A row that is known whole is owned. -/
theorem OwnI.of_row {B : Nat} {X : Nat → Prop} {w : World} {g n : Nat} {xs : List Int} (hg : w.heap[g]? = some (.cells (xs.map (Value.int .i64)).toArray 3 (0, 0))) (hn : xs.length = n) (hl : n ≤ 17592186044416) (hB : B ≤ g) (hX : ¬ X g)
    (hw : ∀ x ∈ xs, -9223372036854775808 ≤ x ∧ x ≤ 9223372036854775807) : OwnI B X w (.slice (some ⟨g, 0, none⟩) n n) n xs := by
  refine ⟨hn, hl, ⟨by simp [hn], .inr ⟨g, n, _, rfl, hB, hg, Nat.le_refl _, by unfold maxLen; omega, by simp [hn], ?_⟩⟩, fun g' hg' => ?_, hw⟩
  · simp only [Nat.mul_one]
    exact List.take_of_length_le (by simp [hn])
  · simp only [Value.ownBlock, Option.some.injEq] at hg'
    rw [← hg']; exact hX

theorem madeCells_zero (z : Array Value) : madeCells z 0 = #[] := by simp [madeCells]
theorem madeCells_size (z : Array Value) (n : Nat) : (madeCells z n).size = n := by simp [madeCells]

theorem IntsAt.wf {F : Nat → Prop} {w : World} {p : Option Addr} {xs : List Int} (h : IntsAt F w p xs) : ∀ x ∈ xs, -9223372036854775808 ≤ x ∧ x ≤ 9223372036854775807 := by
  intro x hx
  obtain ⟨j, hj, e⟩ := List.mem_iff_getElem.1 hx
  obtain ⟨_, _, _, _, _, h3, h4⟩ := h j hj
  simp only [List.getD, hj, List.getElem?_eq_getElem, Option.getD_some] at h3 h4
  rw [← e]
  exact ⟨h3, h4⟩

/-- 'copy(made, xs)': a row that has just been made, a source of the same length. -/
theorem wpList_copy_ints {ops : Array Oper} {rest : List Oper} {o : Oper} {a : Act} {w : World} {Q : Exit → Act → World → Prop} (hgd : o.guard = none) (d s : Operand)
    (ho : o.op = .call { callee := .builtin .copy, args := #[d, s], argTypes := #[23, 23] })
    (F : Nat → Prop) (p : Option Addr) (c g : Nat) (xs : List Int) (hd : a.eval d = .slice (some ⟨g, 0, none⟩) xs.length xs.length) (hs : a.eval s = .slice p xs.length c) (hr : IntsAt F w p xs)
    (hg : w.heap[g]? = some (.cells (madeCells #[.int .i64 0] xs.length) 3 (0, 0)))
    (h : ∀ w', w'.heap[g]? = some (.cells (xs.map (Value.int .i64)).toArray 3 (0, 0)) → w.grownBy w' (some g) → wpList Try.prog ops Q rest (a.put o.dst (goInt xs.length)) w') : wpList Try.prog ops Q (o :: rest) a w := by
  have hsz : (Try.prog.info? 3).map (·.size) = some 1 := by
    obtain ⟨i0, hi, _, hz1, _⟩ := info_parts infoI
    rw [hi]; simp [hz1]
  cases xs with
  | nil =>
    refine wpList_copy_nothing hgd d s 23 23 ho 3 Try.underlying23 hsz _ _ 0 0 0 c hd hs rfl ?_
    refine h w ?_ ⟨rfl, rfl, rfl, Nat.le_refl _, fun _ _ _ => rfl⟩
    rw [hg]; simp [madeCells_zero]
  | cons x0 r =>
    obtain ⟨b, off, rfl, _, _⟩ := hr 0 (by simp)
    refine wpList_copy_own hgd d s 23 23 ho 3 Try.underlying23 hsz g 0 _ _ ⟨b, off, none⟩ _ c hd hs _ _ hg ((x0 :: r).map (Value.int .i64)) (by simp) ?_ (by rw [madeCells_size]; simp) ?_ ?_
    · intro j u hj
      have hlt : j < (x0 :: r).length := by
        rcases Nat.lt_or_ge j (x0 :: r).length with h' | h'
        · exact h'
        · rw [List.getElem?_eq_none (by simpa using h')] at hj; cases hj
      obtain ⟨b', off', e, _, hc, _⟩ := hr j hlt
      cases e
      rw [Addr.add_lit, hc]
      rw [List.getElem?_map] at hj
      simp only [List.getD]
      cases hq : (x0 :: r)[j]? with
      | none => rw [hq] at hj; cases hj
      | some z => rw [hq] at hj; simpa using hj
    · intro u hu
      obtain ⟨z, _, rfl⟩ := List.mem_map.1 hu
      rfl
    · have hlen : ((x0 :: r).map (Value.int .i64)).length = (x0 :: r).length := by simp
      rw [hlen]
      refine h _ ?_ ⟨rfl, rfl, rfl, by simp [World.setRow], fun k hk hne => setRow_other w g k _ (fun e => hne (by rw [e]))⟩
      rw [setRow_heap w g _ _ _ _ hg]
      have h2 : (madeCells #[Value.int .i64 0] (x0 :: r).length).toList.drop (0 + (x0 :: r).length) = [] := by
        apply List.drop_of_length_le
        rw [Array.length_toList, madeCells_size]; omega
      rw [h2, List.take_zero, List.nil_append, List.append_nil]
end Go.Proofs.Ytgkemmdghmklfaa
