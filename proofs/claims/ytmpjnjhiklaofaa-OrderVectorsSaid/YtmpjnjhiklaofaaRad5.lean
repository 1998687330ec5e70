/-
  A ROW OF ROWS OF NUMBERS ([][]int) of the call's own: made, appended to, read.
-/
import Derived.Test.YtmpjnjhiklaofaaCommon
namespace Go.Proofs.Ytmpjnjhiklaofaa
set_option linter.unusedSimpArgs false
set_option linter.unusedVariables false
open Go.RowKit

theorem infoS : (Try.prog.info? 23).map (fun i => (i.zero, i.size, i.bytes)) = some (some (.slice none 0 0), 1, 24) := by kernel_rfl
/-- The value v owns a row of n slices, each the whole of a row of L numbers. -/
def OwnS (B L : Nat) (w : World) (v : Value) (n : Nat) (ls : List (List Int)) : Prop :=
  ls.length = n ∧ ∃ cells, w.ownsRow B 23 1 v n cells ∧ ∀ j, j < n → ∃ g, cells[j]? = some (.slice (some ⟨g, 0, none⟩) L L) ∧ RowI w g (ls.getD j []) ∧ B ≤ g ∧ v.ownBlock ≠ some g
theorem OwnS.kept {B L : Nat} {w w' : World} {v : Value} {n : Nat} {ls : List (List Int)} (h : OwnS B L w v n ls) (hs : ∀ q, q < w.heap.size → B ≤ q → w'.heap[q]? = w.heap[q]?) : OwnS B L w' v n ls := by
  obtain ⟨h1, cells, h2, h3⟩ := h
  have hl := h2.lt
  refine ⟨h1, cells, ownsRow_same h2 fun g hg => hs g (hl g hg).2 (hl g hg).1, fun j hj => ?_⟩
  obtain ⟨g, a1, a2, a3, a4⟩ := h3 j hj
  exact ⟨g, a1, a2.kept (hs g a2.lt a3), a3, a4⟩
theorem OwnS.ext {B L : Nat} {w w' : World} {v : Value} {n : Nat} {ls : List (List Int)} (h : OwnS B L w v n ls) (e : Ext w w') : OwnS B L w' v n ls := h.kept fun q hq _ => e.block hq
theorem OwnS.form {B L : Nat} {w : World} {v : Value} {n : Nat} {ls : List (List Int)} (h : OwnS B L w v n ls) : ∃ p c, v = .slice p n c ∧ n ≤ c ∧ c ≤ maxLen := by
  obtain ⟨h1, cells, h2, h3⟩ := h
  rcases h2.2 with ⟨rfl, rfl⟩ | ⟨g, cap, cur, rfl, hb, hg, hnc, hcm, rest⟩
  · exact ⟨none, 0, rfl, Nat.le_refl _, Nat.zero_le _⟩
  · exact ⟨_, _, rfl, hnc, hcm⟩
theorem OwnS.at {B L : Nat} {w : World} {p : Option Addr} {c : Nat} {n : Nat} {ls : List (List Int)} (h : OwnS B L w (.slice p n c) n ls) {j : Nat} (hj : j < n) :
    ∃ b g, p = some ⟨b, 0, none⟩ ∧ B ≤ b ∧ b < w.heap.size ∧ w.cell? ⟨b, j, none⟩ = some (.slice (some ⟨g, 0, none⟩) L L) ∧ RowI w g (ls.getD j []) ∧ B ≤ g := by
  obtain ⟨h1, cells, h2, h3⟩ := h
  have hl := h2.lt
  obtain ⟨g, a1, a2, a3, a4⟩ := h3 j hj
  have h2' := h2
  rcases h2.2 with ⟨_, h0⟩ | ⟨b, cap, cur, he, hb, hg, hnc, hcm, hcs, htake⟩
  · omega
  · cases he
    have hc := h2'.cells (g := b) rfl j _ a1
    rw [Addr.add_lit, Nat.zero_add] at hc
    exact ⟨b, g, rfl, hb, (hl b rfl).2, hc, a2, a3⟩
theorem run_make_rows (n : Nat) (hn : n ≤ 65536) (w : World) : (Instr.makeSlice 67 (.int .i64 0) (.int .i64 (n : Int))).run Try.prog w = .ok (.slice (some ⟨w.heap.size, 0, none⟩) 0 n) (w.alloc (.cells (madeCells #[.slice none 0 0] n) 23)) := by
  obtain ⟨i0, hi, hz0, hz1, hz2⟩ := info_parts infoS
  have := run_make (P := Try.prog) w 67 23 i0 (.slice none 0 0) Try.underlying67 hi hz0 .i64 .i64 0 n (by omega) (by omega) (by rw [hz2]; omega) (by omega)
  rw [hz1] at this
  simpa [Value.cells] using this
theorem OwnS.made (w : World) (n L : Nat) (hn : n ≤ 65536) : OwnS w.heap.size L (w.alloc (.cells (madeCells #[.slice none 0 0] n) 23)) (.slice (some ⟨w.heap.size, 0, none⟩) 0 n) 0 [] := by
  refine ⟨rfl, [], ⟨by simp, .inr ⟨w.heap.size, n, _, rfl, Nat.le_refl _, heap_alloc_new _ _, Nat.zero_le _, by unfold maxLen; omega, by simp [madeCells], by simp⟩⟩, fun j hj => by omega⟩

/-- append(rows, row) -/
theorem wpList_append_row {ops : Array Oper} {rest : List Oper} {o : Oper} {a : Act} {w : World} {Q : Exit → Act → World → Prop} (hgd : o.guard = none) (s x : Operand)
    (ho : o.op = .call { callee := .builtin .append, args := #[s, x], argTypes := #[67, 67] })
    (B L : Nat) (v : Value) (n : Nat) (ls : List (List Int)) (t : List Int) (g : Nat) (hs : a.eval s = v) (hown : OwnS B L w v n ls) (b c : Nat) (hx : a.eval x = .slice (some ⟨b, 0, none⟩) 1 c) (hc : w.cell? ⟨b, 0, none⟩ = some (.slice (some ⟨g, 0, none⟩) L L))
    (hr : RowI w g t) (hg : B ≤ g) (hgv : v.ownBlock ≠ some g) (hn : n < 65536) (hB : B ≤ w.heap.size)
    (h : ∀ q cap w', OwnS B L w' (.slice (some ⟨q, 0, none⟩) (n + 1) cap) (n + 1) (ls ++ [t]) → w.grownBy w' v.ownBlock → (v.ownBlock = some q ∨ q = w.heap.size) → q < w'.heap.size → B ≤ q →
      wpList Try.prog ops Q rest (a.put o.dst (.slice (some ⟨q, 0, none⟩) (n + 1) cap)) w') : wpList Try.prog ops Q (o :: rest) a w := by
  obtain ⟨i0, hi, hz0, hz1, hz2⟩ := info_parts infoS
  obtain ⟨k1, cells, k3, k5⟩ := hown
  refine wpList_append_lies w hgd s x 67 ho B 23 i0 (.slice none 0 0) 1 24 Try.underlying67 hi hz0 hz1 hz2 rfl (by decide) v n _ hs k3 ⟨b, 0, none⟩ 1 c [.slice (some ⟨g, 0, none⟩) L L] hx rfl ?_ ?_ (by decide) (by unfold maxLen; omega) (by omega) hB w.heap.size rfl ?_
  · intro j u hj
    match j, hj with
    | 0, hj => simp at hj; subst hj; simpa [Addr.add] using hc
  · intro u hu; simp at hu; subst hu; rfl
  · intro q cap w' h1 hgrow hat hlt
    have hq : ∀ g', v.ownBlock ≠ some g' → g' < w.heap.size → w'.heap[g']? = w.heap[g']? ∧ (Value.slice (some ⟨q, 0, none⟩) (n + 1) cap).ownBlock ≠ some g' := by
      intro g' hne hlt'
      refine ⟨hgrow.block g' hlt' (fun e => hne e.symm), fun e => ?_⟩
      simp only [Value.ownBlock, Option.some.injEq] at e
      rcases hat with hat | hat
      · exact hne (by rw [hat, e])
      · omega
    have hlc : cells.length = n := by have := k3.1; simpa using this
    refine h q cap w' ⟨by simp [k1], _, h1, fun j hj => ?_⟩ hgrow hat hlt (h1.lt q rfl).1
    by_cases hjn : j < n
    · obtain ⟨g', a1, a2, a3, a4⟩ := k5 j hjn
      obtain ⟨e1, e2⟩ := hq g' a4 a2.lt
      refine ⟨g', by rw [List.getElem?_append_left (by omega)]; exact a1, ?_, a3, e2⟩
      have : (ls ++ [t]).getD j [] = ls.getD j [] := by simp only [List.getD]; rw [List.getElem?_append_left (by omega)]
      rw [this]
      exact a2.kept e1
    · have : j = n := by omega
      subst this
      obtain ⟨e1, e2⟩ := hq g hgv hr.lt
      refine ⟨g, by rw [List.getElem?_append_right (by omega)]; simp [hlc], ?_, hg, e2⟩
      have : (ls ++ [t]).getD j [] = t := by simp only [List.getD]; rw [List.getElem?_append_right (by omega)]; simp [k1]
      rw [this]
      exact hr.kept e1
end Go.Proofs.Ytmpjnjhiklaofaa
