/-
  append(own row of arrays, xs...); an array in the making whose numbers or items are appended to by a whole list.
-/
import Derived.Test.YtgeppialbkijiaaChainA
namespace Go.Proofs.Ytgeppialbkijiaa
set_option linter.unusedSimpArgs false
set_option linter.unusedVariables false
open Go.RowKit

theorem OwnA.form {B : Nat} {X : Nat → Prop} {w : World} {v : Value} {n : Nat} {l : List Arr} (h : OwnA B X w v n l) : ∃ p c, v = .slice p n c ∧ n ≤ c := by
  obtain ⟨_, _, cells, hr, _⟩ := h
  rcases hr.2 with ⟨rfl, h0⟩ | ⟨g, cap, cur, rfl, _, _, hnc, _⟩
  · exact ⟨none, 0, by rw [h0], by omega⟩
  · exact ⟨_, _, rfl, hnc⟩
/-- append(own, xs...) for arrays. -/
theorem wpList_append_arrs {ops : Array Oper} {rest : List Oper} {o : Oper} {a : Act} {w : World} {Q : Exit → Act → World → Prop} (hgd : o.guard = none) (s x : Operand)
    (ho : o.op = .call { callee := .builtin .append, args := #[s, x], argTypes := #[24, 24] })
    (F : Nat → Prop) (B : Nat) (X : Nat → Prop) (v : Value) (n : Nat) (ys : List Arr) (p : Option Addr) (c : Nat) (xs : List Arr) (hs : a.eval s = v) (hown : OwnA B X w v n ys) (hx : a.eval x = .slice p xs.length c) (hr : ItemsAt F w p 0 xs)
    (hF : ∀ b, F b → b < w.heap.size → Apart B X v b) (hX : ∀ b, X b → b < w.heap.size) (hn : n + xs.length ≤ 1759218604391) (hB : B ≤ w.heap.size)
    (h : ∀ v' w', OwnA B X w' v' (n + xs.length) (ys ++ xs) → w.grownBy w' v.ownBlock → (v'.ownBlock = v.ownBlock ∨ v'.ownBlock = some w.heap.size) → wpList Try.prog ops Q rest (a.put o.dst v') w') : wpList Try.prog ops Q (o :: rest) a w := by
  obtain ⟨i0, hi, hz0, hz1, hz2⟩ := info_parts infoA
  obtain ⟨ps, cs, hv, hcs⟩ := hown.form
  cases xs with
  | nil =>
    refine wpList_plain hgd fun K hK => ?_
    have hrun := run_append_none (P := Try.prog) w 24 o.type 26 i0 Try.underlying24 hi ps n cs hcs p c
    unfold Oper.wp execOp
    simp only [ho, resolve, invoke, builtin, Sem.run_bind, Sem.run_pure, Result.andThen_ok, List.map_toArray, List.map_cons, List.map_nil, hs, hv, hx, List.length_nil, hrun]
    rw [← hv]
    exact hK _ _ (h _ _ (by simpa using hown) ⟨rfl, rfl, rfl, Nat.le_refl _, fun _ _ _ => rfl⟩ (.inl rfl))
  | cons x0 r =>
    obtain ⟨b, off, _, _, _, _, rfl, _⟩ := ItemsAt.get _ _ 0 0 hr (by simp)
    obtain ⟨news, hn1, hn2, hn3, hn4⟩ := items_cells _ 0 hr
    obtain ⟨k1, k4, cells, k3, k5⟩ := hown
    refine wpList_append_lies w hgd s x 24 ho B 26 i0 _ 4 80 Try.underlying24 hi hz0 hz1 hz2 rfl (by decide) v n _ hs k3 ⟨b, off, none⟩ (x0 :: r).length c news hx hn1 (fun j u hj => by rw [Addr.add_lit]; have := hn2 j u hj; rwa [Nat.zero_mul, Nat.add_zero] at this) hn3 (by simp) (by unfold maxLen; omega) (by omega) hB w.heap.size rfl ?_
    intro g cap w' h1 hgrow hat hlt
    have key : ∀ q, Apart B X v q → q < w.heap.size → Apart B X (.slice (some ⟨g, 0, none⟩) (n + (x0 :: r).length) cap) q ∧ w'.heap[q]? = w.heap[q]? := by
      intro q ⟨b1, b2, b3⟩ hlt
      refine ⟨⟨b1, b2, ?_⟩, hgrow.block q hlt (fun e => b3 e.symm)⟩
      simp only [Value.ownBlock, ne_eq, Option.some.injEq]
      rcases hat with hat | hat
      · intro e; subst e; exact b3 hat
      · omega
    refine h _ _ ⟨by simp [k1], fun g' hg' => ?_, _, h1, ?_⟩ hgrow (hat.imp (fun e => e.symm) (fun e => by rw [← e]; rfl))
    · simp only [Value.ownBlock, Option.some.injEq] at hg'
      subst hg'
      rcases hat with hat | hat
      · exact k4 _ hat
      · exact fun hx => by have := hX _ hx; omega
    · exact CellsRead.append _ _ _ _ (CellsRead.mono key _ _ k5) (CellsRead.mono (fun q hq hlt => key q (hF q hq hlt) hlt) _ _ hn4)

theorem MkB.storedN' {w0 w w' : World} {X : Nat → Prop} {b : Nat} {k : Int} {v1 v2 v2' v3 : Value} {n n' : List Int} {l : List Arr} (h : MkB w0 w X b k v1 v2 v3 n l) (hg : w.grownBy w' v2.ownBlock)
    (ho : OwnI w0.heap.size (fun x => X x ∨ v3.ownBlock = some x) w' v2' n'.length n') (hat : v2'.ownBlock = v2.ownBlock ∨ v2'.ownBlock = some w.heap.size) :
    MkB w0 (w'.setCell ⟨b, 2, none⟩ v2') X b k v1 v2' v3 n' l ∧ ∀ q, X q → q ≠ b → (w'.setCell ⟨b, 2, none⟩ v2').heap[q]? = w.heap[q]? := by
  obtain ⟨h1, h2, h3⟩ := h.grownN hg
  have far : ∀ q, q ≠ b → (w'.setCell ⟨b, 2, none⟩ v2').heap[q]? = w'.heap[q]? := fun q hq => Below.heap_setCell _ _ _ _ (by simpa using hq)
  refine ⟨⟨h1.setCell (p := ⟨b, 2, none⟩) h.le _, h.le, h2.set2 _, h.xb, fun x hx => ?_, ho.same fun q _ _ hne => ⟨far q (fun e => hne (by rw [e]; exact .inl h.xb)), hne⟩, h.oi.same fun q hlt _ hne => ?_⟩, fun q hq hqb => (far q hqb).trans (h3 q hq)⟩
  · have h8 := Nat.lt_of_lt_of_le (h.xl x hx) hg.size
    simpa [World.setCell] using h8
  · have hqb : q ≠ b := fun e => hne (by rw [e]; exact .inl h.xb)
    refine ⟨(far q hqb).trans (hg.block q hlt (fun e => hne (.inr e.symm))), fun hx => ?_⟩
    rcases hx with hx | hx
    · exact hne (.inl hx)
    · rcases hat with hat | hat
      · exact hne (.inr (by rw [← hat]; exact hx))
      · rw [hat] at hx
        simp only [Option.some.injEq] at hx
        omega
theorem MkB.storedI' {w0 w w' : World} {X : Nat → Prop} {b : Nat} {k : Int} {v1 v2 v3 v3' : Value} {n : List Int} {l l' : List Arr} (h : MkB w0 w X b k v1 v2 v3 n l) (hg : w.grownBy w' v3.ownBlock)
    (ho : OwnA w0.heap.size (fun x => X x ∨ v2.ownBlock = some x) w' v3' l'.length l') (hat : v3'.ownBlock = v3.ownBlock ∨ v3'.ownBlock = some w.heap.size) :
    MkB w0 (w'.setCell ⟨b, 3, none⟩ v3') X b k v1 v2 v3' n l' ∧ ∀ q, X q → q ≠ b → (w'.setCell ⟨b, 3, none⟩ v3').heap[q]? = w.heap[q]? := by
  obtain ⟨h1, h2, h3⟩ := h.grownI hg
  have far : ∀ q, q ≠ b → (w'.setCell ⟨b, 3, none⟩ v3').heap[q]? = w'.heap[q]? := fun q hq => Below.heap_setCell _ _ _ _ (by simpa using hq)
  refine ⟨⟨h1.setCell (p := ⟨b, 3, none⟩) h.le _, h.le, h2.set3 _, h.xb, fun x hx => ?_, h.on.same fun q _ hlt hne => ?_, ho.same fun q _ _ hne => ⟨far q (fun e => hne (by rw [e]; exact .inl h.xb)), hne⟩⟩, fun q hq hqb => (far q hqb).trans (h3 q hq)⟩
  · have h8 := Nat.lt_of_lt_of_le (h.xl x hx) hg.size
    simpa [World.setCell] using h8
  · have hqb : q ≠ b := fun e => hne (by rw [e]; exact .inl h.xb)
    refine ⟨(far q hqb).trans (hg.block q hlt (fun e => hne (.inr e.symm))), fun hx => ?_⟩
    rcases hx with hx | hx
    · exact hne (.inl hx)
    · rcases hat with hat | hat
      · exact hne (.inr (by rw [← hat]; exact hx))
      · rw [hat] at hx
        simp only [Option.some.injEq] at hx
        omega
end Go.Proofs.Ytgeppialbkijiaa
