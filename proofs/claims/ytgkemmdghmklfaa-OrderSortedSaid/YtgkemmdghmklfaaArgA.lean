/-
  AN ARGUMENT THAT IS A SLICE OF ARRAYS.
-/
import Derived.Test.YtgkemmdghmklfaaArg
namespace Go.Proofs.Ytgkemmdghmklfaa
set_option linter.unusedSimpArgs false
set_option linter.unusedVariables false
open Go.ChangeShapes Go.WideShapes Go.ChangeAt Go.RowKit
theorem sliceA_of {P : Program} {W : World} {r : Reach} {base : Nat} {t e : TypeId} {v : Value} {p : Option Addr} {n c : Nat} (ht : P.underlying t = some (.slice e)) (h : Value.okWide P W r base t v) (e2 : v.cells.toList = [.slice p n c]) : v = .slice p n c := by
  obtain ⟨a, len, cap, rfl⟩ := okWide_slice ht h
  simpa [Value.cells] using e2
section
variable {H : Type} {enc : TypeId × Value → H} {w : World} {base : Nat} {sp : Nat → Bool} {held : Bool}
theorem arrs_of_trod {fuel : Nat} {cs : List Value} {x : DataW H × List MemPlace} (h : DataW.trod enc Try.prog w base sp held fuel 24 cs = some x)
    (hs : ∀ n ∈ x.1.weights Try.prog 24, n ≤ reachBytes) : ∃ (p : Option Addr) (c : Nat) (l : List Arr), cs = [.slice p l.length c] ∧ ItOk l.length c ∧ ItemsAt (fun b => b < w.heap.size) w p 0 l := by
  rcases DataW.trod_slice Try.underlying24 h with ⟨e3, _⟩ | ⟨a, len, cap, elems, rest, q, hq, e3, rfl, hb, hlc, hcm, hel, hget, hsp, hns⟩
  · exact ⟨none, 0, [], e3, ⟨by simp, by simp, by simp⟩, by unfold ItemsAt; trivial⟩
  · have hlen8 : len * 80 ≤ reachBytes := by
      have := hs (((elems.map (·.1)).length + (rest.map (·.1)).length) * 80) (by simp [DataW.weights, Try.underlying24, bytesA])
      simp only [List.length_map] at this
      rw [← hel]
      have h2 := Nat.mul_le_mul_right 80 (Nat.le_add_right elems.length rest.length)
      omega
    unfold reachBytes at hlen8
    unfold maxLen at hcm
    have hitem : ∀ i, i < len → ∃ cs' y, w.cells? base (a.add (i * 4)) 4 = some cs' ∧ DataW.trod enc Try.prog w base sp held q 26 cs' = some y ∧ y ∈ elems := by
      intro i hi
      have h1 := hget i hi
      rw [cellsA, List.getElem?_eq_getElem (by omega), Option.bind_eq_some_iff] at h1
      obtain ⟨cs', h2, h3⟩ := h1
      exact ⟨cs', _, h2, h3, List.getElem_mem _⟩
    have hwe : ∀ y ∈ elems, ∀ k ∈ y.1.weights Try.prog 26, k ≤ reachBytes := by
      intro y hy k hk
      refine hs k ?_
      simp only [DataW.weights, Try.underlying24, List.mem_cons, List.mem_append]
      exact .inr (.inl (weightsAll_mem (List.mem_map_of_mem hy) k hk))
    by_cases h0 : len = 0
    · subst h0
      exact ⟨some a, cap, [], e3, ⟨by simp, by omega, by simp⟩, by unfold ItemsAt; trivial⟩
    · obtain ⟨cs', _, hc0, _, _⟩ := hitem 0 (by omega)
      rw [Nat.zero_mul, show a.add 0 = a from rfl] at hc0
      obtain ⟨_, hca⟩ := cells_first hc0
      obtain ⟨hpl, hlt⟩ := plain_addr hca
      obtain ⟨b, o, s⟩ := a
      simp only [Addr.mk.injEq, true_and] at hpl
      subst hpl
      obtain ⟨l, hll, hP⟩ := items_build (P := fun i t => ∃ d0 d1 d2 d3, b < w.heap.size ∧ w.cell? ⟨b, o + i * 4, none⟩ = some d0 ∧ w.cell? ⟨b, o + i * 4 + 1, none⟩ = some d1 ∧
        w.cell? ⟨b, o + i * 4 + 2, none⟩ = some d2 ∧ w.cell? ⟨b, o + i * 4 + 3, none⟩ = some d3 ∧ ArrAt (fun b => b < w.heap.size) w t d0 d1 d2 d3) len (fun i hi => by
          obtain ⟨cs', y, g1, g2, g3⟩ := hitem i hi
          obtain ⟨t, d0, d1, d2, d3, rfl, ht⟩ := arr_of_trod q q cs' y (Nat.le_refl _) g2 (hwe y g3)
          rw [add_plain] at g1
          obtain ⟨f0', f1', f2', f3', he, z0, z1, z2, z3⟩ := cells4 g1
          simp only [List.cons.injEq, and_true] at he
          obtain ⟨rfl, rfl, rfl, rfl⟩ := he
          exact ⟨t, _, _, _, _, hlt, z0, z1, z2, z3, ht⟩) len 0 (by omega)
      exact ⟨some ⟨b, o, none⟩, cap, l, by rw [hll]; exact e3, by rw [hll]; exact ⟨hlc, by omega, by omega⟩, ItemsAt.of_get l 0 hP⟩
end
end Go.Proofs.Ytgkemmdghmklfaa
