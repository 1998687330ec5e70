/-
  AN ARGUMENT THAT IS A SLICE OF OPERATIONS ON FRAMES: two ints and an array each.
-/
import Derived.Test.YtgkemmdghmklfaaArg
import Derived.Test.YtgkemmdghmklfaaRefM
namespace Go.Proofs.Ytgkemmdghmklfaa
set_option linter.unusedSimpArgs false
set_option linter.unusedVariables false
open Go.ChangeShapes Go.WideShapes Go.ChangeAt Go.RowKit
theorem sliceC_of {P : Program} {W : World} {r : Reach} {base : Nat} {t e : TypeId} {v : Value} {p : Option Addr} {n c : Nat} (ht : P.underlying t = some (.slice e)) (h : Value.okWide P W r base t v) (e2 : v.cells.toList = [.slice p n c]) : v = .slice p n c := by
  obtain ⟨a, len, cap, rfl⟩ := okWide_slice ht h
  simpa [Value.cells] using e2
theorem cellsC : Try.prog.cellsOf 55 = 6 := by kernel_rfl
theorem bytesC : Try.prog.bytesOf 55 = 96 := by kernel_rfl
theorem cells6 {w : World} {base : Nat} {b o : Nat} {cs : List Value} (h : w.cells? base ⟨b, o, none⟩ 6 = some cs) :
    ∃ c0 c1 c2 c3 c4 c5, cs = [c0, c1, c2, c3, c4, c5] ∧ w.cell? ⟨b, o, none⟩ = some c0 ∧ w.cell? ⟨b, o + 1, none⟩ = some c1 ∧ w.cell? ⟨b, o + 2, none⟩ = some c2 ∧ w.cell? ⟨b, o + 3, none⟩ = some c3 ∧ w.cell? ⟨b, o + 4, none⟩ = some c4 ∧ w.cell? ⟨b, o + 5, none⟩ = some c5 := by
  unfold World.cells? at h
  split at h
  · simp only [List.range, List.range.loop, List.mapM_cons, List.mapM_nil, add_plain, Nat.add_zero, Option.bind_eq_bind, Option.pure_def, Option.bind_eq_some_iff, Option.some.injEq] at h
    obtain ⟨c0, h0, r0, ⟨c1, h1, r1, ⟨c2, h2, r2, ⟨c3, h3, r3, ⟨c4, h4, r4, ⟨c5, h5, r5, rfl, rfl⟩, rfl⟩, rfl⟩, rfl⟩, rfl⟩, rfl⟩ := h
    exact ⟨c0, c1, c2, c3, c4, c5, rfl, h0, h1, h2, h3, h4, h5⟩
  · cases h
theorem cells6_first {w : World} {base : Nat} {a : Addr} {cs : List Value} (h : w.cells? base a 6 = some cs) : ∃ c, w.cell? a = some c := by
  unfold World.cells? at h
  split at h
  · simp only [List.range, List.range.loop, List.mapM_cons, List.mapM_nil, Option.bind_eq_bind, Option.pure_def, Option.bind_eq_some_iff, Option.some.injEq] at h
    obtain ⟨c0, h0, _⟩ := h
    exact ⟨c0, h0⟩
  · cases h
section
variable {H : Type} {enc : TypeId × Value → H} {w : World} {base : Nat} {sp : Nat → Bool} {held : Bool}
theorem trod_struct3 {P : Program} {t : TypeId} {f0 f1 f2 : Field} {fuel : Nat} {cs : List Value} {x : DataW H × List MemPlace} (ht : P.underlying t = some (.struct #[f0, f1, f2])) (h : DataW.trod enc P w base sp held fuel t cs = some x) :
    ∃ y0 y1 y2 n, fuel = n + 1 ∧ x = (.agg [y0.1, y1.1, y2.1], [y0, y1, y2].flatMap (·.2)) ∧ cs.length = P.cellsOf t ∧ DataW.trod enc P w base sp held n f0.type ((cs.drop f0.offset).take (P.cellsOf f0.type)) = some y0 ∧
      DataW.trod enc P w base sp held n f1.type ((cs.drop f1.offset).take (P.cellsOf f1.type)) = some y1 ∧ DataW.trod enc P w base sp held n f2.type ((cs.drop f2.offset).take (P.cellsOf f2.type)) = some y2 := by
  obtain ⟨xs, n, hn, rfl, hl, hlen, hf⟩ := DataW.trod_struct ht h
  match xs, hlen with
  | [y0, y1, y2], _ => exact ⟨y0, y1, y2, n, hn, by simp, hl, by simpa using hf 0 f0 rfl, by simpa using hf 1 f1 rfl, by simpa using hf 2 f2 rfl⟩
/-- One operation. -/
theorem act_of_trod {fuel : Nat} {cs : List Value} {x : DataW H × List MemPlace} (h : DataW.trod enc Try.prog w base sp held fuel 55 cs = some x)
    (hs : ∀ n ∈ x.1.weights Try.prog 55, n ≤ reachBytes) : ∃ (a : ActD) (c0 c1 c2 c3 : Value), cs = [.int .i64 a.kind, .int .i64 a.n, c0, c1, c2, c3] ∧ IntR a.kind ∧ IntR a.n ∧ ArrAt (fun b => b < w.heap.size) w a.t c0 c1 c2 c3 := by
  obtain ⟨y0, y1, y2, n, rfl, rfl, hl, f0, f1, f2⟩ := trod_struct3 Try.underlying55 h
  rw [cellsC] at hl
  obtain ⟨d0, cs, rfl⟩ := List.exists_cons_of_length_pos (show 0 < cs.length by omega)
  obtain ⟨d1, cs, rfl⟩ := List.exists_cons_of_length_pos (show 0 < cs.length by simp at hl; omega)
  obtain ⟨c0, cs, rfl⟩ := List.exists_cons_of_length_pos (show 0 < cs.length by simp at hl; omega)
  obtain ⟨c1, cs, rfl⟩ := List.exists_cons_of_length_pos (show 0 < cs.length by simp at hl; omega)
  obtain ⟨c2, cs, rfl⟩ := List.exists_cons_of_length_pos (show 0 < cs.length by simp at hl; omega)
  obtain ⟨c3, cs, rfl⟩ := List.exists_cons_of_length_pos (show 0 < cs.length by simp at hl; omega)
  obtain rfl : cs = [] := by simpa using hl
  dsimp only at f0 f1 f2
  simp only [cellsI, cellsA, List.drop_zero, List.drop_succ_cons, List.take_succ_cons, List.take_zero] at f0 f1 f2
  have hi : ∀ {c : Value} {y : DataW H × List MemPlace}, DataW.trod enc Try.prog w base sp held n 3 [c] = some y → ∃ z, c = .int .i64 z ∧ IntR z := by
    intro c y hy
    obtain ⟨z, hz, hx, hw⟩ := DataW.trod_int Try.underlying3 hy
    have hkd2 : (decide ((-9223372036854775808 : Int) ≤ z) && decide (z ≤ (9223372036854775807 : Int))) = true := hw
    simp only [Bool.and_eq_true, decide_eq_true_eq] at hkd2
    simp only [List.cons.injEq, and_true] at hz
    exact ⟨z, hz, hkd2⟩
  obtain ⟨z0, rfl, r0⟩ := hi f0
  obtain ⟨z1, rfl, r1⟩ := hi f1
  obtain ⟨t, e0, e1, e2, e3, he, ht⟩ := arr_of_trod n n _ _ (Nat.le_refl _) f2 (fun k hk => hs k (by
    simp only [List.map_cons, List.map_nil, DataW.weights, Try.underlying55, DataW.weightsEach, List.mem_append]
    exact .inr (.inr (.inl hk))))
  simp only [List.cons.injEq, and_true] at he
  obtain ⟨rfl, rfl, rfl, rfl⟩ := he
  exact ⟨⟨z0, z1, t⟩, _, _, _, _, rfl, r0, r1, ht⟩
theorem acts_build {P : Nat → ActD → Prop} (n : Nat) (h : ∀ i, i < n → ∃ t, P i t) : ∀ k i, i + k = n → ∃ l : List ActD, l.length = k ∧ ∀ j (hj : j < l.length), P (i + j) l[j]
  | 0, i, _ => ⟨[], rfl, fun j hj => by simp at hj⟩
  | k + 1, i, hk => by
    obtain ⟨t, ht⟩ := h i (by omega)
    obtain ⟨l, hl, hP⟩ := acts_build n h k (i + 1) (by omega)
    refine ⟨t :: l, by simp [hl], fun j hj => ?_⟩
    cases j with
    | zero => exact ht
    | succ j =>
      have := hP j (by simpa using hj)
      rw [show i + (j + 1) = i + 1 + j by omega]
      exact this
theorem acts_of_trod {fuel : Nat} {cs : List Value} {x : DataW H × List MemPlace} (h : DataW.trod enc Try.prog w base sp held fuel 48 cs = some x)
    (hs : ∀ n ∈ x.1.weights Try.prog 48, n ≤ reachBytes) : ∃ (p : Option Addr) (c : Nat) (l : List ActD), cs = [.slice p l.length c] ∧ ItOk l.length c ∧ ActsAt (fun b => b < w.heap.size) w p l := by
  rcases DataW.trod_slice Try.underlying48 h with ⟨e3, _⟩ | ⟨a, len, cap, elems, rest, q, hq, e3, rfl, hb, hlc, hcm, hel, hget, hsp, hns⟩
  · exact ⟨none, 0, [], e3, ⟨by simp, by simp, by simp⟩, fun i hi => by simp at hi⟩
  · have hlen8 : len * 96 ≤ reachBytes := by
      have := hs (((elems.map (·.1)).length + (rest.map (·.1)).length) * 96) (by simp [DataW.weights, Try.underlying48, bytesC])
      simp only [List.length_map] at this
      rw [← hel]
      have h2 := Nat.mul_le_mul_right 96 (Nat.le_add_right elems.length rest.length)
      omega
    unfold reachBytes at hlen8
    unfold maxLen at hcm
    have hitem : ∀ i, i < len → ∃ cs' y, w.cells? base (a.add (i * 6)) 6 = some cs' ∧ DataW.trod enc Try.prog w base sp held q 55 cs' = some y ∧ y ∈ elems := by
      intro i hi
      have h1 := hget i hi
      rw [cellsC, List.getElem?_eq_getElem (by omega), Option.bind_eq_some_iff] at h1
      obtain ⟨cs', h2, h3⟩ := h1
      exact ⟨cs', _, h2, h3, List.getElem_mem _⟩
    have hwe : ∀ y ∈ elems, ∀ k ∈ y.1.weights Try.prog 55, k ≤ reachBytes := by
      intro y hy k hk
      refine hs k ?_
      simp only [DataW.weights, Try.underlying48, List.mem_cons, List.mem_append]
      exact .inr (.inl (weightsAll_mem (List.mem_map_of_mem hy) k hk))
    by_cases h0 : len = 0
    · subst h0
      exact ⟨some a, cap, [], e3, ⟨by simp, by omega, by simp⟩, fun i hi => by simp at hi⟩
    · obtain ⟨cs', _, hc0, _, _⟩ := hitem 0 (by omega)
      rw [Nat.zero_mul, show a.add 0 = a from rfl] at hc0
      obtain ⟨_, hca⟩ := cells6_first hc0
      obtain ⟨hpl, hlt⟩ := plain_addr hca
      obtain ⟨b, o, s⟩ := a
      simp only [Addr.mk.injEq, true_and] at hpl
      subst hpl
      obtain ⟨l, hll, hP⟩ := acts_build (P := fun i t => ∃ d0 d1 d2 d3, b < w.heap.size ∧ w.cell? ⟨b, o + i * 6, none⟩ = some (.int .i64 t.kind) ∧ w.cell? ⟨b, o + i * 6 + 1, none⟩ = some (.int .i64 t.n) ∧ w.cell? ⟨b, o + i * 6 + 2, none⟩ = some d0 ∧
        w.cell? ⟨b, o + i * 6 + 3, none⟩ = some d1 ∧ w.cell? ⟨b, o + i * 6 + 4, none⟩ = some d2 ∧ w.cell? ⟨b, o + i * 6 + 5, none⟩ = some d3 ∧ IntR t.kind ∧ IntR t.n ∧ ArrAt (fun b => b < w.heap.size) w t.t d0 d1 d2 d3) len (fun i hi => by
          obtain ⟨cs', y, g1, g2, g3⟩ := hitem i hi
          obtain ⟨t, d0, d1, d2, d3, rfl, r0, r1, ht⟩ := act_of_trod g2 (hwe y g3)
          rw [add_plain] at g1
          obtain ⟨z0', z1', f0', f1', f2', f3', he, y0, y1, z0, z1, z2, z3⟩ := cells6 g1
          simp only [List.cons.injEq, and_true] at he
          obtain ⟨rfl, rfl, rfl, rfl, rfl, rfl⟩ := he
          exact ⟨t, _, _, _, _, hlt, y0, y1, z0, z1, z2, z3, r0, r1, ht⟩) len 0 (by omega)
      refine ⟨some ⟨b, o, none⟩, cap, l, by rw [hll]; exact e3, by rw [hll]; exact ⟨hlc, by omega, by omega⟩, fun i hi => ?_⟩
      obtain ⟨d0, d1, d2, d3, k0, k1, k2, k3, k4, k5, k6, k7, k8, k9⟩ := hP i hi
      rw [Nat.zero_add] at k1 k2 k3 k4 k5 k6
      exact ⟨b, o, d0, d1, d2, d3, rfl, k0, k1, k2, k3, k4, k5, k6, k7, k8, k9⟩
end
end Go.Proofs.Ytgkemmdghmklfaa
