/-
  AN ARGUMENT THAT IS AN ARRAY: what a row says of it, as a tree in the heap; its bounds by the form's own reach.
-/
import Derived.Test.YtgkemmdghmklfaaShape
import Derived.ProofKit
import Derived.SizedLaws
namespace Go.Proofs.Ytgkemmdghmklfaa
set_option linter.unusedSimpArgs false
set_option linter.unusedVariables false
open Go.ChangeShapes Go.WideShapes Go.ChangeAt Go.RowKit
section
variable {H : Type} {enc : TypeId × Value → H} {w : World} {base : Nat} {sp : Nat → Bool} {held : Bool}

theorem cellsI : Try.prog.cellsOf 3 = 1 := by kernel_rfl
theorem cellsA : Try.prog.cellsOf 26 = 4 := by kernel_rfl
theorem cellsK : Try.prog.cellsOf 22 = 1 := by kernel_rfl
theorem cellsS : Try.prog.cellsOf 23 = 1 := by kernel_rfl
theorem cellsT : Try.prog.cellsOf 24 = 1 := by kernel_rfl
theorem bytesI : Try.prog.bytesOf 3 = 8 := by kernel_rfl
theorem bytesA : Try.prog.bytesOf 26 = 80 := by kernel_rfl

/-- What is there lies at a plain address. -/
theorem plain_addr {w : World} {a : Addr} {v : Value} (h : w.cell? a = some v) : a = ⟨a.block, a.off, none⟩ ∧ a.block < w.heap.size := by
  refine ⟨?_, World.block_lt_of_cell? w _ h⟩
  obtain ⟨b, o, s⟩ := a
  cases s with
  | none => rfl
  | some s =>
    simp only [World.cell?] at h
    split at h
    · simp at h
    · cases h

theorem add_plain (b o i : Nat) : (⟨b, o, none⟩ : Addr).add i = ⟨b, o + i, none⟩ := by
  unfold Addr.add
  split
  · rename_i h; subst h; rfl
  · rfl

/-- A slice of ints. -/
theorem ints_of_trod {fuel : Nat} {cs : List Value} {x : DataW H × List MemPlace} (h : DataW.trod enc Try.prog w base sp held fuel 23 cs = some x)
    (hs : ∀ n ∈ x.1.weights Try.prog 23, n ≤ reachBytes) : ∃ (p : Option Addr) (c : Nat) (l : List Int), cs = [.slice p l.length c] ∧ SlOk l.length c ∧ IntsAt (fun b => b < w.heap.size) w p l := by
  rcases open_ints Try.underlying23 Try.underlying3 cellsI h with ⟨rfl, rfl⟩ | ⟨a, len, cap, zs, rfl, _, hl, hm, hz, rfl, hcell, hwz⟩
  · exact ⟨none, 0, [], rfl, ⟨by simp, by simp, by simp⟩, fun i hi => by simp at hi⟩
  · have hlz : len ≤ zs.length := by rw [hz]; split <;> omega
    have htl : (zs.take len).length = len := by rw [List.length_take]; omega
    have h1 := hs ((zs.take len).length * 8 + (zs.drop len).length * 8) (by
      simp only [DataW.weights, Try.underlying23, bytesI]
      simp [lits, Nat.add_mul])
    rw [htl] at h1
    unfold reachBytes at h1
    unfold maxLen at hm
    refine ⟨some a, cap, zs.take len, by rw [htl], by rw [htl]; exact ⟨hl, by omega, by omega⟩, fun i hi => ?_⟩
    rw [htl] at hi
    have h0 := hcell 0 (by omega)
    rw [show a.add 0 = a from rfl] at h0
    obtain ⟨he, hlt⟩ := plain_addr h0
    have hi' := hcell i (by omega)
    rw [he, add_plain] at hi'
    have hg : (zs.take len).getD i 0 = zs.getD i 0 := by simp [List.getD, List.getElem?_take, hi]
    have hw := hwz (zs.getD i 0) (by simp [List.getD, show i < zs.length by omega])
    have hw2 : (decide ((-9223372036854775808 : Int) ≤ zs.getD i 0) && decide (zs.getD i 0 ≤ (9223372036854775807 : Int))) = true := hw
    simp only [Bool.and_eq_true, decide_eq_true_eq] at hw2
    exact ⟨a.block, a.off, by rw [← he], hlt, by rw [hg]; exact hi', by rw [hg]; exact hw2.1, by rw [hg]; exact hw2.2⟩
/-- A list of arrays, from number i on: each is a tree. -/
theorem items_build {P : Nat → Arr → Prop} (n : Nat) (h : ∀ i, i < n → ∃ t, P i t) : ∀ k i, i + k = n → ∃ l : List Arr, l.length = k ∧ ∀ j (hj : j < l.length), P (i + j) l[j]
  | 0, i, _ => ⟨[], rfl, fun j hj => by simp at hj⟩
  | k + 1, i, hk => by
    obtain ⟨t, ht⟩ := h i (by omega)
    obtain ⟨l, hl, hP⟩ := items_build n h k (i + 1) (by omega)
    refine ⟨t :: l, by simp [hl], fun j hj => ?_⟩
    cases j with
    | zero => exact ht
    | succ j =>
      have := hP j (by simpa using hj)
      rw [show i + (j + 1) = i + 1 + j by omega]
      exact this

theorem ItemsAt.of_get {F : Nat → Prop} {w : World} {b off : Nat} : ∀ (l : List Arr) (i : Nat), (∀ j (hj : j < l.length), ∃ c0 c1 c2 c3, F b ∧ w.cell? ⟨b, off + (i + j) * 4, none⟩ = some c0 ∧ w.cell? ⟨b, off + (i + j) * 4 + 1, none⟩ = some c1 ∧
    w.cell? ⟨b, off + (i + j) * 4 + 2, none⟩ = some c2 ∧ w.cell? ⟨b, off + (i + j) * 4 + 3, none⟩ = some c3 ∧ ArrAt F w l[j] c0 c1 c2 c3) → ItemsAt F w (some ⟨b, off, none⟩) i l
  | [], _, _ => by unfold ItemsAt; trivial
  | x :: r, i, h => by
    unfold ItemsAt
    obtain ⟨c0, c1, c2, c3, hF, h0, h1, h2, h3, hx⟩ := h 0 (by simp)
    refine ⟨⟨b, off, c0, c1, c2, c3, rfl, hF, h0, h1, h2, h3, hx⟩, ItemsAt.of_get r (i + 1) fun j hj => ?_⟩
    have := h (j + 1) (by simpa using hj)
    rw [show i + (j + 1) = i + 1 + j by omega] at this
    exact this

/-- Four cells read at once. -/
theorem cells4 {w : World} {base : Nat} {b o : Nat} {cs : List Value} (h : w.cells? base ⟨b, o, none⟩ 4 = some cs) :
    ∃ c0 c1 c2 c3, cs = [c0, c1, c2, c3] ∧ w.cell? ⟨b, o, none⟩ = some c0 ∧ w.cell? ⟨b, o + 1, none⟩ = some c1 ∧ w.cell? ⟨b, o + 2, none⟩ = some c2 ∧ w.cell? ⟨b, o + 3, none⟩ = some c3 := by
  unfold World.cells? at h
  split at h
  · simp only [List.range, List.range.loop, List.mapM_cons, List.mapM_nil, add_plain, Nat.add_zero, Option.bind_eq_bind, Option.pure_def, Option.bind_eq_some_iff, Option.some.injEq] at h
    obtain ⟨c0, h0, r0, ⟨c1, h1, r1, ⟨c2, h2, r2, ⟨c3, h3, r3, rfl, rfl⟩, rfl⟩, rfl⟩, rfl⟩ := h
    exact ⟨c0, c1, c2, c3, rfl, h0, h1, h2, h3⟩
  · cases h

theorem cells_first {w : World} {base : Nat} {a : Addr} {cs : List Value} (h : w.cells? base a 4 = some cs) : ∃ c, w.cell? a = some c := by
  unfold World.cells? at h
  split at h
  · simp only [List.range, List.range.loop, List.mapM_cons, List.mapM_nil, Option.bind_eq_bind, Option.pure_def, Option.bind_eq_some_iff, Option.some.injEq] at h
    obtain ⟨c0, h0, _⟩ := h
    exact ⟨c0, h0⟩
  · cases h

theorem weightsAll_mem {P : Program} {e : TypeId} : ∀ {l : List (DataW H)} {d : DataW H}, d ∈ l → ∀ n ∈ d.weights P e, n ∈ DataW.weightsAll P e l
  | [], _, h, _, _ => by cases h
  | x :: r, d, h, n, hn => by
    simp only [DataW.weightsAll, List.mem_append]
    rcases List.mem_cons.1 h with rfl | h
    · exact .inl hn
    · exact .inr (weightsAll_mem h n hn)

theorem trod_struct4 {P : Program} {t : TypeId} {f0 f1 f2 f3 : Field} {fuel : Nat} {cs : List Value} {x : DataW H × List MemPlace} (ht : P.underlying t = some (.struct #[f0, f1, f2, f3])) (h : DataW.trod enc P w base sp held fuel t cs = some x) :
    ∃ y0 y1 y2 y3 n, fuel = n + 1 ∧ x = (.agg [y0.1, y1.1, y2.1, y3.1], [y0, y1, y2, y3].flatMap (·.2)) ∧ cs.length = P.cellsOf t ∧ DataW.trod enc P w base sp held n f0.type ((cs.drop f0.offset).take (P.cellsOf f0.type)) = some y0 ∧
      DataW.trod enc P w base sp held n f1.type ((cs.drop f1.offset).take (P.cellsOf f1.type)) = some y1 ∧ DataW.trod enc P w base sp held n f2.type ((cs.drop f2.offset).take (P.cellsOf f2.type)) = some y2 ∧
      DataW.trod enc P w base sp held n f3.type ((cs.drop f3.offset).take (P.cellsOf f3.type)) = some y3 := by
  obtain ⟨xs, n, hn, rfl, hl, hlen, hf⟩ := DataW.trod_struct ht h
  match xs, hlen with
  | [y0, y1, y2, y3], _ => exact ⟨y0, y1, y2, y3, n, hn, by simp, hl, by simpa using hf 0 f0 rfl, by simpa using hf 1 f1 rfl, by simpa using hf 2 f2 rfl, by simpa using hf 3 f3 rfl⟩

/-- An array. -/
theorem arr_of_trod : ∀ (m fuel : Nat) (cs : List Value) (x : DataW H × List MemPlace), fuel ≤ m → DataW.trod enc Try.prog w base sp held fuel 26 cs = some x →
    (∀ n ∈ x.1.weights Try.prog 26, n ≤ reachBytes) → ∃ t c0 c1 c2 c3, cs = [c0, c1, c2, c3] ∧ ArrAt (fun b => b < w.heap.size) w t c0 c1 c2 c3 := by
  intro m
  induction m with
  | zero =>
    intro fuel cs x hm h _
    obtain rfl : fuel = 0 := by omega
    simp [DataW.trod] at h
  | succ m ih =>
    intro fuel cs x hm h hs
    obtain ⟨y0, y1, y2, y3, n, rfl, rfl, hl, f0, f1, f2, f3⟩ := trod_struct4 Try.underlying26 h
    rw [cellsA] at hl
    obtain ⟨c0, cs, rfl⟩ := List.exists_cons_of_length_pos (show 0 < cs.length by omega)
    obtain ⟨c1, cs, rfl⟩ := List.exists_cons_of_length_pos (show 0 < cs.length by simp at hl; omega)
    obtain ⟨c2, cs, rfl⟩ := List.exists_cons_of_length_pos (show 0 < cs.length by simp at hl; omega)
    obtain ⟨c3, cs, rfl⟩ := List.exists_cons_of_length_pos (show 0 < cs.length by simp at hl; omega)
    obtain rfl : cs = [] := by simpa using hl
    dsimp only at f0 f1 f2 f3
    simp only [cellsK, cellsS, cellsT, List.drop_zero, List.drop_succ_cons, List.take_succ_cons, List.take_zero] at f0 f1 f2 f3
    have hw : ∀ k, k ∈ y1.1.weights Try.prog 23 ∨ k ∈ y2.1.weights Try.prog 23 ∨ k ∈ y3.1.weights Try.prog 24 → k ≤ reachBytes := by
      intro k hk
      refine hs k ?_
      simp only [List.map_cons, List.map_nil, DataW.weights, Try.underlying26, DataW.weightsEach, List.mem_append]
      rcases hk with hk | hk | hk
      · exact .inr (.inl hk)
      · exact .inr (.inr (.inl hk))
      · exact .inr (.inr (.inr (.inl hk)))
    obtain ⟨pa, ca, la, e1, k1, i1⟩ := ints_of_trod f1 (fun k hk => hw k (.inl hk))
    obtain ⟨pb, cb, lb, e2, k2, i2⟩ := ints_of_trod f2 (fun k hk => hw k (.inr (.inl hk)))
    obtain ⟨kd, e0, _, hkd⟩ : ∃ z, c0 = .int .i64 z ∧ y0 = (.lit (.int .i64 z), []) ∧ (Lit.int .i64 z).wf = true := by
      obtain ⟨z, hz, hx, hw⟩ := DataW.trod_int Try.underlying22 f0
      refine ⟨z, ?_, hx, hw⟩
      simp only [List.cons.injEq, and_true] at hz
      exact hz
    have hkd2 : (decide ((-9223372036854775808 : Int) ≤ kd) && decide (kd ≤ (9223372036854775807 : Int))) = true := hkd
    simp only [Bool.and_eq_true, decide_eq_true_eq] at hkd2
    replace e1 := (List.cons.inj e1).1
    replace e2 := (List.cons.inj e2).1
    rcases DataW.trod_slice Try.underlying24 f3 with ⟨e3, _⟩ | ⟨a, len, cap, elems, rest, q, hq, e3, rfl, hb, hlc, hcm, hel, hget, hsp, hns⟩
    · simp only [List.cons.injEq, and_true] at e3
      refine ⟨.mk kd la lb [], c0, c1, c2, c3, rfl, ?_⟩
      unfold ArrAt
      exact ⟨e0, hkd2, ⟨pa, ca, e1, k1, i1⟩, ⟨pb, cb, e2, k2, i2⟩, ⟨none, 0, e3, ⟨by simp, by simp, by simp⟩, by unfold ItemsAt; trivial⟩⟩
    · simp only [List.cons.injEq, and_true] at e3
      have hlen8 : len * 80 ≤ reachBytes := by
        have := hw (((elems.map (·.1)).length + (rest.map (·.1)).length) * 80) (.inr (.inr (by simp [DataW.weights, Try.underlying24, bytesA])))
        simp only [List.length_map] at this
        rw [← hel]
        have h2 := Nat.mul_le_mul_right 80 (Nat.le_add_right elems.length rest.length)
        omega
      unfold reachBytes at hlen8
      unfold maxLen at hcm
      have hitem : ∀ i, i < len → ∃ cs' y, w.cells? base (a.add (i * 4)) 4 = some cs' ∧ DataW.trod enc Try.prog w base sp held q 26 cs' = some y ∧ y ∈ elems := by
        intro i hi
        have h1 := hget i hi
        rw [cellsA, List.getElem?_eq_getElem (by omega), Option.bind_eq_some_iff] at h1
        obtain ⟨cs', h2, h3⟩ := h1
        exact ⟨cs', _, h2, h3, List.getElem_mem _⟩
      have hwe : ∀ y ∈ elems, ∀ k ∈ y.1.weights Try.prog 26, k ≤ reachBytes := by
        intro y hy k hk
        refine hw k (.inr (.inr ?_))
        simp only [DataW.weights, Try.underlying24, List.mem_cons, List.mem_append]
        exact .inr (.inl (weightsAll_mem (List.mem_map_of_mem hy) k hk))
      by_cases h0 : len = 0
      · subst h0
        refine ⟨.mk kd la lb [], c0, c1, c2, c3, rfl, ?_⟩
        unfold ArrAt
        exact ⟨e0, hkd2, ⟨pa, ca, e1, k1, i1⟩, ⟨pb, cb, e2, k2, i2⟩, ⟨some a, cap, e3, ⟨by simp, by omega, by simp⟩, by unfold ItemsAt; trivial⟩⟩
      · obtain ⟨cs', _, hc0, _, _⟩ := hitem 0 (by omega)
        rw [Nat.zero_mul, show a.add 0 = a from rfl] at hc0
        obtain ⟨_, hca⟩ := cells_first hc0
        obtain ⟨hpl, hlt⟩ := plain_addr hca
        obtain ⟨b, o, s⟩ := a
        simp only [Addr.mk.injEq, true_and] at hpl
        subst hpl
        obtain ⟨l, hll, hP⟩ := items_build (P := fun i t => ∃ d0 d1 d2 d3, b < w.heap.size ∧ w.cell? ⟨b, o + i * 4, none⟩ = some d0 ∧ w.cell? ⟨b, o + i * 4 + 1, none⟩ = some d1 ∧
          w.cell? ⟨b, o + i * 4 + 2, none⟩ = some d2 ∧ w.cell? ⟨b, o + i * 4 + 3, none⟩ = some d3 ∧ ArrAt (fun b => b < w.heap.size) w t d0 d1 d2 d3) len (fun i hi => by
            obtain ⟨cs', y, g1, g2, g3⟩ := hitem i hi
            obtain ⟨t, d0, d1, d2, d3, rfl, ht⟩ := ih q cs' y (by omega) g2 (hwe y g3)
            rw [add_plain] at g1
            obtain ⟨f0', f1', f2', f3', he, z0, z1, z2, z3⟩ := cells4 g1
            simp only [List.cons.injEq, and_true] at he
            obtain ⟨rfl, rfl, rfl, rfl⟩ := he
            exact ⟨t, _, _, _, _, hlt, z0, z1, z2, z3, ht⟩) len 0 (by omega)
        refine ⟨.mk kd la lb l, c0, c1, c2, c3, rfl, ?_⟩
        unfold ArrAt
        exact ⟨e0, hkd2, ⟨pa, ca, e1, k1, i1⟩, ⟨pb, cb, e2, k2, i2⟩, ⟨some ⟨b, o, none⟩, cap, by rw [hll]; exact e3, by rw [hll]; exact ⟨hlc, by omega, by omega⟩, ItemsAt.of_get l 0 hP⟩⟩
end
/-- A struct of four cells. -/
theorem agg_of {P : Program} {W : World} {r : Reach} {base : Nat} {t : TypeId} {fs : Array Field} {v c0 c1 c2 c3 : Value} (ht : P.underlying t = some (.struct fs)) (h : Value.okWide P W r base t v) (e : v.cells.toList = [c0, c1, c2, c3]) : v = .agg #[c0, c1, c2, c3] := by
  obtain ⟨cs, rfl, _⟩ := okWide_struct ht h
  obtain ⟨l⟩ := cs
  have e2 : l = [c0, c1, c2, c3] := e
  rw [e2]
end Go.Proofs.Ytgkemmdghmklfaa
