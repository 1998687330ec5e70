/-
  AN ARGUMENT THAT IS A SLICE OF BYTES.
-/
import Derived.Test.YtmpjnjhiklaofaaCommon
import Derived.Test.YtmpjnjhiklaofaaArg
namespace Go.Proofs.Ytmpjnjhiklaofaa
set_option linter.unusedSimpArgs false
set_option linter.unusedVariables false
open Go.ChangeShapes Go.WideShapes Go.ChangeAt Go.RowKit
section
variable {H : Type} {enc : TypeId × Value → H} {w : World} {base : Nat} {sp : Nat → Bool} {held : Bool}
theorem cellsB : Try.prog.cellsOf 5 = 1 := by kernel_rfl
theorem bytes_of_trod {fuel : Nat} {cs : List Value} {x : DataW H × List MemPlace} (h : DataW.trod enc Try.prog w base sp held fuel 42 cs = some x) :
    ∃ (p : Option Addr) (c : Nat) (l : List Int), cs = [.slice p l.length c] ∧ l.length ≤ 9223372036854775807 ∧ BytesAt (fun b => b < w.heap.size) w p l := by
  rcases open_ints Try.underlying42 Try.underlying5 cellsB h with ⟨rfl, rfl⟩ | ⟨a, len, cap, zs, rfl, _, hl, hm, hz, rfl, hcell, hwz⟩
  · exact ⟨none, 0, [], rfl, by simp, fun i hi => by simp at hi⟩
  · have hlz : len ≤ zs.length := by rw [hz]; split <;> omega
    have htl : (zs.take len).length = len := by rw [List.length_take]; omega
    unfold maxLen at hm
    refine ⟨some a, cap, zs.take len, by rw [htl], by omega, fun i hi => ?_⟩
    rw [htl] at hi
    have h0 := hcell 0 (by omega)
    rw [show a.add 0 = a from rfl] at h0
    obtain ⟨he, hlt⟩ := plain_addr h0
    have hi' := hcell i (by omega)
    rw [he, add_plain] at hi'
    have hg : (zs.take len).getD i 0 = zs.getD i 0 := by simp [List.getD, List.getElem?_take, hi]
    have hw := hwz (zs.getD i 0) (by simp [List.getD, show i < zs.length by omega])
    have hw2 : (decide ((0 : Int) ≤ zs.getD i 0) && decide (zs.getD i 0 ≤ (255 : Int))) = true := hw
    simp only [Bool.and_eq_true, decide_eq_true_eq] at hw2
    exact ⟨a.block, a.off, by rw [← he], hlt, by rw [hg]; exact hi', by rw [hg]; exact hw2.1, by rw [hg]; exact hw2.2⟩
end
theorem slice_of {P : Program} {W : World} {r : Reach} {base : Nat} {t e : TypeId} {v : Value} {p : Option Addr} {n c : Nat} (ht : P.underlying t = some (.slice e)) (h : Value.okWide P W r base t v) (e2 : v.cells.toList = [.slice p n c]) : v = .slice p n c := by
  obtain ⟨a, len, cap, rfl⟩ := okWide_slice ht h
  simpa [Value.cells] using e2
end Go.Proofs.Ytmpjnjhiklaofaa
