/-
  SLICE EXPRESSIONS on lists of numbers and of arrays: x[k:], x[:k], x[i:j:j]; their runs, and what they read as.
-/
import Derived.Test.YtgkemmdghmklfaaCommon
namespace Go.Proofs.Ytgkemmdghmklfaa
set_option linter.unusedSimpArgs false
set_option linter.unusedVariables false
open Go.RowKit

theorem sizeI : (Try.prog.info? 3).map (·.size) = some 1 := by kernel_rfl
theorem sizeA : (Try.prog.info? 26).map (·.size) = some 4 := by kernel_rfl
theorem elemI : Try.prog.elem 23 = 3 := by kernel_rfl
theorem elemA : Try.prog.elem 24 = 26 := by kernel_rfl

/-- Where a part of a list begins. -/
def cutAt (p : Option Addr) (k m s : Nat) : Option Addr := if m = k then p else p.map (·.add (k * s))

theorem IntsAt.cut {F : Nat → Prop} {w : World} {p : Option Addr} {xs : List Int} {n : Nat} (h : IntsAt F w p xs) (k m : Nat) (hm : xs.length ≤ m) : IntsAt F w (cutAt p k m 1) ((xs.drop k).take n) := by
  intro i hi
  simp only [List.length_take, List.length_drop] at hi
  obtain ⟨b, off, rfl, hf, hc, h1, h2⟩ := h (k + i) (by omega)
  have e : ((xs.drop k).take n).getD i 0 = xs.getD (k + i) 0 := by
    simp only [List.getD]
    rw [List.getElem?_take, if_pos (by omega), List.getElem?_drop]
  rw [e]
  unfold cutAt
  rw [if_neg (by omega)]
  refine ⟨b, off + k, by simp [Addr.add_lit], hf, ?_, h1, h2⟩
  rw [Nat.add_assoc]; exact hc

theorem ItemsAt.skip {F : Nat → Prop} {w : World} : ∀ (l : List Arr) (p : Option Addr) (i k : Nat), ItemsAt F w p i l → ItemsAt F w p (i + k) (l.drop k)
  | [], p, i, k, _ => by rw [List.drop_nil]; unfold ItemsAt; trivial
  | x :: r, p, i, 0, h => by simpa using h
  | x :: r, p, i, k + 1, h => by
    unfold ItemsAt at h
    have := ItemsAt.skip r p (i + 1) k h.2
    rw [show i + (k + 1) = i + 1 + k by omega]
    simpa using this
theorem ItemsAt.take {F : Nat → Prop} {w : World} : ∀ (l : List Arr) (p : Option Addr) (i k : Nat), ItemsAt F w p i l → ItemsAt F w p i (l.take k)
  | [], p, i, k, h => by rw [List.take_nil]; exact h
  | x :: r, p, i, 0, h => by rw [List.take_zero]; unfold ItemsAt; trivial
  | x :: r, p, i, k + 1, h => by
    rw [List.take_succ_cons]
    unfold ItemsAt at h ⊢
    exact ⟨h.1, ItemsAt.take r p (i + 1) k h.2⟩
theorem ItemsAt.shift {F : Nat → Prop} {w : World} {b off : Nat} (k : Nat) : ∀ (l : List Arr) (i : Nat), ItemsAt F w (some ⟨b, off, none⟩) (i + k) l → ItemsAt F w (some ⟨b, off + k * 4, none⟩) i l
  | [], i, h => by unfold ItemsAt; trivial
  | x :: r, i, h => by
    unfold ItemsAt at h ⊢
    obtain ⟨⟨b', off', c0, c1, c2, c3, e, hf, k0, k1, k2, k3, ha⟩, hr⟩ := h
    cases e
    refine ⟨⟨b, off + k * 4, c0, c1, c2, c3, rfl, hf, ?_, ?_, ?_, ?_, ha⟩, ItemsAt.shift k r (i + 1) (by rw [show i + 1 + k = i + k + 1 by omega]; exact hr)⟩
    · rw [show off + k * 4 + i * 4 = off + (i + k) * 4 by omega]; exact k0
    · rw [show off + k * 4 + i * 4 = off + (i + k) * 4 by omega]; exact k1
    · rw [show off + k * 4 + i * 4 = off + (i + k) * 4 by omega]; exact k2
    · rw [show off + k * 4 + i * 4 = off + (i + k) * 4 by omega]; exact k3
theorem ItemsAt.cut {F : Nat → Prop} {w : World} {p : Option Addr} {l : List Arr} {n : Nat} (h : ItemsAt F w p 0 l) (k m : Nat) (hm : l.length ≤ m) : ItemsAt F w (cutAt p k m 4) 0 ((l.drop k).take n) := by
  have h1 := ItemsAt.take _ p _ n (ItemsAt.skip l p 0 k h)
  rcases Nat.lt_or_ge k l.length with hk | hk
  · obtain ⟨b, off, _, _, _, _, rfl, _⟩ := ItemsAt.get l p 0 0 h (by omega)
    unfold cutAt
    rw [if_neg (by omega)]
    have := ItemsAt.shift k _ 0 h1
    simpa [Addr.add_lit] using this
  · rw [List.drop_of_length_le hk, List.take_nil]
    unfold ItemsAt; trivial

section
variable (p : Option Addr) (n c : Nat) (w : World)
theorem slice_l (k : Nat) (hk : k ≤ n) : (Instr.sliceAt 23 (.slice p n c) (some (.int .i64 (k : Int))) none none).run Try.prog w = .ok (.slice (cutAt p k c 1) (n - k) (c - k)) w := by
  rw [run_sliceAt_slice _ _ _ _ _ _ (by rw [elemI]; exact Try.underlying23), run_slice_l _ _ _ _ _ (by rw [elemI]; exact Try.underlying23) .i64 (k : Int) (by omega) (by omega)]
  obtain ⟨i, hi, hs⟩ := Option.map_eq_some_iff.1 sizeI
  simp [elemI, sizeOf, typeInfo, hi, hs, sliced, cutAt]
theorem slice_h (k : Nat) (hk : k ≤ c) : (Instr.sliceAt 23 (.slice p n c) none (some (.int .i64 (k : Int))) none).run Try.prog w = .ok (.slice (cutAt p 0 c 1) k c) w := by
  rw [run_sliceAt_slice _ _ _ _ _ _ (by rw [elemI]; exact Try.underlying23), run_slice_h _ _ _ _ _ (by rw [elemI]; exact Try.underlying23) .i64 (k : Int) (by omega) (by omega)]
  obtain ⟨i, hi, hs⟩ := Option.map_eq_some_iff.1 sizeI
  simp [elemI, sizeOf, typeInfo, hi, hs, sliced, cutAt]
theorem slice_lhm (k m : Nat) (hk : k ≤ m) (hm : m ≤ c) : (Instr.sliceAt 23 (.slice p n c) (some (.int .i64 (k : Int))) (some (.int .i64 (m : Int))) (some (.int .i64 (m : Int)))).run Try.prog w = .ok (.slice (cutAt p k m 1) (m - k) (m - k)) w := by
  rw [run_sliceAt_slice _ _ _ _ _ _ (by rw [elemI]; exact Try.underlying23), run_slice_lhm _ _ _ _ _ (by rw [elemI]; exact Try.underlying23) .i64 .i64 .i64 (k : Int) (m : Int) (m : Int) (by omega) (by omega) (by omega) (by omega)]
  obtain ⟨i, hi, hs⟩ := Option.map_eq_some_iff.1 sizeI
  simp [elemI, sizeOf, typeInfo, hi, hs, sliced, cutAt]
theorem slice_lhmA (k m : Nat) (hk : k ≤ m) (hm : m ≤ c) : (Instr.sliceAt 24 (.slice p n c) (some (.int .i64 (k : Int))) (some (.int .i64 (m : Int))) (some (.int .i64 (m : Int)))).run Try.prog w = .ok (.slice (cutAt p k m 4) (m - k) (m - k)) w := by
  rw [run_sliceAt_slice _ _ _ _ _ _ (by rw [elemA]; exact Try.underlying24), run_slice_lhm _ _ _ _ _ (by rw [elemA]; exact Try.underlying24) .i64 .i64 .i64 (k : Int) (m : Int) (m : Int) (by omega) (by omega) (by omega) (by omega)]
  obtain ⟨i, hi, hs⟩ := Option.map_eq_some_iff.1 sizeA
  simp [elemA, sizeOf, typeInfo, hi, hs, sliced, cutAt]
end
end Go.Proofs.Ytgkemmdghmklfaa
