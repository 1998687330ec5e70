/-
  THE WALK of L04.Num.
-/
import Derived.Test.YtgeppialbkijiaaCommon
namespace Go.Proofs.Ytgeppialbkijiaa
set_option linter.unusedSimpArgs false
set_option linter.unusedVariables false
open Go.RowKit

def numV (n : Int) : Arr := .mk 1 [] [n] []
set_option maxHeartbeats 1000000 in
theorem num_any (n : Int) (w : World) (hn : -9223372036854775808 ≤ n ∧ n ≤ 9223372036854775807) :
    Calls Try.prog 64 #[.int .i64 n] w fun e w' =>
      ∃ e0 e1 e2 e3, e = .returned (.agg #[e0, e1, e2, e3]) ∧ ArrAt (fun b => w.heap.size ≤ b) w' (numV n) e0 e1 e2 e3 ∧ Ext w w' := by
  go_enter Try.func64, Try.ntmps64
  go_wp2_with fail
  have hE : Ext w ((w.alloc (.cells #[.int .i64 1, .slice none 0 0, .slice (some ⟨w.heap.size + 1, 0, none⟩) 1 1, .slice none 0 0] 26)).alloc (.cells #[.int .i64 n] 3)) := ((Ext.refl _).alloc _).alloc _
  have hB := (box_new w (.int .i64 1) (.slice none 0 0) (.slice (some ⟨w.heap.size + 1, 0, none⟩) 1 1) (.slice none 0 0)).ext ((Ext.refl _).alloc (.cells #[.int .i64 n] 3))
  have hI := rowI_new (w.alloc (.cells #[.int .i64 1, .slice none 0 0, .slice (some ⟨w.heap.size + 1, 0, none⟩) 1 1, .slice none 0 0] 26)) [n]
  rw [World.size_alloc] at hI
  change RowI ((w.alloc (.cells #[.int .i64 1, .slice none 0 0, .slice (some ⟨w.heap.size + 1, 0, none⟩) 1 1, .slice none 0 0] 26)).alloc (.cells #[.int .i64 n] 3)) _ _ at hI
  generalize (w.alloc (.cells #[.int .i64 1, .slice none 0 0, .slice (some ⟨w.heap.size + 1, 0, none⟩) 1 1, .slice none 0 0] 26)).alloc (.cells #[.int .i64 n] 3) = w1 at *
  obtain ⟨t0, t1, t2, t3⟩ := hB.cell
  have hA : ArrAt (fun b => w.heap.size ≤ b) w1 (numV n) (.int .i64 1) (.slice none 0 0) (.slice (some ⟨w.heap.size + 1, 0, none⟩) 1 1) (.slice none 0 0) := by
    unfold numV
    unfold ArrAt
    refine ⟨rfl, by omega, nilI _ _, ⟨_, _, rfl, ⟨by simp, by simp, by simp⟩, (hI.ints ?_).mono fun b hb _ => ⟨by omega, rfl⟩⟩, nilA _ _⟩
    intro x hx
    rw [List.mem_singleton] at hx
    subst hx
    omega
  refine bodyPost_ret (v := .agg #[.int .i64 1, .slice none 0 0, .slice (some ⟨w.heap.size + 1, 0, none⟩) 1 1, .slice none 0 0]) ?_ rfl ⟨_, _, _, _, rfl, hA, hE⟩
  simp [results, Try.results64, go_sem, t0, t1, t2, t3]
theorem num_rd {X : Nat → Prop} {w : World} {n : Int} (hn : -9223372036854775808 ≤ n ∧ n ≤ 9223372036854775807) (hX : ∀ b, X b → b < w.heap.size) : Calls Try.prog 64 #[.int .i64 n] w fun e w' => ∃ x, e = .returned x ∧ RdX X w' (numV n) x ∧ Ext w w' := by
  refine (num_any n w hn).mono ?_
  rintro e w' ⟨e0, e1, e2, e3, rfl, hA, hE⟩
  exact ⟨_, rfl, RdX.new hA (fun b hb _ => .inl hb) hX, hE⟩

end Go.Proofs.Ytgeppialbkijiaa
