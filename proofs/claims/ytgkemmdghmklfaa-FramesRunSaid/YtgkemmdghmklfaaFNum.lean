/-
  law39.num; Set of a nil frame; how a Set leaves another frame.
-/
import Derived.Test.YtgkemmdghmklfaaFSet
import Derived.Test.YtgkemmdghmklfaaFArrs
import Derived.Test.YtgkemmdghmklfaaFDepth
import Derived.Test.YtgkemmdghmklfaaSame
namespace Go.Proofs.Ytgkemmdghmklfaa
set_option linter.unusedSimpArgs false
set_option linter.unusedVariables false
open Go.RowKit

def numV (n : Int) : Arr := .mk 1 [] [n] []
set_option maxHeartbeats 1000000 in
theorem num_any (n : Int) (w : World) (hn : -9223372036854775808 ≤ n ∧ n ≤ 9223372036854775807) :
    Calls Try.prog 27 #[.int .i64 n] w fun e w' =>
      ∃ e0 e1 e2 e3, e = .returned (.agg #[e0, e1, e2, e3]) ∧ ArrAt (fun b => w.heap.size ≤ b) w' (numV n) e0 e1 e2 e3 ∧ Ext w w' := by
  go_enter Try.func27, Try.ntmps27
  go_wp2_with fail
  have hE : Ext w ((w.alloc (.cells #[.int .i64 1, .slice none 0 0, .slice (some ⟨w.heap.size + 1, 0, none⟩) 1 1, .slice none 0 0] 26)).alloc (.cells #[.int .i64 n] 3)) := ((Ext.refl _).alloc _).alloc _
  have hB := (box_new w (.int .i64 1) (.slice none 0 0) (.slice (some ⟨w.heap.size + 1, 0, none⟩) 1 1) (.slice none 0 0)).ext ((Ext.refl _).alloc (.cells #[.int .i64 n] 3))
  have hI := rowI_new (w.alloc (.cells #[.int .i64 1, .slice none 0 0, .slice (some ⟨w.heap.size + 1, 0, none⟩) 1 1, .slice none 0 0] 26)) [n]
  rw [World.size_alloc] at hI
  change RowI ((w.alloc (.cells #[.int .i64 1, .slice none 0 0, .slice (some ⟨w.heap.size + 1, 0, none⟩) 1 1, .slice none 0 0] 26)).alloc (.cells #[.int .i64 n] 3)) _ _ at hI
  generalize (w.alloc (.cells #[.int .i64 1, .slice none 0 0, .slice (some ⟨w.heap.size + 1, 0, none⟩) 1 1, .slice none 0 0] 26)).alloc (.cells #[.int .i64 n] 3) = w1 at *
  obtain ⟨t0, t1, t2, t3⟩ := hB.cell
  have hA : ArrAt (fun b => w.heap.size ≤ b) w1 (numV n) (.int .i64 1) (.slice none 0 0) (.slice (some ⟨w.heap.size + 1, 0, none⟩) 1 1) (.slice none 0 0) := by
    unfold numV
    unfold ArrAt
    refine ⟨rfl, by omega, nilI _ _, ⟨_, _, rfl, ⟨by simp, by simp, by simp⟩, (hI.ints ?_).mono fun b hb _ => ⟨by omega, rfl⟩⟩, nilA _ _⟩
    intro x hx
    rw [List.mem_singleton] at hx
    subst hx
    omega
  refine bodyPost_ret (v := .agg #[.int .i64 1, .slice none 0 0, .slice (some ⟨w.heap.size + 1, 0, none⟩) 1 1, .slice none 0 0]) ?_ rfl ⟨_, _, _, _, rfl, hA, hE⟩
  simp [results, Try.results27, go_sem, t0, t1, t2, t3]
theorem num_rd {X : Nat → Prop} {w : World} {n : Int} (hn : -9223372036854775808 ≤ n ∧ n ≤ 9223372036854775807) (hX : ∀ b, X b → b < w.heap.size) : Calls Try.prog 27 #[.int .i64 n] w fun e w' => ∃ x, e = .returned x ∧ RdX X w' (numV n) x ∧ Ext w w' := by
  refine (num_any n w hn).mono ?_
  rintro e w' ⟨e0, e1, e2, e3, rfl, hA, hE⟩
  exact ⟨_, rfl, RdX.new hA (fun b hb _ => .inl hb) hX, hE⟩

set_option maxRecDepth 100000 in
set_option maxHeartbeats 2000000 in
theorem set_nil (H : Nat → Prop) (w : World) (s : Int) (t : Arr) (c0 c1 c2 c3 : Value) (ha : ArrAt H w t c0 c1 c2 c3) :
    Calls Try.prog 22 #[.pointer none, .int .i64 s, .agg #[c0, c1, c2, c3, .nilIface]] w fun e w' => e = .returned (.bool false) ∧ Ext w w' := by
  obtain ⟨kk, p1, l1, n1, p2, l2, n2, p3, l3, n3, rfl, rfl, rfl, rfl⟩ := ha.form
  have hE1 : Ext w (w.alloc (.cells #[.int .i64 kk, .slice p1 l1 n1, .slice p2 l2 n2, .slice p3 l3 n3, .nilIface] 38)) := (Ext.refl _).alloc _
  have HE1 := Lib.hid hE1
  clear ha hE1
  go_enter Try.func22, Try.ntmps22
  go_wp2_with fail
  go_ret
  exact ⟨rfl, HE1.out⟩
/-- Set through the reading of a value. -/
theorem set_rd {F : Nat → Prop} {w0 w : World} {b : Nat} {sl : List Slot} {q : Option Addr} {s : Int} {t : Arr} {c0 c1 c2 c3 : Value} {H : Nat → Prop} (hE0 : Ext w0 w) (hb : w0.heap.size ≤ b) (hF : FrAt F w b sl q) (ha : ArrAt H w t c0 c1 c2 c3) (hs : -9223372036854775808 ≤ s ∧ s ≤ 9223372036854775807) {ok : Bool} {sl' : List Slot} (ho : setOk sl s t = ok) (hv : setV sl s t = sl') :
    Calls Try.prog 22 #[.pointer (some ⟨b, 0, none⟩), .int .i64 s, .agg #[c0, c1, c2, c3, .nilIface]] w fun e w' => e = .returned (.bool ok) ∧ FrAt (fun x => F x ∨ w.heap.size ≤ x) w' b sl' q ∧ Ext w0 w' ∧ ∀ x, x < w.heap.size → x ≠ b → w'.heap[x]? = w.heap[x]? := by
  subst ho hv
  exact set_any F H w0 w b sl q s t c0 c1 c2 c3 hE0 hb hF ha hs
end Go.Proofs.Ytgkemmdghmklfaa
