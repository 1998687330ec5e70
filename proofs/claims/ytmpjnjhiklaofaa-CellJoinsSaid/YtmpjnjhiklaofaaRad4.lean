/-
  slices.Grow at nil; slices.Concat of two lists of numbers. (Printed by gen_rad4.py.)
-/
import Derived.Test.YtmpjnjhiklaofaaCommon
import Derived.Lib.AppendZeros
namespace Go.Proofs.Ytmpjnjhiklaofaa
set_option linter.unusedSimpArgs false
set_option linter.unusedVariables false
open Go.RowKit

theorem zeroCells_size (n : Nat) : (Builtin.zeroCells #[.int .i64 0] n).size = n := by
  simp [Builtin.zeroCells]
/-- append(nil, make([]int, n)...)[:0] -/
theorem wpList_append_zeros {ops : Array Oper} {rest : List Oper} {o : Oper} {a : Act} {w : World} {Q : Exit → Act → World → Prop} (hgd : o.guard = none) (s x : Operand)
    (ho : o.op = .call { callee := .builtin .append, args := #[s, x], argTypes := #[23, 3] })
    (n : Nat) (h0 : 0 < n) (hn : n ≤ 17592186044416) (hs : a.eval s = .slice none 0 0) (hx : a.eval x = .int .i64 n)
    (h : ∀ c w', n ≤ c → c ≤ maxLen → Ext w w' → OwnI w.heap.size (fun _ => False) w' (.slice (some ⟨w.heap.size, 0, none⟩) 0 c) 0 [] → wpList Try.prog ops Q rest (a.put o.dst (.slice (some ⟨w.heap.size, 0, none⟩) n c)) w') : wpList Try.prog ops Q (o :: rest) a w := by
  obtain ⟨i0, hi, hz0, hz1, hz2⟩ := info_parts infoI
  have hrun := Lib.run_append_nil_zeros (P := Try.prog) w 23 3 o.type 3 i0 (.int .i64 0) .i64 .i64 Try.underlying23 Try.underlying3 hi hz0 n h0 (by rw [hz1]; omega) (by omega) (by rw [hz2]; omega)
  refine wpList_plain hgd fun K hK => ?_
  unfold Oper.wp execOp
  simp only [ho, resolve, invoke, builtin, Sem.run_bind, Sem.run_pure, Result.andThen_ok, List.map_toArray, List.map_cons, List.map_nil, hs, hx, hrun]
  have hge := grownCap_ge w n 0 3
  have hle := grownCap_le_maxLen w n 0 3 (by unfold maxLen; omega)
  refine hK _ _ (h _ _ hge hle ((Ext.refl _).drew.alloc _) ⟨rfl, by omega, ⟨by simp, .inr ⟨w.heap.size, _, _, rfl, Nat.le_refl _, heap_alloc_new _ _, Nat.zero_le _, hle, ?_, by simp⟩⟩, fun _ _ h => h, by simp⟩)
  simp only [Value.cells, zeroCells_size, Array.size_append]
  omega

set_option maxHeartbeats 1000000 in
theorem grow_nil (n : Nat) (hn : n ≤ 17592186044416) (w : World) :
    Calls Try.prog 87 #[.slice none 0 0, .int .i64 n] w fun e w' => ∃ v, e = .returned v ∧ OwnI w.heap.size (fun _ => False) w' v 0 [] ∧ Ext w w' := by
  by_cases h0 : n = 0
  · subst h0
    go_enter Try.func87, Try.ntmps87
    go_wp2_with fail
    go_ret
    exact ⟨_, rfl, OwnI.nil _ _ _, Ext.refl _⟩
  · have h1 : (0 : Int) < (n : Int) := by omega
    go_enter Try.func87, Try.ntmps87
    go_wp2_with (at_builtin; refine wpList_append_zeros rfl _ _ rfl n (by omega) hn rfl rfl ?_)
    intro c w' hc hcm hE hO
    unfold maxLen at hcm
    go_wp2_with fail
    go_ret
    exact ⟨_, rfl, hO, hE⟩

/-- A row of two slices. -/
def Row2 (w : World) (b : Nat) (v1 v2 : Value) : Prop := w.heap[b]? = some (.cells #[v1, v2] 23 (0, 0))
theorem Row2.cell {w : World} {b : Nat} {v1 v2 : Value} (h : Row2 w b v1 v2) : w.cell? ⟨b, 0, none⟩ = some v1 ∧ w.cell? ⟨b, 1, none⟩ = some v2 :=
  ⟨(cell_of_row _ _ 0 _ _ _ h).trans rfl, (cell_of_row _ _ 1 _ _ _ h).trans rfl⟩
theorem Row2.lt {w : World} {b : Nat} {v1 v2 : Value} (h : Row2 w b v1 v2) : b < w.heap.size := (Array.getElem?_eq_some_iff.1 h).1
theorem Row2.ext {w w' : World} {b : Nat} {v1 v2 : Value} (h : Row2 w b v1 v2) (e : Ext w w') : Row2 w' b v1 v2 := by
  unfold Row2 at *
  rw [e.block (Row2.lt h)]; exact h

set_option maxRecDepth 100000 in
set_option maxHeartbeats 4000000 in
/-- slices.Concat of two lists. -/
theorem concat_any (F G : Nat → Prop) (b : Nat) (p1 p2 : Option Addr) (c1 c2 : Nat) (s t : List Int) (w : World) (hb : Row2 w b (.slice p1 s.length c1) (.slice p2 t.length c2)) (h1 : IntsAt F w p1 s) (h2 : IntsAt G w p2 t) (hl : s.length + t.length ≤ lenMax) :
    Calls Try.prog 55 #[.slice (some ⟨b, 0, none⟩) 2 2] w fun e w' => ∃ v, e = .returned v ∧ OwnI w.heap.size (fun _ => False) w' v (s.length + t.length) (s ++ t) ∧ Ext w w' := by
  unfold lenMax at hl
  have HB := Lib.hid hb
  have H1 := Lib.hid h1
  have H2 := Lib.hid h2
  clear h1 h2
  go_enter Try.func55, Try.ntmps55
  go_wp2_with fail
  go_loop [3, 11] (fun sv iv => ∃ k : Nat, k ≤ 2 ∧ iv = .int .i64 k ∧ sv = .int .i64 (if k = 0 then 0 else if k = 1 then (s.length : Int) else (s.length : Int) + t.length)) (fun _ iv => 2 - (intOf iv).toNat)
  case atStart => exact ⟨0, by omega, rfl, rfl⟩
  case round =>
    obtain ⟨k, hk, rfl, rfl⟩ := hrel
    obtain ⟨b0, b1⟩ := hb.cell
    rcases (show k = 0 ∨ k = 1 ∨ k = 2 by omega) with rfl | rfl | rfl
    · simp only [if_true]
      go_wp2_with fail
      go_round
      case rel => exact ⟨1, by omega, rfl, rfl⟩
      case measure => simp [intOf]
    · simp only [show ¬ (1 = 0) by omega, if_false, if_true]
      go_wp2_with fail
      go_round
      case rel => exact ⟨2, by omega, rfl, rfl⟩
      case measure => simp [intOf]
    · simp only [show ¬ (2 = 0) by omega, show ¬ (2 = 1) by omega, if_false]
      go_wp2_with fail
      have hgr := grow_nil (s.length + t.length) hl w
      rw [Int.natCast_add] at hgr
      refine hgr.mono ?_
      rintro e w2 ⟨v0, rfl, hO0, hE0⟩
      have HO0 := Lib.hid hO0
      have HE0 := Lib.hid hE0
      clear hO0 hE0 b0 b1 hgr
      go_wp2_with fail
      go_loopw [6, 27] (fun vv iv wr => ∃ (k : Nat) (v : Value), k ≤ 2 ∧ v = vv ∧ iv = .int .i64 k ∧ OwnI w.heap.size (fun _ => False) wr v (if k = 0 then 0 else if k = 1 then 0 + s.length else 0 + s.length + t.length) (if k = 0 then [] else if k = 1 then [] ++ s else [] ++ s ++ t) ∧ Ext w wr) (fun _ iv _ => 2 - (intOf iv).toNat)
      case atStart => exact ⟨0, v0, by omega, rfl, rfl, HO0.out, HE0.out⟩
      case round =>
        obtain ⟨k, v, hk, rfl, rfl, hO, hE⟩ := hrel
        clear HO0 HE0
        obtain ⟨b0, b1⟩ := (HB.out.ext hE).cell
        rcases (show k = 0 ∨ k = 1 ∨ k = 2 by omega) with rfl | rfl | rfl
        · simp only [if_true] at hO
          go_wp2_with (at_builtin; refine wpList_append_ints rfl _ _ rfl F w.heap.size (fun _ => False) v 0 [] p1 c1 s rfl hO rfl (H1.out.ext hE) (fun _ h => h.elim) (by omega) hE.lt ?_)
          intro v' w' hO' hg _
          have hE' := hE.grown hg hE.lt (fun q e => (hO.2.2.1.lt q e).1)
          go_wp2_with fail
          clear hO hE hg b0 b1
          go_roundw
          case rel => exact ⟨1, _, by omega, rfl, rfl, by simpa using hO', hE'⟩
          case measure => simp [intOf]
        · simp only [show ¬ (1 = 0) by omega, if_false, if_true] at hO
          go_wp2_with (at_builtin; refine wpList_append_ints rfl _ _ rfl G w.heap.size (fun _ => False) v (0 + s.length) ([] ++ s) p2 c2 t rfl hO rfl (H2.out.ext hE) (fun _ h => h.elim) (by omega) hE.lt ?_)
          intro v' w' hO' hg _
          have hE' := hE.grown hg hE.lt (fun q e => (hO.2.2.1.lt q e).1)
          go_wp2_with fail
          clear hO hE hg b0 b1
          go_roundw
          case rel => exact ⟨2, _, by omega, rfl, rfl, by simpa using hO', hE'⟩
          case measure => simp [intOf]
        · simp only [show ¬ (2 = 0) by omega, show ¬ (2 = 1) by omega, if_false, List.nil_append, Nat.zero_add] at hO
          go_wp2_with fail
          go_ret
          exact ⟨_, rfl, hO, hE⟩

end Go.Proofs.Ytmpjnjhiklaofaa
