/-
  copy OF A WHOLE ROW of elements of several cells.
-/
import Derived.Test.YtgkemmdghmklfaaFrKept
import Derived.Laws.CopyOwn
namespace Go.Proofs.Ytgkemmdghmklfaa
set_option linter.unusedSimpArgs false
set_option linter.unusedVariables false
open Go.RowKit

theorem run_copy_whole {P : Program} (w : World) (dT sT ty elem : TypeId) (k n g dCap : Nat) (a : Addr) (sCap : Nat) (cur : Array Value) (t : TypeId) (cs : List Value)
    (hu : P.underlying dT = some (.slice elem)) (hs : (P.info? elem).map (·.size) = some k) (hg : w.heap[g]? = some (.cells cur t (0, 0))) (hn : cs.length = n * k) (hsrc : ∀ j v, cs[j]? = some v → w.cell? (a.add j) = some v) (hfit : cs.length = cur.size) (h1 : ∀ v ∈ cs, v.oneCell' = true) :
    (Builtin.copy_ #[dT, sT] ty #[.slice (some ⟨g, 0, none⟩) n dCap, .slice (some a) n sCap]).run P w = .ok (goInt n) (w.setRow g cs.toArray) := by
  have hl := run_loadCells_list (P := P) w a cs hsrc
  have hst := run_storeCells_at P g 0 t cs 0 cur w hg (by simp [hfit]) h1
  simp only [Nat.zero_add, List.take_zero, List.nil_append] at hst
  rw [List.drop_of_length_le (by simp [hfit]), List.append_nil] at hst
  cases hq : P.info? elem with
  | none => simp [hq] at hs
  | some i =>
    have hi : i.size = k := by simpa [hq] using hs
    simp [Builtin.copy_, run_underlying hu, Builtin.lenOf, Builtin.firstCells, sizeOf, typeInfo, hq, hi, ← hn, hl, hst]

theorem wpList_copy_whole {P : Program} {w : World} {ops : Array Oper} {rest : List Oper} {o : Oper} {a : Act} {Q : Exit → Act → World → Prop} (hgd : o.guard = none) (d s : Operand) (dT sT : TypeId)
    (ho : o.op = .call { callee := .builtin .copy, args := #[d, s], argTypes := #[dT, sT] }) (elem : TypeId) (k : Nat) (hu : P.underlying dT = some (.slice elem)) (hsz : (P.info? elem).map (·.size) = some k)
    (n g dCap : Nat) (ad : Addr) (sCap : Nat) (hd : a.eval d = .slice (some ⟨g, 0, none⟩) n dCap) (hs : a.eval s = .slice (some ad) n sCap)
    (cur : Array Value) (t : TypeId) (hg : w.heap[g]? = some (.cells cur t (0, 0))) (cs : List Value) (hn : cs.length = n * k)
    (hsrc : ∀ j v, cs[j]? = some v → w.cell? (ad.add j) = some v) (hfit : cs.length = cur.size) (h1 : ∀ v ∈ cs, v.oneCell' = true)
    (h : wpList P ops Q rest (a.put o.dst (goInt n)) (w.setRow g cs.toArray)) : wpList P ops Q (o :: rest) a w := by
  refine wpList_plain hgd fun K hK => ?_
  have hrun := run_copy_whole (P := P) w dT sT o.type elem k n g dCap ad sCap cur t cs hu hsz hg hn hsrc hfit h1
  unfold Oper.wp
  simp [execOp, ho, resolve, invoke, builtin, hd, hs, hrun, Result.andThen]
  exact hK _ _ h

/-- A place where the walk stands still. -/
def Stop (p : Prop) : Prop := p
theorem stopAt {P : Program} {ops : Array Oper} {Q : Exit → Act → World → Prop} {rest : List Oper} {o : Oper} {a : Act} {w : World} (d : Nat) (h : Stop (wpList P ops Q (o :: rest) a w)) (hd : o.dst = some d) : wpList P ops Q (o :: rest) a w := h
/-- What a copy of a row leaves. -/
theorem RowC.copied {T : TypeId} {w : World} {g : Nat} {cur cs : List Value} (h : RowC T w g cur) : RowC T (w.setRow g cs.toArray) g cs ∧ ∀ x, x ≠ g → (w.setRow g cs.toArray).heap[x]? = w.heap[x]? :=
  ⟨setRow_heap w g _ _ T _ h, fun x hx => setRow_other w g x _ hx⟩
theorem Ext.setRow {w0 w : World} (h : Ext w0 w) {g : Nat} (hg : w0.heap.size ≤ g) (cs : Array Value) : Ext w0 (w.setRow g cs) := below_setRow h hg cs
end Go.Proofs.Ytgkemmdghmklfaa
