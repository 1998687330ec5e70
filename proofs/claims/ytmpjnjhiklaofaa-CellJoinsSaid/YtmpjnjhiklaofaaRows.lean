/-
  NARROWER THAN 'FOR EVERY INPUT', by the rows' own cells (each row's printed sentence says how): RadixSays: loops · OrderCompare: loops · OrderEqual: loops · OrderChain: loops · OrderSorted: loops · CellSays: loops · CellJoins: loops · CellBack: loops · CellKeeps: loops.
  DERIVED. THE GIVEN ROWS OF THIS SEAT. 12 by the template 'for every input the law returns true; each argument reads behind the call as it read before'; 0 by the template 'total and deterministic' (their statements: YtmpjnjhiklaofaaTotals.lean).
  GIVEN WITH THE SEED: the statements are not yours to turn. If you find one false, say at which input.
  Laid BY PROGRAM, IN A SANDBOX (cutbox-rows.mjs): the forced cells as the released guide's own fill.sh prints them over the translation 94e0347a8e56823b… (all of the seat's roots in one cut). By AI agents, Wed Nov 11 2026. No macro, syntax, notation, axiom, sorry.
-/
import Derived.Test.YtmpjnjhiklaofaaChecked
import GoSem.Claim
import GoSem.ClaimJoined
import GoSem.ClaimMapViews
import Derived.JoinedTies
import Derived.KernelRfl
namespace Go.Proofs.Ytmpjnjhiklaofaa
/- THE CELL 'sum', in the pinned program and in every row, IS THE sha256 OF THE DUMP (.gsa) THAT YtmpjnjhiklaofaaProg.lean LOADS. Nothing in Lean hashes anything: it is a label: what it is worth is what the hold of that sum in a sandbox is worth. -/
noncomputable def Try.pinned : Pinned := { name := "ytmpjnjhiklaofaa", sum := "94e0347a8e56823b957d5cad5647d1285bfaabb71340c0168a5bdc94564f4cc0", checked := Try.checked }
namespace Rows
def none {H : Type} : Left H := { results := [], args := [] }

/-- 'arraylanglaw27.RadixSays': WHATEVER THE INPUT: true; the input reads as it did. -/
def radixSaysSpec : ChangeSpec := { name := "radixSays", fn := fun _ => fun
  | [d1, d2] => { results := [.lit (.bool true)], args := [d1, d2] }
  | _ => none }
def radixSaysRow : OpenClaim := { program := "ytmpjnjhiklaofaa", sum := "94e0347a8e56823b957d5cad5647d1285bfaabb71340c0168a5bdc94564f4cc0", func := "arraylang/arraylanglaw27.RadixSays", spec := "radixSays", unfollowed := true, recurses := true, loops := true, apart := false }
def RadixSaysSaid : Prop := radixSaysRow.holds Try.pinned (OpenSpec.ofChange radixSaysSpec)

/-- ITS FALSE NEIGHBOUR: 'it returns false'. Refute it at one input. -/
def radixSaysWrong : ChangeSpec := { name := "radixSays", fn := fun _ => fun
  | [d1, d2] => { results := [.lit (.bool false)], args := [d1, d2] }
  | _ => none }
def RadixSaysWrongFalsely : Prop := radixSaysRow.holds Try.pinned (OpenSpec.ofChange radixSaysWrong)

/-- 'arraylanglaw27.RadixBack': WHATEVER THE INPUT: true; the input reads as it did. -/
def radixBackSpec : ChangeSpec := { name := "radixBack", fn := fun _ => fun
  | [d1, d2] => { results := [.lit (.bool true)], args := [d1, d2] }
  | _ => none }
def radixBackRow : OpenClaim := { program := "ytmpjnjhiklaofaa", sum := "94e0347a8e56823b957d5cad5647d1285bfaabb71340c0168a5bdc94564f4cc0", func := "arraylang/arraylanglaw27.RadixBack", spec := "radixBack", unfollowed := true, recurses := true, apart := false }
def RadixBackSaid : Prop := radixBackRow.holds Try.pinned (OpenSpec.ofChange radixBackSpec)

/-- ITS FALSE NEIGHBOUR: 'it returns false'. Refute it at one input. -/
def radixBackWrong : ChangeSpec := { name := "radixBack", fn := fun _ => fun
  | [d1, d2] => { results := [.lit (.bool false)], args := [d1, d2] }
  | _ => none }
def RadixBackWrongFalsely : Prop := radixBackRow.holds Try.pinned (OpenSpec.ofChange radixBackWrong)

/-- 'arraylanglaw27.RadixColumns': WHATEVER THE INPUT: true; the input reads as it did. -/
def radixColumnsSpec : ChangeSpec := { name := "radixColumns", fn := fun _ => fun
  | [d1, d2] => { results := [.lit (.bool true)], args := [d1, d2] }
  | _ => none }
def radixColumnsRow : OpenClaim := { program := "ytmpjnjhiklaofaa", sum := "94e0347a8e56823b957d5cad5647d1285bfaabb71340c0168a5bdc94564f4cc0", func := "arraylang/arraylanglaw27.RadixColumns", spec := "radixColumns", unfollowed := true, recurses := true, apart := false }
def RadixColumnsSaid : Prop := radixColumnsRow.holds Try.pinned (OpenSpec.ofChange radixColumnsSpec)

/-- ITS FALSE NEIGHBOUR: 'it returns false'. Refute it at one input. -/
def radixColumnsWrong : ChangeSpec := { name := "radixColumns", fn := fun _ => fun
  | [d1, d2] => { results := [.lit (.bool false)], args := [d1, d2] }
  | _ => none }
def RadixColumnsWrongFalsely : Prop := radixColumnsRow.holds Try.pinned (OpenSpec.ofChange radixColumnsWrong)

/-- 'arraylanglaw06.OrderCompare': WHATEVER THE INPUT: true; the input reads as it did. -/
def orderCompareSpec : ChangeSpec := { name := "orderCompare", fn := fun _ => fun
  | [d1, d2] => { results := [.lit (.bool true)], args := [d1, d2] }
  | _ => none }
def orderCompareRow : OpenClaim := { program := "ytmpjnjhiklaofaa", sum := "94e0347a8e56823b957d5cad5647d1285bfaabb71340c0168a5bdc94564f4cc0", func := "arraylang/arraylanglaw06.OrderCompare", spec := "orderCompare", unfollowed := true, recurses := true, loops := true, apart := false }
def OrderCompareSaid : Prop := orderCompareRow.holds Try.pinned (OpenSpec.ofChange orderCompareSpec)

/-- ITS FALSE NEIGHBOUR: 'it returns false'. Refute it at one input. -/
def orderCompareWrong : ChangeSpec := { name := "orderCompare", fn := fun _ => fun
  | [d1, d2] => { results := [.lit (.bool false)], args := [d1, d2] }
  | _ => none }
def OrderCompareWrongFalsely : Prop := orderCompareRow.holds Try.pinned (OpenSpec.ofChange orderCompareWrong)

/-- 'arraylanglaw06.OrderEqual': WHATEVER THE INPUT: true; the input reads as it did. -/
def orderEqualSpec : ChangeSpec := { name := "orderEqual", fn := fun _ => fun
  | [d1, d2] => { results := [.lit (.bool true)], args := [d1, d2] }
  | _ => none }
def orderEqualRow : OpenClaim := { program := "ytmpjnjhiklaofaa", sum := "94e0347a8e56823b957d5cad5647d1285bfaabb71340c0168a5bdc94564f4cc0", func := "arraylang/arraylanglaw06.OrderEqual", spec := "orderEqual", unfollowed := true, recurses := true, loops := true, apart := false }
def OrderEqualSaid : Prop := orderEqualRow.holds Try.pinned (OpenSpec.ofChange orderEqualSpec)

/-- ITS FALSE NEIGHBOUR: 'it returns false'. Refute it at one input. -/
def orderEqualWrong : ChangeSpec := { name := "orderEqual", fn := fun _ => fun
  | [d1, d2] => { results := [.lit (.bool false)], args := [d1, d2] }
  | _ => none }
def OrderEqualWrongFalsely : Prop := orderEqualRow.holds Try.pinned (OpenSpec.ofChange orderEqualWrong)

/-- 'arraylanglaw06.OrderChain': WHATEVER THE INPUT: true; the input reads as it did. -/
def orderChainSpec : ChangeSpec := { name := "orderChain", fn := fun _ => fun
  | [d1, d2, d3] => { results := [.lit (.bool true)], args := [d1, d2, d3] }
  | _ => none }
def orderChainRow : OpenClaim := { program := "ytmpjnjhiklaofaa", sum := "94e0347a8e56823b957d5cad5647d1285bfaabb71340c0168a5bdc94564f4cc0", func := "arraylang/arraylanglaw06.OrderChain", spec := "orderChain", unfollowed := true, recurses := true, loops := true, apart := false }
def OrderChainSaid : Prop := orderChainRow.holds Try.pinned (OpenSpec.ofChange orderChainSpec)

/-- ITS FALSE NEIGHBOUR: 'it returns false'. Refute it at one input. -/
def orderChainWrong : ChangeSpec := { name := "orderChain", fn := fun _ => fun
  | [d1, d2, d3] => { results := [.lit (.bool false)], args := [d1, d2, d3] }
  | _ => none }
def OrderChainWrongFalsely : Prop := orderChainRow.holds Try.pinned (OpenSpec.ofChange orderChainWrong)

/-- 'arraylanglaw06.OrderSorted': WHATEVER THE INPUT: true; the input reads as it did. -/
def orderSortedSpec : ChangeSpec := { name := "orderSorted", fn := fun _ => fun
  | [d] => { results := [.lit (.bool true)], args := [d] }
  | _ => none }
def orderSortedRow : OpenClaim := { program := "ytmpjnjhiklaofaa", sum := "94e0347a8e56823b957d5cad5647d1285bfaabb71340c0168a5bdc94564f4cc0", func := "arraylang/arraylanglaw06.OrderSorted", spec := "orderSorted", unfollowed := true, recurses := true, loops := true, apart := false }
def OrderSortedSaid : Prop := orderSortedRow.holds Try.pinned (OpenSpec.ofChange orderSortedSpec)

/-- ITS FALSE NEIGHBOUR: 'it returns false'. Refute it at one input. -/
def orderSortedWrong : ChangeSpec := { name := "orderSorted", fn := fun _ => fun
  | [d] => { results := [.lit (.bool false)], args := [d] }
  | _ => none }
def OrderSortedWrongFalsely : Prop := orderSortedRow.holds Try.pinned (OpenSpec.ofChange orderSortedWrong)

/-- 'arraylanglaw06.OrderVectors': WHATEVER THE INPUT: true; the input reads as it did. -/
def orderVectorsSpec : ChangeSpec := { name := "orderVectors", fn := fun _ => fun
  | [d1, d2] => { results := [.lit (.bool true)], args := [d1, d2] }
  | _ => none }
def orderVectorsRow : OpenClaim := { program := "ytmpjnjhiklaofaa", sum := "94e0347a8e56823b957d5cad5647d1285bfaabb71340c0168a5bdc94564f4cc0", func := "arraylang/arraylanglaw06.OrderVectors", spec := "orderVectors", unfollowed := true, recurses := true, apart := false }
def OrderVectorsSaid : Prop := orderVectorsRow.holds Try.pinned (OpenSpec.ofChange orderVectorsSpec)

/-- ITS FALSE NEIGHBOUR: 'it returns false'. Refute it at one input. -/
def orderVectorsWrong : ChangeSpec := { name := "orderVectors", fn := fun _ => fun
  | [d1, d2] => { results := [.lit (.bool false)], args := [d1, d2] }
  | _ => none }
def OrderVectorsWrongFalsely : Prop := orderVectorsRow.holds Try.pinned (OpenSpec.ofChange orderVectorsWrong)

/-- 'arraylanglaw04.CellSays': WHATEVER THE INPUT: true; the input reads as it did. -/
def cellSaysSpec : ChangeSpec := { name := "cellSays", fn := fun _ => fun
  | [d1, d2, d3] => { results := [.lit (.bool true)], args := [d1, d2, d3] }
  | _ => none }
def cellSaysRow : OpenClaim := { program := "ytmpjnjhiklaofaa", sum := "94e0347a8e56823b957d5cad5647d1285bfaabb71340c0168a5bdc94564f4cc0", func := "arraylang/arraylanglaw04.CellSays", spec := "cellSays", unfollowed := true, recurses := true, loops := true, apart := false }
def CellSaysSaid : Prop := cellSaysRow.holds Try.pinned (OpenSpec.ofChange cellSaysSpec)

/-- ITS FALSE NEIGHBOUR: 'it returns false'. Refute it at one input. -/
def cellSaysWrong : ChangeSpec := { name := "cellSays", fn := fun _ => fun
  | [d1, d2, d3] => { results := [.lit (.bool false)], args := [d1, d2, d3] }
  | _ => none }
def CellSaysWrongFalsely : Prop := cellSaysRow.holds Try.pinned (OpenSpec.ofChange cellSaysWrong)

/-- 'arraylanglaw04.CellJoins': WHATEVER THE INPUT: true; the input reads as it did. -/
def cellJoinsSpec : ChangeSpec := { name := "cellJoins", fn := fun _ => fun
  | [d1, d2, d3] => { results := [.lit (.bool true)], args := [d1, d2, d3] }
  | _ => none }
def cellJoinsRow : OpenClaim := { program := "ytmpjnjhiklaofaa", sum := "94e0347a8e56823b957d5cad5647d1285bfaabb71340c0168a5bdc94564f4cc0", func := "arraylang/arraylanglaw04.CellJoins", spec := "cellJoins", unfollowed := true, recurses := true, loops := true, apart := false }
def CellJoinsSaid : Prop := cellJoinsRow.holds Try.pinned (OpenSpec.ofChange cellJoinsSpec)

/-- ITS FALSE NEIGHBOUR: 'it returns false'. Refute it at one input. -/
def cellJoinsWrong : ChangeSpec := { name := "cellJoins", fn := fun _ => fun
  | [d1, d2, d3] => { results := [.lit (.bool false)], args := [d1, d2, d3] }
  | _ => none }
def CellJoinsWrongFalsely : Prop := cellJoinsRow.holds Try.pinned (OpenSpec.ofChange cellJoinsWrong)

/-- 'arraylanglaw04.CellBack': WHATEVER THE INPUT: true; the input reads as it did. -/
def cellBackSpec : ChangeSpec := { name := "cellBack", fn := fun _ => fun
  | [d1, d2, d3] => { results := [.lit (.bool true)], args := [d1, d2, d3] }
  | _ => none }
def cellBackRow : OpenClaim := { program := "ytmpjnjhiklaofaa", sum := "94e0347a8e56823b957d5cad5647d1285bfaabb71340c0168a5bdc94564f4cc0", func := "arraylang/arraylanglaw04.CellBack", spec := "cellBack", unfollowed := true, recurses := true, loops := true, apart := false }
def CellBackSaid : Prop := cellBackRow.holds Try.pinned (OpenSpec.ofChange cellBackSpec)

/-- ITS FALSE NEIGHBOUR: 'it returns false'. Refute it at one input. -/
def cellBackWrong : ChangeSpec := { name := "cellBack", fn := fun _ => fun
  | [d1, d2, d3] => { results := [.lit (.bool false)], args := [d1, d2, d3] }
  | _ => none }
def CellBackWrongFalsely : Prop := cellBackRow.holds Try.pinned (OpenSpec.ofChange cellBackWrong)

/-- 'arraylanglaw04.CellKeeps': WHATEVER THE INPUT: true; the input reads as it did. -/
def cellKeepsSpec : ChangeSpec := { name := "cellKeeps", fn := fun _ => fun
  | [d1, d2] => { results := [.lit (.bool true)], args := [d1, d2] }
  | _ => none }
def cellKeepsRow : OpenClaim := { program := "ytmpjnjhiklaofaa", sum := "94e0347a8e56823b957d5cad5647d1285bfaabb71340c0168a5bdc94564f4cc0", func := "arraylang/arraylanglaw04.CellKeeps", spec := "cellKeeps", unfollowed := true, recurses := true, loops := true, apart := false }
def CellKeepsSaid : Prop := cellKeepsRow.holds Try.pinned (OpenSpec.ofChange cellKeepsSpec)

/-- ITS FALSE NEIGHBOUR: 'it returns false'. Refute it at one input. -/
def cellKeepsWrong : ChangeSpec := { name := "cellKeeps", fn := fun _ => fun
  | [d1, d2] => { results := [.lit (.bool false)], args := [d1, d2] }
  | _ => none }
def CellKeepsWrongFalsely : Prop := cellKeepsRow.holds Try.pinned (OpenSpec.ofChange cellKeepsWrong)

/- THE SECOND FORM. 'bulk': how many values and letters a reading holds, each counted each time it is reached (what is shared counts as often as it is met; a slice's spare places count too). A statement '..UptoSaid' is the law's where the arguments, and the package variables that the reading takes, are together of bulk at most 1048576: NARROWER than '..Said'. Prove '..Said' where nothing that the law and all that it calls make is longer than what came in: it says more and counts as full. Else prove '..UptoSaid'. A law counts once. -/
mutual
def uptoBulk {H : Type} : DataW H → Nat
  | .lit (.string bytes) => bytes.length + 1
  | .lit _ => 1
  | .nil => 1
  | .ptr d => uptoBulk d + 1
  | .slice elems spare => uptoBulkAll elems + uptoBulkAll spare + 1
  | .agg parts => uptoBulkAll parts + 1
  | .iface _ d => uptoBulk d + 1
  | .map entries => uptoBulkEntries entries + 1
  | .held _ => 1
def uptoBulkAll {H : Type} : List (DataW H) → Nat
  | [] => 0
  | d :: r => uptoBulk d + uptoBulkAll r
def uptoBulkEntries {H : Type} : List (Lit × DataW H) → Nat
  | [] => 0
  | x :: r => uptoBulkEntry x + uptoBulkEntries r
def uptoBulkEntry {H : Type} : Lit × DataW H → Nat
  | (.string bytes, d) => bytes.length + uptoBulk d + 1
  | (_, d) => uptoBulk d + 1
 end
def uptoSmall : (H : Type) → List (DataW H) → Bool := fun _ ds => decide (uptoBulkAll ds ≤ 1048576)
def OpenSpec.upto (s : _root_.Go.ChangeSpec) : _root_.Go.OpenSpec := { _root_.Go.OpenSpec.ofChange s with cond := some uptoSmall }

/-- 'arraylanglaw27.RadixSays', WHERE WHAT IT READS IS OF BULK AT MOST 1048576: true; the input reads as it did. -/
def radixSaysUptoRow : OpenClaim := { program := "ytmpjnjhiklaofaa", sum := "94e0347a8e56823b957d5cad5647d1285bfaabb71340c0168a5bdc94564f4cc0", func := "arraylang/arraylanglaw27.RadixSays", spec := "radixSays", unfollowed := true, recurses := true, loops := true, apart := false, narrowed := true }
def RadixSaysUptoSaid : Prop := radixSaysUptoRow.holds Try.pinned (OpenSpec.upto radixSaysSpec)

/-- 'arraylanglaw27.RadixBack', WHERE WHAT IT READS IS OF BULK AT MOST 1048576: true; the input reads as it did. -/
def radixBackUptoRow : OpenClaim := { program := "ytmpjnjhiklaofaa", sum := "94e0347a8e56823b957d5cad5647d1285bfaabb71340c0168a5bdc94564f4cc0", func := "arraylang/arraylanglaw27.RadixBack", spec := "radixBack", unfollowed := true, recurses := true, apart := false, narrowed := true }
def RadixBackUptoSaid : Prop := radixBackUptoRow.holds Try.pinned (OpenSpec.upto radixBackSpec)

/-- 'arraylanglaw27.RadixColumns', WHERE WHAT IT READS IS OF BULK AT MOST 1048576: true; the input reads as it did. -/
def radixColumnsUptoRow : OpenClaim := { program := "ytmpjnjhiklaofaa", sum := "94e0347a8e56823b957d5cad5647d1285bfaabb71340c0168a5bdc94564f4cc0", func := "arraylang/arraylanglaw27.RadixColumns", spec := "radixColumns", unfollowed := true, recurses := true, apart := false, narrowed := true }
def RadixColumnsUptoSaid : Prop := radixColumnsUptoRow.holds Try.pinned (OpenSpec.upto radixColumnsSpec)

/-- 'arraylanglaw06.OrderCompare', WHERE WHAT IT READS IS OF BULK AT MOST 1048576: true; the input reads as it did. -/
def orderCompareUptoRow : OpenClaim := { program := "ytmpjnjhiklaofaa", sum := "94e0347a8e56823b957d5cad5647d1285bfaabb71340c0168a5bdc94564f4cc0", func := "arraylang/arraylanglaw06.OrderCompare", spec := "orderCompare", unfollowed := true, recurses := true, loops := true, apart := false, narrowed := true }
def OrderCompareUptoSaid : Prop := orderCompareUptoRow.holds Try.pinned (OpenSpec.upto orderCompareSpec)

/-- 'arraylanglaw06.OrderEqual', WHERE WHAT IT READS IS OF BULK AT MOST 1048576: true; the input reads as it did. -/
def orderEqualUptoRow : OpenClaim := { program := "ytmpjnjhiklaofaa", sum := "94e0347a8e56823b957d5cad5647d1285bfaabb71340c0168a5bdc94564f4cc0", func := "arraylang/arraylanglaw06.OrderEqual", spec := "orderEqual", unfollowed := true, recurses := true, loops := true, apart := false, narrowed := true }
def OrderEqualUptoSaid : Prop := orderEqualUptoRow.holds Try.pinned (OpenSpec.upto orderEqualSpec)

/-- 'arraylanglaw06.OrderChain', WHERE WHAT IT READS IS OF BULK AT MOST 1048576: true; the input reads as it did. -/
def orderChainUptoRow : OpenClaim := { program := "ytmpjnjhiklaofaa", sum := "94e0347a8e56823b957d5cad5647d1285bfaabb71340c0168a5bdc94564f4cc0", func := "arraylang/arraylanglaw06.OrderChain", spec := "orderChain", unfollowed := true, recurses := true, loops := true, apart := false, narrowed := true }
def OrderChainUptoSaid : Prop := orderChainUptoRow.holds Try.pinned (OpenSpec.upto orderChainSpec)

/-- 'arraylanglaw06.OrderSorted', WHERE WHAT IT READS IS OF BULK AT MOST 1048576: true; the input reads as it did. -/
def orderSortedUptoRow : OpenClaim := { program := "ytmpjnjhiklaofaa", sum := "94e0347a8e56823b957d5cad5647d1285bfaabb71340c0168a5bdc94564f4cc0", func := "arraylang/arraylanglaw06.OrderSorted", spec := "orderSorted", unfollowed := true, recurses := true, loops := true, apart := false, narrowed := true }
def OrderSortedUptoSaid : Prop := orderSortedUptoRow.holds Try.pinned (OpenSpec.upto orderSortedSpec)

/-- 'arraylanglaw06.OrderVectors', WHERE WHAT IT READS IS OF BULK AT MOST 1048576: true; the input reads as it did. -/
def orderVectorsUptoRow : OpenClaim := { program := "ytmpjnjhiklaofaa", sum := "94e0347a8e56823b957d5cad5647d1285bfaabb71340c0168a5bdc94564f4cc0", func := "arraylang/arraylanglaw06.OrderVectors", spec := "orderVectors", unfollowed := true, recurses := true, apart := false, narrowed := true }
def OrderVectorsUptoSaid : Prop := orderVectorsUptoRow.holds Try.pinned (OpenSpec.upto orderVectorsSpec)

/-- 'arraylanglaw04.CellSays', WHERE WHAT IT READS IS OF BULK AT MOST 1048576: true; the input reads as it did. -/
def cellSaysUptoRow : OpenClaim := { program := "ytmpjnjhiklaofaa", sum := "94e0347a8e56823b957d5cad5647d1285bfaabb71340c0168a5bdc94564f4cc0", func := "arraylang/arraylanglaw04.CellSays", spec := "cellSays", unfollowed := true, recurses := true, loops := true, apart := false, narrowed := true }
def CellSaysUptoSaid : Prop := cellSaysUptoRow.holds Try.pinned (OpenSpec.upto cellSaysSpec)

/-- 'arraylanglaw04.CellJoins', WHERE WHAT IT READS IS OF BULK AT MOST 1048576: true; the input reads as it did. -/
def cellJoinsUptoRow : OpenClaim := { program := "ytmpjnjhiklaofaa", sum := "94e0347a8e56823b957d5cad5647d1285bfaabb71340c0168a5bdc94564f4cc0", func := "arraylang/arraylanglaw04.CellJoins", spec := "cellJoins", unfollowed := true, recurses := true, loops := true, apart := false, narrowed := true }
def CellJoinsUptoSaid : Prop := cellJoinsUptoRow.holds Try.pinned (OpenSpec.upto cellJoinsSpec)

/-- 'arraylanglaw04.CellBack', WHERE WHAT IT READS IS OF BULK AT MOST 1048576: true; the input reads as it did. -/
def cellBackUptoRow : OpenClaim := { program := "ytmpjnjhiklaofaa", sum := "94e0347a8e56823b957d5cad5647d1285bfaabb71340c0168a5bdc94564f4cc0", func := "arraylang/arraylanglaw04.CellBack", spec := "cellBack", unfollowed := true, recurses := true, loops := true, apart := false, narrowed := true }
def CellBackUptoSaid : Prop := cellBackUptoRow.holds Try.pinned (OpenSpec.upto cellBackSpec)

/-- 'arraylanglaw04.CellKeeps', WHERE WHAT IT READS IS OF BULK AT MOST 1048576: true; the input reads as it did. -/
def cellKeepsUptoRow : OpenClaim := { program := "ytmpjnjhiklaofaa", sum := "94e0347a8e56823b957d5cad5647d1285bfaabb71340c0168a5bdc94564f4cc0", func := "arraylang/arraylanglaw04.CellKeeps", spec := "cellKeeps", unfollowed := true, recurses := true, loops := true, apart := false, narrowed := true }
def CellKeepsUptoSaid : Prop := cellKeepsUptoRow.holds Try.pinned (OpenSpec.upto cellKeepsSpec)

end Rows
end Go.Proofs.Ytmpjnjhiklaofaa
