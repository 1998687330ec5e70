/-
  NARROWER THAN 'FOR EVERY INPUT', by the rows' own cells (each row's printed sentence says how): FramesCopy: loops · FramesOuter: loops · FramesRun: loops · GradingSays: loops · GradingOrder: loops · OrderCompare: loops · OrderSorted: loops · SearchingFind: loops · SearchingIn: loops · SearchingUnique: loops · SearchingWhere: loops.
  DERIVED. THE GIVEN ROWS OF THIS SEAT. 14 by the template 'for every input the law returns true; each argument reads behind the call as it read before'; 0 by the template 'total and deterministic' (their statements: YtgkemmdghmklfaaTotals.lean).
  GIVEN WITH THE SEED: the statements are not yours to turn. If you find one false, say at which input.
  Laid BY PROGRAM, IN A SANDBOX (cutbox-rows.mjs): the forced cells as the released guide's own fill.sh prints them over the translation 49ac1ec9f870be35… (all of the seat's roots in one cut). By AI agents, Wed Nov 11 2026. No macro, syntax, notation, axiom, sorry.
-/
import Derived.Test.YtgkemmdghmklfaaChecked
import GoSem.Claim
import GoSem.ClaimJoined
import GoSem.ClaimMapViews
import Derived.JoinedTies
import Derived.KernelRfl
namespace Go.Proofs.Ytgkemmdghmklfaa
/- THE CELL 'sum', in the pinned program and in every row, IS THE sha256 OF THE DUMP (.gsa) THAT YtgkemmdghmklfaaProg.lean LOADS. Nothing in Lean hashes anything: it is a label: what it is worth is what the hold of that sum in a sandbox is worth. -/
noncomputable def Try.pinned : Pinned := { name := "ytgkemmdghmklfaa", sum := "49ac1ec9f870be35fe967473be2bfba09aa4f3f655fc34feb305af754e126857", checked := Try.checked }
namespace Rows
def none {H : Type} : Left H := { results := [], args := [] }

/-- 'arraylanglaw39.FramesCopy': WHATEVER THE INPUT: true; the input reads as it did. -/
def framesCopySpec : ChangeSpec := { name := "framesCopy", fn := fun _ => fun
  | [d] => { results := [.lit (.bool true)], args := [d] }
  | _ => none }
def framesCopyRow : OpenClaim := { program := "ytgkemmdghmklfaa", sum := "49ac1ec9f870be35fe967473be2bfba09aa4f3f655fc34feb305af754e126857", func := "arraylang/arraylanglaw39.FramesCopy", spec := "framesCopy", unfollowed := true, recurses := true, loops := true, apart := false }
def FramesCopySaid : Prop := framesCopyRow.holds Try.pinned (OpenSpec.ofChange framesCopySpec)

/-- ITS FALSE NEIGHBOUR: 'it returns false'. Refute it at one input. -/
def framesCopyWrong : ChangeSpec := { name := "framesCopy", fn := fun _ => fun
  | [d] => { results := [.lit (.bool false)], args := [d] }
  | _ => none }
def FramesCopyWrongFalsely : Prop := framesCopyRow.holds Try.pinned (OpenSpec.ofChange framesCopyWrong)

/-- 'arraylanglaw39.FramesLimits': WHATEVER THE INPUT: true; the input reads as it did. -/
def framesLimitsSpec : ChangeSpec := { name := "framesLimits", fn := fun _ => fun
  | [d] => { results := [.lit (.bool true)], args := [d] }
  | _ => none }
def framesLimitsRow : OpenClaim := { program := "ytgkemmdghmklfaa", sum := "49ac1ec9f870be35fe967473be2bfba09aa4f3f655fc34feb305af754e126857", func := "arraylang/arraylanglaw39.FramesLimits", spec := "framesLimits", unfollowed := true, recurses := true, apart := false }
def FramesLimitsSaid : Prop := framesLimitsRow.holds Try.pinned (OpenSpec.ofChange framesLimitsSpec)

/-- ITS FALSE NEIGHBOUR: 'it returns false'. Refute it at one input. -/
def framesLimitsWrong : ChangeSpec := { name := "framesLimits", fn := fun _ => fun
  | [d] => { results := [.lit (.bool false)], args := [d] }
  | _ => none }
def FramesLimitsWrongFalsely : Prop := framesLimitsRow.holds Try.pinned (OpenSpec.ofChange framesLimitsWrong)

/-- 'arraylanglaw39.FramesOuter': WHATEVER THE INPUT: true; the input reads as it did. -/
def framesOuterSpec : ChangeSpec := { name := "framesOuter", fn := fun _ => fun
  | [d1, d2, d3] => { results := [.lit (.bool true)], args := [d1, d2, d3] }
  | _ => none }
def framesOuterRow : OpenClaim := { program := "ytgkemmdghmklfaa", sum := "49ac1ec9f870be35fe967473be2bfba09aa4f3f655fc34feb305af754e126857", func := "arraylang/arraylanglaw39.FramesOuter", spec := "framesOuter", unfollowed := true, recurses := true, loops := true, apart := false }
def FramesOuterSaid : Prop := framesOuterRow.holds Try.pinned (OpenSpec.ofChange framesOuterSpec)

/-- ITS FALSE NEIGHBOUR: 'it returns false'. Refute it at one input. -/
def framesOuterWrong : ChangeSpec := { name := "framesOuter", fn := fun _ => fun
  | [d1, d2, d3] => { results := [.lit (.bool false)], args := [d1, d2, d3] }
  | _ => none }
def FramesOuterWrongFalsely : Prop := framesOuterRow.holds Try.pinned (OpenSpec.ofChange framesOuterWrong)

/-- 'arraylanglaw39.FramesRun': WHATEVER THE INPUT: true; the input reads as it did. -/
def framesRunSpec : ChangeSpec := { name := "framesRun", fn := fun _ => fun
  | [d] => { results := [.lit (.bool true)], args := [d] }
  | _ => none }
def framesRunRow : OpenClaim := { program := "ytgkemmdghmklfaa", sum := "49ac1ec9f870be35fe967473be2bfba09aa4f3f655fc34feb305af754e126857", func := "arraylang/arraylanglaw39.FramesRun", spec := "framesRun", unfollowed := true, recurses := true, loops := true, apart := false }
def FramesRunSaid : Prop := framesRunRow.holds Try.pinned (OpenSpec.ofChange framesRunSpec)

/-- ITS FALSE NEIGHBOUR: 'it returns false'. Refute it at one input. -/
def framesRunWrong : ChangeSpec := { name := "framesRun", fn := fun _ => fun
  | [d] => { results := [.lit (.bool false)], args := [d] }
  | _ => none }
def FramesRunWrongFalsely : Prop := framesRunRow.holds Try.pinned (OpenSpec.ofChange framesRunWrong)

/-- 'arraylanglaw27.RadixColumns': WHATEVER THE INPUT: true; the input reads as it did. -/
def radixColumnsSpec : ChangeSpec := { name := "radixColumns", fn := fun _ => fun
  | [d1, d2] => { results := [.lit (.bool true)], args := [d1, d2] }
  | _ => none }
def radixColumnsRow : OpenClaim := { program := "ytgkemmdghmklfaa", sum := "49ac1ec9f870be35fe967473be2bfba09aa4f3f655fc34feb305af754e126857", func := "arraylang/arraylanglaw27.RadixColumns", spec := "radixColumns", unfollowed := true, recurses := true, apart := false }
def RadixColumnsSaid : Prop := radixColumnsRow.holds Try.pinned (OpenSpec.ofChange radixColumnsSpec)

/-- ITS FALSE NEIGHBOUR: 'it returns false'. Refute it at one input. -/
def radixColumnsWrong : ChangeSpec := { name := "radixColumns", fn := fun _ => fun
  | [d1, d2] => { results := [.lit (.bool false)], args := [d1, d2] }
  | _ => none }
def RadixColumnsWrongFalsely : Prop := radixColumnsRow.holds Try.pinned (OpenSpec.ofChange radixColumnsWrong)

/-- 'arraylanglaw24.GradingSays': WHATEVER THE INPUT: true; the input reads as it did. -/
def gradingSaysSpec : ChangeSpec := { name := "gradingSays", fn := fun _ => fun
  | [d] => { results := [.lit (.bool true)], args := [d] }
  | _ => none }
def gradingSaysRow : OpenClaim := { program := "ytgkemmdghmklfaa", sum := "49ac1ec9f870be35fe967473be2bfba09aa4f3f655fc34feb305af754e126857", func := "arraylang/arraylanglaw24.GradingSays", spec := "gradingSays", unfollowed := true, recurses := true, loops := true, apart := false }
def GradingSaysSaid : Prop := gradingSaysRow.holds Try.pinned (OpenSpec.ofChange gradingSaysSpec)

/-- ITS FALSE NEIGHBOUR: 'it returns false'. Refute it at one input. -/
def gradingSaysWrong : ChangeSpec := { name := "gradingSays", fn := fun _ => fun
  | [d] => { results := [.lit (.bool false)], args := [d] }
  | _ => none }
def GradingSaysWrongFalsely : Prop := gradingSaysRow.holds Try.pinned (OpenSpec.ofChange gradingSaysWrong)

/-- 'arraylanglaw24.GradingOrder': WHATEVER THE INPUT: true; the input reads as it did. -/
def gradingOrderSpec : ChangeSpec := { name := "gradingOrder", fn := fun _ => fun
  | [d] => { results := [.lit (.bool true)], args := [d] }
  | _ => none }
def gradingOrderRow : OpenClaim := { program := "ytgkemmdghmklfaa", sum := "49ac1ec9f870be35fe967473be2bfba09aa4f3f655fc34feb305af754e126857", func := "arraylang/arraylanglaw24.GradingOrder", spec := "gradingOrder", unfollowed := true, recurses := true, loops := true, apart := false }
def GradingOrderSaid : Prop := gradingOrderRow.holds Try.pinned (OpenSpec.ofChange gradingOrderSpec)

/-- ITS FALSE NEIGHBOUR: 'it returns false'. Refute it at one input. -/
def gradingOrderWrong : ChangeSpec := { name := "gradingOrder", fn := fun _ => fun
  | [d] => { results := [.lit (.bool false)], args := [d] }
  | _ => none }
def GradingOrderWrongFalsely : Prop := gradingOrderRow.holds Try.pinned (OpenSpec.ofChange gradingOrderWrong)

/-- 'arraylanglaw24.GradingSorts': WHATEVER THE INPUT: true; the input reads as it did. -/
def gradingSortsSpec : ChangeSpec := { name := "gradingSorts", fn := fun _ => fun
  | [d1, d2] => { results := [.lit (.bool true)], args := [d1, d2] }
  | _ => none }
def gradingSortsRow : OpenClaim := { program := "ytgkemmdghmklfaa", sum := "49ac1ec9f870be35fe967473be2bfba09aa4f3f655fc34feb305af754e126857", func := "arraylang/arraylanglaw24.GradingSorts", spec := "gradingSorts", unfollowed := true, recurses := true, apart := false }
def GradingSortsSaid : Prop := gradingSortsRow.holds Try.pinned (OpenSpec.ofChange gradingSortsSpec)

/-- ITS FALSE NEIGHBOUR: 'it returns false'. Refute it at one input. -/
def gradingSortsWrong : ChangeSpec := { name := "gradingSorts", fn := fun _ => fun
  | [d1, d2] => { results := [.lit (.bool false)], args := [d1, d2] }
  | _ => none }
def GradingSortsWrongFalsely : Prop := gradingSortsRow.holds Try.pinned (OpenSpec.ofChange gradingSortsWrong)

/-- 'arraylanglaw06.OrderCompare': WHATEVER THE INPUT: true; the input reads as it did. -/
def orderCompareSpec : ChangeSpec := { name := "orderCompare", fn := fun _ => fun
  | [d1, d2] => { results := [.lit (.bool true)], args := [d1, d2] }
  | _ => none }
def orderCompareRow : OpenClaim := { program := "ytgkemmdghmklfaa", sum := "49ac1ec9f870be35fe967473be2bfba09aa4f3f655fc34feb305af754e126857", func := "arraylang/arraylanglaw06.OrderCompare", spec := "orderCompare", unfollowed := true, recurses := true, loops := true, apart := false }
def OrderCompareSaid : Prop := orderCompareRow.holds Try.pinned (OpenSpec.ofChange orderCompareSpec)

/-- ITS FALSE NEIGHBOUR: 'it returns false'. Refute it at one input. -/
def orderCompareWrong : ChangeSpec := { name := "orderCompare", fn := fun _ => fun
  | [d1, d2] => { results := [.lit (.bool false)], args := [d1, d2] }
  | _ => none }
def OrderCompareWrongFalsely : Prop := orderCompareRow.holds Try.pinned (OpenSpec.ofChange orderCompareWrong)

/-- 'arraylanglaw06.OrderSorted': WHATEVER THE INPUT: true; the input reads as it did. -/
def orderSortedSpec : ChangeSpec := { name := "orderSorted", fn := fun _ => fun
  | [d] => { results := [.lit (.bool true)], args := [d] }
  | _ => none }
def orderSortedRow : OpenClaim := { program := "ytgkemmdghmklfaa", sum := "49ac1ec9f870be35fe967473be2bfba09aa4f3f655fc34feb305af754e126857", func := "arraylang/arraylanglaw06.OrderSorted", spec := "orderSorted", unfollowed := true, recurses := true, loops := true, apart := false }
def OrderSortedSaid : Prop := orderSortedRow.holds Try.pinned (OpenSpec.ofChange orderSortedSpec)

/-- ITS FALSE NEIGHBOUR: 'it returns false'. Refute it at one input. -/
def orderSortedWrong : ChangeSpec := { name := "orderSorted", fn := fun _ => fun
  | [d] => { results := [.lit (.bool false)], args := [d] }
  | _ => none }
def OrderSortedWrongFalsely : Prop := orderSortedRow.holds Try.pinned (OpenSpec.ofChange orderSortedWrong)

/-- 'arraylanglaw25.SearchingFind': WHATEVER THE INPUT: true; the input reads as it did. -/
def searchingFindSpec : ChangeSpec := { name := "searchingFind", fn := fun _ => fun
  | [d1, d2] => { results := [.lit (.bool true)], args := [d1, d2] }
  | _ => none }
def searchingFindRow : OpenClaim := { program := "ytgkemmdghmklfaa", sum := "49ac1ec9f870be35fe967473be2bfba09aa4f3f655fc34feb305af754e126857", func := "arraylang/arraylanglaw25.SearchingFind", spec := "searchingFind", unfollowed := true, recurses := true, loops := true, apart := false }
def SearchingFindSaid : Prop := searchingFindRow.holds Try.pinned (OpenSpec.ofChange searchingFindSpec)

/-- ITS FALSE NEIGHBOUR: 'it returns false'. Refute it at one input. -/
def searchingFindWrong : ChangeSpec := { name := "searchingFind", fn := fun _ => fun
  | [d1, d2] => { results := [.lit (.bool false)], args := [d1, d2] }
  | _ => none }
def SearchingFindWrongFalsely : Prop := searchingFindRow.holds Try.pinned (OpenSpec.ofChange searchingFindWrong)

/-- 'arraylanglaw25.SearchingIn': WHATEVER THE INPUT: true; the input reads as it did. -/
def searchingInSpec : ChangeSpec := { name := "searchingIn", fn := fun _ => fun
  | [d1, d2] => { results := [.lit (.bool true)], args := [d1, d2] }
  | _ => none }
def searchingInRow : OpenClaim := { program := "ytgkemmdghmklfaa", sum := "49ac1ec9f870be35fe967473be2bfba09aa4f3f655fc34feb305af754e126857", func := "arraylang/arraylanglaw25.SearchingIn", spec := "searchingIn", unfollowed := true, recurses := true, loops := true, apart := false }
def SearchingInSaid : Prop := searchingInRow.holds Try.pinned (OpenSpec.ofChange searchingInSpec)

/-- ITS FALSE NEIGHBOUR: 'it returns false'. Refute it at one input. -/
def searchingInWrong : ChangeSpec := { name := "searchingIn", fn := fun _ => fun
  | [d1, d2] => { results := [.lit (.bool false)], args := [d1, d2] }
  | _ => none }
def SearchingInWrongFalsely : Prop := searchingInRow.holds Try.pinned (OpenSpec.ofChange searchingInWrong)

/-- 'arraylanglaw25.SearchingUnique': WHATEVER THE INPUT: true; the input reads as it did. -/
def searchingUniqueSpec : ChangeSpec := { name := "searchingUnique", fn := fun _ => fun
  | [d] => { results := [.lit (.bool true)], args := [d] }
  | _ => none }
def searchingUniqueRow : OpenClaim := { program := "ytgkemmdghmklfaa", sum := "49ac1ec9f870be35fe967473be2bfba09aa4f3f655fc34feb305af754e126857", func := "arraylang/arraylanglaw25.SearchingUnique", spec := "searchingUnique", unfollowed := true, recurses := true, loops := true, apart := false }
def SearchingUniqueSaid : Prop := searchingUniqueRow.holds Try.pinned (OpenSpec.ofChange searchingUniqueSpec)

/-- ITS FALSE NEIGHBOUR: 'it returns false'. Refute it at one input. -/
def searchingUniqueWrong : ChangeSpec := { name := "searchingUnique", fn := fun _ => fun
  | [d] => { results := [.lit (.bool false)], args := [d] }
  | _ => none }
def SearchingUniqueWrongFalsely : Prop := searchingUniqueRow.holds Try.pinned (OpenSpec.ofChange searchingUniqueWrong)

/-- 'arraylanglaw25.SearchingWhere': WHATEVER THE INPUT: true; the input reads as it did. -/
def searchingWhereSpec : ChangeSpec := { name := "searchingWhere", fn := fun _ => fun
  | [d] => { results := [.lit (.bool true)], args := [d] }
  | _ => none }
def searchingWhereRow : OpenClaim := { program := "ytgkemmdghmklfaa", sum := "49ac1ec9f870be35fe967473be2bfba09aa4f3f655fc34feb305af754e126857", func := "arraylang/arraylanglaw25.SearchingWhere", spec := "searchingWhere", unfollowed := true, recurses := true, loops := true, apart := false }
def SearchingWhereSaid : Prop := searchingWhereRow.holds Try.pinned (OpenSpec.ofChange searchingWhereSpec)

/-- ITS FALSE NEIGHBOUR: 'it returns false'. Refute it at one input. -/
def searchingWhereWrong : ChangeSpec := { name := "searchingWhere", fn := fun _ => fun
  | [d] => { results := [.lit (.bool false)], args := [d] }
  | _ => none }
def SearchingWhereWrongFalsely : Prop := searchingWhereRow.holds Try.pinned (OpenSpec.ofChange searchingWhereWrong)

/- THE SECOND FORM. 'bulk': how many values and letters a reading holds, each counted each time it is reached (what is shared counts as often as it is met; a slice's spare places count too). A statement '..UptoSaid' is the law's where the arguments, and the package variables that the reading takes, are together of bulk at most 1048576: NARROWER than '..Said'. Prove '..Said' where nothing that the law and all that it calls make is longer than what came in: it says more and counts as full. Else prove '..UptoSaid'. A law counts once. -/
mutual
def uptoBulk {H : Type} : DataW H → Nat
  | .lit (.string bytes) => bytes.length + 1
  | .lit _ => 1
  | .nil => 1
  | .ptr d => uptoBulk d + 1
  | .slice elems spare => uptoBulkAll elems + uptoBulkAll spare + 1
  | .agg parts => uptoBulkAll parts + 1
  | .iface _ d => uptoBulk d + 1
  | .map entries => uptoBulkEntries entries + 1
  | .held _ => 1
def uptoBulkAll {H : Type} : List (DataW H) → Nat
  | [] => 0
  | d :: r => uptoBulk d + uptoBulkAll r
def uptoBulkEntries {H : Type} : List (Lit × DataW H) → Nat
  | [] => 0
  | x :: r => uptoBulkEntry x + uptoBulkEntries r
def uptoBulkEntry {H : Type} : Lit × DataW H → Nat
  | (.string bytes, d) => bytes.length + uptoBulk d + 1
  | (_, d) => uptoBulk d + 1
 end
def uptoSmall : (H : Type) → List (DataW H) → Bool := fun _ ds => decide (uptoBulkAll ds ≤ 1048576)
def OpenSpec.upto (s : _root_.Go.ChangeSpec) : _root_.Go.OpenSpec := { _root_.Go.OpenSpec.ofChange s with cond := some uptoSmall }

/-- 'arraylanglaw39.FramesCopy', WHERE WHAT IT READS IS OF BULK AT MOST 1048576: true; the input reads as it did. -/
def framesCopyUptoRow : OpenClaim := { program := "ytgkemmdghmklfaa", sum := "49ac1ec9f870be35fe967473be2bfba09aa4f3f655fc34feb305af754e126857", func := "arraylang/arraylanglaw39.FramesCopy", spec := "framesCopy", unfollowed := true, recurses := true, loops := true, apart := false, narrowed := true }
def FramesCopyUptoSaid : Prop := framesCopyUptoRow.holds Try.pinned (OpenSpec.upto framesCopySpec)

/-- 'arraylanglaw39.FramesLimits', WHERE WHAT IT READS IS OF BULK AT MOST 1048576: true; the input reads as it did. -/
def framesLimitsUptoRow : OpenClaim := { program := "ytgkemmdghmklfaa", sum := "49ac1ec9f870be35fe967473be2bfba09aa4f3f655fc34feb305af754e126857", func := "arraylang/arraylanglaw39.FramesLimits", spec := "framesLimits", unfollowed := true, recurses := true, apart := false, narrowed := true }
def FramesLimitsUptoSaid : Prop := framesLimitsUptoRow.holds Try.pinned (OpenSpec.upto framesLimitsSpec)

/-- 'arraylanglaw39.FramesOuter', WHERE WHAT IT READS IS OF BULK AT MOST 1048576: true; the input reads as it did. -/
def framesOuterUptoRow : OpenClaim := { program := "ytgkemmdghmklfaa", sum := "49ac1ec9f870be35fe967473be2bfba09aa4f3f655fc34feb305af754e126857", func := "arraylang/arraylanglaw39.FramesOuter", spec := "framesOuter", unfollowed := true, recurses := true, loops := true, apart := false, narrowed := true }
def FramesOuterUptoSaid : Prop := framesOuterUptoRow.holds Try.pinned (OpenSpec.upto framesOuterSpec)

/-- 'arraylanglaw39.FramesRun', WHERE WHAT IT READS IS OF BULK AT MOST 1048576: true; the input reads as it did. -/
def framesRunUptoRow : OpenClaim := { program := "ytgkemmdghmklfaa", sum := "49ac1ec9f870be35fe967473be2bfba09aa4f3f655fc34feb305af754e126857", func := "arraylang/arraylanglaw39.FramesRun", spec := "framesRun", unfollowed := true, recurses := true, loops := true, apart := false, narrowed := true }
def FramesRunUptoSaid : Prop := framesRunUptoRow.holds Try.pinned (OpenSpec.upto framesRunSpec)

/-- 'arraylanglaw27.RadixColumns', WHERE WHAT IT READS IS OF BULK AT MOST 1048576: true; the input reads as it did. -/
def radixColumnsUptoRow : OpenClaim := { program := "ytgkemmdghmklfaa", sum := "49ac1ec9f870be35fe967473be2bfba09aa4f3f655fc34feb305af754e126857", func := "arraylang/arraylanglaw27.RadixColumns", spec := "radixColumns", unfollowed := true, recurses := true, apart := false, narrowed := true }
def RadixColumnsUptoSaid : Prop := radixColumnsUptoRow.holds Try.pinned (OpenSpec.upto radixColumnsSpec)

/-- 'arraylanglaw24.GradingSays', WHERE WHAT IT READS IS OF BULK AT MOST 1048576: true; the input reads as it did. -/
def gradingSaysUptoRow : OpenClaim := { program := "ytgkemmdghmklfaa", sum := "49ac1ec9f870be35fe967473be2bfba09aa4f3f655fc34feb305af754e126857", func := "arraylang/arraylanglaw24.GradingSays", spec := "gradingSays", unfollowed := true, recurses := true, loops := true, apart := false, narrowed := true }
def GradingSaysUptoSaid : Prop := gradingSaysUptoRow.holds Try.pinned (OpenSpec.upto gradingSaysSpec)

/-- 'arraylanglaw24.GradingOrder', WHERE WHAT IT READS IS OF BULK AT MOST 1048576: true; the input reads as it did. -/
def gradingOrderUptoRow : OpenClaim := { program := "ytgkemmdghmklfaa", sum := "49ac1ec9f870be35fe967473be2bfba09aa4f3f655fc34feb305af754e126857", func := "arraylang/arraylanglaw24.GradingOrder", spec := "gradingOrder", unfollowed := true, recurses := true, loops := true, apart := false, narrowed := true }
def GradingOrderUptoSaid : Prop := gradingOrderUptoRow.holds Try.pinned (OpenSpec.upto gradingOrderSpec)

/-- 'arraylanglaw24.GradingSorts', WHERE WHAT IT READS IS OF BULK AT MOST 1048576: true; the input reads as it did. -/
def gradingSortsUptoRow : OpenClaim := { program := "ytgkemmdghmklfaa", sum := "49ac1ec9f870be35fe967473be2bfba09aa4f3f655fc34feb305af754e126857", func := "arraylang/arraylanglaw24.GradingSorts", spec := "gradingSorts", unfollowed := true, recurses := true, apart := false, narrowed := true }
def GradingSortsUptoSaid : Prop := gradingSortsUptoRow.holds Try.pinned (OpenSpec.upto gradingSortsSpec)

/-- 'arraylanglaw06.OrderCompare', WHERE WHAT IT READS IS OF BULK AT MOST 1048576: true; the input reads as it did. -/
def orderCompareUptoRow : OpenClaim := { program := "ytgkemmdghmklfaa", sum := "49ac1ec9f870be35fe967473be2bfba09aa4f3f655fc34feb305af754e126857", func := "arraylang/arraylanglaw06.OrderCompare", spec := "orderCompare", unfollowed := true, recurses := true, loops := true, apart := false, narrowed := true }
def OrderCompareUptoSaid : Prop := orderCompareUptoRow.holds Try.pinned (OpenSpec.upto orderCompareSpec)

/-- 'arraylanglaw06.OrderSorted', WHERE WHAT IT READS IS OF BULK AT MOST 1048576: true; the input reads as it did. -/
def orderSortedUptoRow : OpenClaim := { program := "ytgkemmdghmklfaa", sum := "49ac1ec9f870be35fe967473be2bfba09aa4f3f655fc34feb305af754e126857", func := "arraylang/arraylanglaw06.OrderSorted", spec := "orderSorted", unfollowed := true, recurses := true, loops := true, apart := false, narrowed := true }
def OrderSortedUptoSaid : Prop := orderSortedUptoRow.holds Try.pinned (OpenSpec.upto orderSortedSpec)

/-- 'arraylanglaw25.SearchingFind', WHERE WHAT IT READS IS OF BULK AT MOST 1048576: true; the input reads as it did. -/
def searchingFindUptoRow : OpenClaim := { program := "ytgkemmdghmklfaa", sum := "49ac1ec9f870be35fe967473be2bfba09aa4f3f655fc34feb305af754e126857", func := "arraylang/arraylanglaw25.SearchingFind", spec := "searchingFind", unfollowed := true, recurses := true, loops := true, apart := false, narrowed := true }
def SearchingFindUptoSaid : Prop := searchingFindUptoRow.holds Try.pinned (OpenSpec.upto searchingFindSpec)

/-- 'arraylanglaw25.SearchingIn', WHERE WHAT IT READS IS OF BULK AT MOST 1048576: true; the input reads as it did. -/
def searchingInUptoRow : OpenClaim := { program := "ytgkemmdghmklfaa", sum := "49ac1ec9f870be35fe967473be2bfba09aa4f3f655fc34feb305af754e126857", func := "arraylang/arraylanglaw25.SearchingIn", spec := "searchingIn", unfollowed := true, recurses := true, loops := true, apart := false, narrowed := true }
def SearchingInUptoSaid : Prop := searchingInUptoRow.holds Try.pinned (OpenSpec.upto searchingInSpec)

/-- 'arraylanglaw25.SearchingUnique', WHERE WHAT IT READS IS OF BULK AT MOST 1048576: true; the input reads as it did. -/
def searchingUniqueUptoRow : OpenClaim := { program := "ytgkemmdghmklfaa", sum := "49ac1ec9f870be35fe967473be2bfba09aa4f3f655fc34feb305af754e126857", func := "arraylang/arraylanglaw25.SearchingUnique", spec := "searchingUnique", unfollowed := true, recurses := true, loops := true, apart := false, narrowed := true }
def SearchingUniqueUptoSaid : Prop := searchingUniqueUptoRow.holds Try.pinned (OpenSpec.upto searchingUniqueSpec)

/-- 'arraylanglaw25.SearchingWhere', WHERE WHAT IT READS IS OF BULK AT MOST 1048576: true; the input reads as it did. -/
def searchingWhereUptoRow : OpenClaim := { program := "ytgkemmdghmklfaa", sum := "49ac1ec9f870be35fe967473be2bfba09aa4f3f655fc34feb305af754e126857", func := "arraylang/arraylanglaw25.SearchingWhere", spec := "searchingWhere", unfollowed := true, recurses := true, loops := true, apart := false, narrowed := true }
def SearchingWhereUptoSaid : Prop := searchingWhereUptoRow.holds Try.pinned (OpenSpec.upto searchingWhereSpec)

end Rows
end Go.Proofs.Ytgkemmdghmklfaa
