/-
  NARROWER THAN 'FOR EVERY INPUT', by the rows' own cells (each row's printed sentence says how): FramesCopy: loops · FramesOuter: loops · FramesRun: loops · TransposingSays: loops · TransposingBack: loops · TakingTake: loops · TakingDrop: loops · TakingParts: loops · TakingAll: loops.
  DERIVED. THE GIVEN ROWS OF THIS SEAT. 11 by the template 'for every input the law returns true; each argument reads behind the call as it read before'; 0 by the template 'total and deterministic' (their statements: YtcmnlnamgnbemaaTotals.lean).
  GIVEN WITH THE SEED: the statements are not yours to turn. If you find one false, say at which input.
  Laid BY PROGRAM, IN A SANDBOX (cutbox-rows.mjs): the forced cells as the released guide's own fill.sh prints them over the translation 4927a35256421b73… (all of the seat's roots in one cut). By AI agents, Wed Nov 11 2026. No macro, syntax, notation, axiom, sorry.
-/
import Derived.Test.YtcmnlnamgnbemaaChecked
import GoSem.Claim
import GoSem.ClaimJoined
import GoSem.ClaimMapViews
import Derived.JoinedTies
import Derived.KernelRfl
namespace Go.Proofs.Ytcmnlnamgnbemaa
/- THE CELL 'sum', in the pinned program and in every row, IS THE sha256 OF THE DUMP (.gsa) THAT YtcmnlnamgnbemaaProg.lean LOADS. Nothing in Lean hashes anything: it is a label: what it is worth is what the hold of that sum in a sandbox is worth. -/
noncomputable def Try.pinned : Pinned := { name := "ytcmnlnamgnbemaa", sum := "4927a35256421b73748c4d06eb798d8f8bd272636932bf12bdc81c8c51c00f82", checked := Try.checked }
namespace Rows
def none {H : Type} : Left H := { results := [], args := [] }

/-- 'arraylanglaw39.FramesCopy': WHATEVER THE INPUT: true; the input reads as it did. -/
def framesCopySpec : ChangeSpec := { name := "framesCopy", fn := fun _ => fun
  | [d] => { results := [.lit (.bool true)], args := [d] }
  | _ => none }
def framesCopyRow : OpenClaim := { program := "ytcmnlnamgnbemaa", sum := "4927a35256421b73748c4d06eb798d8f8bd272636932bf12bdc81c8c51c00f82", func := "arraylang/arraylanglaw39.FramesCopy", spec := "framesCopy", unfollowed := true, recurses := true, loops := true, apart := false }
def FramesCopySaid : Prop := framesCopyRow.holds Try.pinned (OpenSpec.ofChange framesCopySpec)

/-- ITS FALSE NEIGHBOUR: 'it returns false'. Refute it at one input. -/
def framesCopyWrong : ChangeSpec := { name := "framesCopy", fn := fun _ => fun
  | [d] => { results := [.lit (.bool false)], args := [d] }
  | _ => none }
def FramesCopyWrongFalsely : Prop := framesCopyRow.holds Try.pinned (OpenSpec.ofChange framesCopyWrong)

/-- 'arraylanglaw39.FramesLimits': WHATEVER THE INPUT: true; the input reads as it did. -/
def framesLimitsSpec : ChangeSpec := { name := "framesLimits", fn := fun _ => fun
  | [d] => { results := [.lit (.bool true)], args := [d] }
  | _ => none }
def framesLimitsRow : OpenClaim := { program := "ytcmnlnamgnbemaa", sum := "4927a35256421b73748c4d06eb798d8f8bd272636932bf12bdc81c8c51c00f82", func := "arraylang/arraylanglaw39.FramesLimits", spec := "framesLimits", unfollowed := true, recurses := true, apart := false }
def FramesLimitsSaid : Prop := framesLimitsRow.holds Try.pinned (OpenSpec.ofChange framesLimitsSpec)

/-- ITS FALSE NEIGHBOUR: 'it returns false'. Refute it at one input. -/
def framesLimitsWrong : ChangeSpec := { name := "framesLimits", fn := fun _ => fun
  | [d] => { results := [.lit (.bool false)], args := [d] }
  | _ => none }
def FramesLimitsWrongFalsely : Prop := framesLimitsRow.holds Try.pinned (OpenSpec.ofChange framesLimitsWrong)

/-- 'arraylanglaw39.FramesOuter': WHATEVER THE INPUT: true; the input reads as it did. -/
def framesOuterSpec : ChangeSpec := { name := "framesOuter", fn := fun _ => fun
  | [d1, d2, d3] => { results := [.lit (.bool true)], args := [d1, d2, d3] }
  | _ => none }
def framesOuterRow : OpenClaim := { program := "ytcmnlnamgnbemaa", sum := "4927a35256421b73748c4d06eb798d8f8bd272636932bf12bdc81c8c51c00f82", func := "arraylang/arraylanglaw39.FramesOuter", spec := "framesOuter", unfollowed := true, recurses := true, loops := true, apart := false }
def FramesOuterSaid : Prop := framesOuterRow.holds Try.pinned (OpenSpec.ofChange framesOuterSpec)

/-- ITS FALSE NEIGHBOUR: 'it returns false'. Refute it at one input. -/
def framesOuterWrong : ChangeSpec := { name := "framesOuter", fn := fun _ => fun
  | [d1, d2, d3] => { results := [.lit (.bool false)], args := [d1, d2, d3] }
  | _ => none }
def FramesOuterWrongFalsely : Prop := framesOuterRow.holds Try.pinned (OpenSpec.ofChange framesOuterWrong)

/-- 'arraylanglaw39.FramesRun': WHATEVER THE INPUT: true; the input reads as it did. -/
def framesRunSpec : ChangeSpec := { name := "framesRun", fn := fun _ => fun
  | [d] => { results := [.lit (.bool true)], args := [d] }
  | _ => none }
def framesRunRow : OpenClaim := { program := "ytcmnlnamgnbemaa", sum := "4927a35256421b73748c4d06eb798d8f8bd272636932bf12bdc81c8c51c00f82", func := "arraylang/arraylanglaw39.FramesRun", spec := "framesRun", unfollowed := true, recurses := true, loops := true, apart := false }
def FramesRunSaid : Prop := framesRunRow.holds Try.pinned (OpenSpec.ofChange framesRunSpec)

/-- ITS FALSE NEIGHBOUR: 'it returns false'. Refute it at one input. -/
def framesRunWrong : ChangeSpec := { name := "framesRun", fn := fun _ => fun
  | [d] => { results := [.lit (.bool false)], args := [d] }
  | _ => none }
def FramesRunWrongFalsely : Prop := framesRunRow.holds Try.pinned (OpenSpec.ofChange framesRunWrong)

/-- 'arraylanglaw21.TransposingSays': WHATEVER THE INPUT: true; the input reads as it did. -/
def transposingSaysSpec : ChangeSpec := { name := "transposingSays", fn := fun _ => fun
  | [d1, d2] => { results := [.lit (.bool true)], args := [d1, d2] }
  | _ => none }
def transposingSaysRow : OpenClaim := { program := "ytcmnlnamgnbemaa", sum := "4927a35256421b73748c4d06eb798d8f8bd272636932bf12bdc81c8c51c00f82", func := "arraylang/arraylanglaw21.TransposingSays", spec := "transposingSays", unfollowed := true, recurses := true, loops := true, apart := false }
def TransposingSaysSaid : Prop := transposingSaysRow.holds Try.pinned (OpenSpec.ofChange transposingSaysSpec)

/-- ITS FALSE NEIGHBOUR: 'it returns false'. Refute it at one input. -/
def transposingSaysWrong : ChangeSpec := { name := "transposingSays", fn := fun _ => fun
  | [d1, d2] => { results := [.lit (.bool false)], args := [d1, d2] }
  | _ => none }
def TransposingSaysWrongFalsely : Prop := transposingSaysRow.holds Try.pinned (OpenSpec.ofChange transposingSaysWrong)

/-- 'arraylanglaw21.TransposingBack': WHATEVER THE INPUT: true; the input reads as it did. -/
def transposingBackSpec : ChangeSpec := { name := "transposingBack", fn := fun _ => fun
  | [d1, d2] => { results := [.lit (.bool true)], args := [d1, d2] }
  | _ => none }
def transposingBackRow : OpenClaim := { program := "ytcmnlnamgnbemaa", sum := "4927a35256421b73748c4d06eb798d8f8bd272636932bf12bdc81c8c51c00f82", func := "arraylang/arraylanglaw21.TransposingBack", spec := "transposingBack", unfollowed := true, recurses := true, loops := true, apart := false }
def TransposingBackSaid : Prop := transposingBackRow.holds Try.pinned (OpenSpec.ofChange transposingBackSpec)

/-- ITS FALSE NEIGHBOUR: 'it returns false'. Refute it at one input. -/
def transposingBackWrong : ChangeSpec := { name := "transposingBack", fn := fun _ => fun
  | [d1, d2] => { results := [.lit (.bool false)], args := [d1, d2] }
  | _ => none }
def TransposingBackWrongFalsely : Prop := transposingBackRow.holds Try.pinned (OpenSpec.ofChange transposingBackWrong)

/-- 'arraylanglaw21.TransposingDiagonal': WHATEVER THE INPUT: true; the input reads as it did. -/
def transposingDiagonalSpec : ChangeSpec := { name := "transposingDiagonal", fn := fun _ => fun
  | [d1, d2, d3] => { results := [.lit (.bool true)], args := [d1, d2, d3] }
  | _ => none }
def transposingDiagonalRow : OpenClaim := { program := "ytcmnlnamgnbemaa", sum := "4927a35256421b73748c4d06eb798d8f8bd272636932bf12bdc81c8c51c00f82", func := "arraylang/arraylanglaw21.TransposingDiagonal", spec := "transposingDiagonal", unfollowed := true, recurses := true, apart := false }
def TransposingDiagonalSaid : Prop := transposingDiagonalRow.holds Try.pinned (OpenSpec.ofChange transposingDiagonalSpec)

/-- ITS FALSE NEIGHBOUR: 'it returns false'. Refute it at one input. -/
def transposingDiagonalWrong : ChangeSpec := { name := "transposingDiagonal", fn := fun _ => fun
  | [d1, d2, d3] => { results := [.lit (.bool false)], args := [d1, d2, d3] }
  | _ => none }
def TransposingDiagonalWrongFalsely : Prop := transposingDiagonalRow.holds Try.pinned (OpenSpec.ofChange transposingDiagonalWrong)

/-- 'arraylanglaw19.TakingTake': WHATEVER THE INPUT: true; the input reads as it did. -/
def takingTakeSpec : ChangeSpec := { name := "takingTake", fn := fun _ => fun
  | [d1, d2] => { results := [.lit (.bool true)], args := [d1, d2] }
  | _ => none }
def takingTakeRow : OpenClaim := { program := "ytcmnlnamgnbemaa", sum := "4927a35256421b73748c4d06eb798d8f8bd272636932bf12bdc81c8c51c00f82", func := "arraylang/arraylanglaw19.TakingTake", spec := "takingTake", unfollowed := true, recurses := true, loops := true, apart := false }
def TakingTakeSaid : Prop := takingTakeRow.holds Try.pinned (OpenSpec.ofChange takingTakeSpec)

/-- ITS FALSE NEIGHBOUR: 'it returns false'. Refute it at one input. -/
def takingTakeWrong : ChangeSpec := { name := "takingTake", fn := fun _ => fun
  | [d1, d2] => { results := [.lit (.bool false)], args := [d1, d2] }
  | _ => none }
def TakingTakeWrongFalsely : Prop := takingTakeRow.holds Try.pinned (OpenSpec.ofChange takingTakeWrong)

/-- 'arraylanglaw19.TakingDrop': WHATEVER THE INPUT: true; the input reads as it did. -/
def takingDropSpec : ChangeSpec := { name := "takingDrop", fn := fun _ => fun
  | [d1, d2] => { results := [.lit (.bool true)], args := [d1, d2] }
  | _ => none }
def takingDropRow : OpenClaim := { program := "ytcmnlnamgnbemaa", sum := "4927a35256421b73748c4d06eb798d8f8bd272636932bf12bdc81c8c51c00f82", func := "arraylang/arraylanglaw19.TakingDrop", spec := "takingDrop", unfollowed := true, recurses := true, loops := true, apart := false }
def TakingDropSaid : Prop := takingDropRow.holds Try.pinned (OpenSpec.ofChange takingDropSpec)

/-- ITS FALSE NEIGHBOUR: 'it returns false'. Refute it at one input. -/
def takingDropWrong : ChangeSpec := { name := "takingDrop", fn := fun _ => fun
  | [d1, d2] => { results := [.lit (.bool false)], args := [d1, d2] }
  | _ => none }
def TakingDropWrongFalsely : Prop := takingDropRow.holds Try.pinned (OpenSpec.ofChange takingDropWrong)

/-- 'arraylanglaw19.TakingParts': WHATEVER THE INPUT: true; the input reads as it did. -/
def takingPartsSpec : ChangeSpec := { name := "takingParts", fn := fun _ => fun
  | [d1, d2] => { results := [.lit (.bool true)], args := [d1, d2] }
  | _ => none }
def takingPartsRow : OpenClaim := { program := "ytcmnlnamgnbemaa", sum := "4927a35256421b73748c4d06eb798d8f8bd272636932bf12bdc81c8c51c00f82", func := "arraylang/arraylanglaw19.TakingParts", spec := "takingParts", unfollowed := true, recurses := true, loops := true, apart := false }
def TakingPartsSaid : Prop := takingPartsRow.holds Try.pinned (OpenSpec.ofChange takingPartsSpec)

/-- ITS FALSE NEIGHBOUR: 'it returns false'. Refute it at one input. -/
def takingPartsWrong : ChangeSpec := { name := "takingParts", fn := fun _ => fun
  | [d1, d2] => { results := [.lit (.bool false)], args := [d1, d2] }
  | _ => none }
def TakingPartsWrongFalsely : Prop := takingPartsRow.holds Try.pinned (OpenSpec.ofChange takingPartsWrong)

/-- 'arraylanglaw19.TakingAll': WHATEVER THE INPUT: true; the input reads as it did. -/
def takingAllSpec : ChangeSpec := { name := "takingAll", fn := fun _ => fun
  | [d1, d2, d3] => { results := [.lit (.bool true)], args := [d1, d2, d3] }
  | _ => none }
def takingAllRow : OpenClaim := { program := "ytcmnlnamgnbemaa", sum := "4927a35256421b73748c4d06eb798d8f8bd272636932bf12bdc81c8c51c00f82", func := "arraylang/arraylanglaw19.TakingAll", spec := "takingAll", unfollowed := true, recurses := true, loops := true, apart := false }
def TakingAllSaid : Prop := takingAllRow.holds Try.pinned (OpenSpec.ofChange takingAllSpec)

/-- ITS FALSE NEIGHBOUR: 'it returns false'. Refute it at one input. -/
def takingAllWrong : ChangeSpec := { name := "takingAll", fn := fun _ => fun
  | [d1, d2, d3] => { results := [.lit (.bool false)], args := [d1, d2, d3] }
  | _ => none }
def TakingAllWrongFalsely : Prop := takingAllRow.holds Try.pinned (OpenSpec.ofChange takingAllWrong)

/- THE SECOND FORM. 'bulk': how many values and letters a reading holds, each counted each time it is reached (what is shared counts as often as it is met; a slice's spare places count too). A statement '..UptoSaid' is the law's where the arguments, and the package variables that the reading takes, are together of bulk at most 1048576: NARROWER than '..Said'. Prove '..Said' where nothing that the law and all that it calls make is longer than what came in: it says more and counts as full. Else prove '..UptoSaid'. A law counts once. -/
mutual
def uptoBulk {H : Type} : DataW H → Nat
  | .lit (.string bytes) => bytes.length + 1
  | .lit _ => 1
  | .nil => 1
  | .ptr d => uptoBulk d + 1
  | .slice elems spare => uptoBulkAll elems + uptoBulkAll spare + 1
  | .agg parts => uptoBulkAll parts + 1
  | .iface _ d => uptoBulk d + 1
  | .map entries => uptoBulkEntries entries + 1
  | .held _ => 1
def uptoBulkAll {H : Type} : List (DataW H) → Nat
  | [] => 0
  | d :: r => uptoBulk d + uptoBulkAll r
def uptoBulkEntries {H : Type} : List (Lit × DataW H) → Nat
  | [] => 0
  | x :: r => uptoBulkEntry x + uptoBulkEntries r
def uptoBulkEntry {H : Type} : Lit × DataW H → Nat
  | (.string bytes, d) => bytes.length + uptoBulk d + 1
  | (_, d) => uptoBulk d + 1
 end
def uptoSmall : (H : Type) → List (DataW H) → Bool := fun _ ds => decide (uptoBulkAll ds ≤ 1048576)
def OpenSpec.upto (s : _root_.Go.ChangeSpec) : _root_.Go.OpenSpec := { _root_.Go.OpenSpec.ofChange s with cond := some uptoSmall }

/-- 'arraylanglaw39.FramesCopy', WHERE WHAT IT READS IS OF BULK AT MOST 1048576: true; the input reads as it did. -/
def framesCopyUptoRow : OpenClaim := { program := "ytcmnlnamgnbemaa", sum := "4927a35256421b73748c4d06eb798d8f8bd272636932bf12bdc81c8c51c00f82", func := "arraylang/arraylanglaw39.FramesCopy", spec := "framesCopy", unfollowed := true, recurses := true, loops := true, apart := false, narrowed := true }
def FramesCopyUptoSaid : Prop := framesCopyUptoRow.holds Try.pinned (OpenSpec.upto framesCopySpec)

/-- 'arraylanglaw39.FramesLimits', WHERE WHAT IT READS IS OF BULK AT MOST 1048576: true; the input reads as it did. -/
def framesLimitsUptoRow : OpenClaim := { program := "ytcmnlnamgnbemaa", sum := "4927a35256421b73748c4d06eb798d8f8bd272636932bf12bdc81c8c51c00f82", func := "arraylang/arraylanglaw39.FramesLimits", spec := "framesLimits", unfollowed := true, recurses := true, apart := false, narrowed := true }
def FramesLimitsUptoSaid : Prop := framesLimitsUptoRow.holds Try.pinned (OpenSpec.upto framesLimitsSpec)

/-- 'arraylanglaw39.FramesOuter', WHERE WHAT IT READS IS OF BULK AT MOST 1048576: true; the input reads as it did. -/
def framesOuterUptoRow : OpenClaim := { program := "ytcmnlnamgnbemaa", sum := "4927a35256421b73748c4d06eb798d8f8bd272636932bf12bdc81c8c51c00f82", func := "arraylang/arraylanglaw39.FramesOuter", spec := "framesOuter", unfollowed := true, recurses := true, loops := true, apart := false, narrowed := true }
def FramesOuterUptoSaid : Prop := framesOuterUptoRow.holds Try.pinned (OpenSpec.upto framesOuterSpec)

/-- 'arraylanglaw39.FramesRun', WHERE WHAT IT READS IS OF BULK AT MOST 1048576: true; the input reads as it did. -/
def framesRunUptoRow : OpenClaim := { program := "ytcmnlnamgnbemaa", sum := "4927a35256421b73748c4d06eb798d8f8bd272636932bf12bdc81c8c51c00f82", func := "arraylang/arraylanglaw39.FramesRun", spec := "framesRun", unfollowed := true, recurses := true, loops := true, apart := false, narrowed := true }
def FramesRunUptoSaid : Prop := framesRunUptoRow.holds Try.pinned (OpenSpec.upto framesRunSpec)

/-- 'arraylanglaw21.TransposingSays', WHERE WHAT IT READS IS OF BULK AT MOST 1048576: true; the input reads as it did. -/
def transposingSaysUptoRow : OpenClaim := { program := "ytcmnlnamgnbemaa", sum := "4927a35256421b73748c4d06eb798d8f8bd272636932bf12bdc81c8c51c00f82", func := "arraylang/arraylanglaw21.TransposingSays", spec := "transposingSays", unfollowed := true, recurses := true, loops := true, apart := false, narrowed := true }
def TransposingSaysUptoSaid : Prop := transposingSaysUptoRow.holds Try.pinned (OpenSpec.upto transposingSaysSpec)

/-- 'arraylanglaw21.TransposingBack', WHERE WHAT IT READS IS OF BULK AT MOST 1048576: true; the input reads as it did. -/
def transposingBackUptoRow : OpenClaim := { program := "ytcmnlnamgnbemaa", sum := "4927a35256421b73748c4d06eb798d8f8bd272636932bf12bdc81c8c51c00f82", func := "arraylang/arraylanglaw21.TransposingBack", spec := "transposingBack", unfollowed := true, recurses := true, loops := true, apart := false, narrowed := true }
def TransposingBackUptoSaid : Prop := transposingBackUptoRow.holds Try.pinned (OpenSpec.upto transposingBackSpec)

/-- 'arraylanglaw21.TransposingDiagonal', WHERE WHAT IT READS IS OF BULK AT MOST 1048576: true; the input reads as it did. -/
def transposingDiagonalUptoRow : OpenClaim := { program := "ytcmnlnamgnbemaa", sum := "4927a35256421b73748c4d06eb798d8f8bd272636932bf12bdc81c8c51c00f82", func := "arraylang/arraylanglaw21.TransposingDiagonal", spec := "transposingDiagonal", unfollowed := true, recurses := true, apart := false, narrowed := true }
def TransposingDiagonalUptoSaid : Prop := transposingDiagonalUptoRow.holds Try.pinned (OpenSpec.upto transposingDiagonalSpec)

/-- 'arraylanglaw19.TakingTake', WHERE WHAT IT READS IS OF BULK AT MOST 1048576: true; the input reads as it did. -/
def takingTakeUptoRow : OpenClaim := { program := "ytcmnlnamgnbemaa", sum := "4927a35256421b73748c4d06eb798d8f8bd272636932bf12bdc81c8c51c00f82", func := "arraylang/arraylanglaw19.TakingTake", spec := "takingTake", unfollowed := true, recurses := true, loops := true, apart := false, narrowed := true }
def TakingTakeUptoSaid : Prop := takingTakeUptoRow.holds Try.pinned (OpenSpec.upto takingTakeSpec)

/-- 'arraylanglaw19.TakingDrop', WHERE WHAT IT READS IS OF BULK AT MOST 1048576: true; the input reads as it did. -/
def takingDropUptoRow : OpenClaim := { program := "ytcmnlnamgnbemaa", sum := "4927a35256421b73748c4d06eb798d8f8bd272636932bf12bdc81c8c51c00f82", func := "arraylang/arraylanglaw19.TakingDrop", spec := "takingDrop", unfollowed := true, recurses := true, loops := true, apart := false, narrowed := true }
def TakingDropUptoSaid : Prop := takingDropUptoRow.holds Try.pinned (OpenSpec.upto takingDropSpec)

/-- 'arraylanglaw19.TakingParts', WHERE WHAT IT READS IS OF BULK AT MOST 1048576: true; the input reads as it did. -/
def takingPartsUptoRow : OpenClaim := { program := "ytcmnlnamgnbemaa", sum := "4927a35256421b73748c4d06eb798d8f8bd272636932bf12bdc81c8c51c00f82", func := "arraylang/arraylanglaw19.TakingParts", spec := "takingParts", unfollowed := true, recurses := true, loops := true, apart := false, narrowed := true }
def TakingPartsUptoSaid : Prop := takingPartsUptoRow.holds Try.pinned (OpenSpec.upto takingPartsSpec)

/-- 'arraylanglaw19.TakingAll', WHERE WHAT IT READS IS OF BULK AT MOST 1048576: true; the input reads as it did. -/
def takingAllUptoRow : OpenClaim := { program := "ytcmnlnamgnbemaa", sum := "4927a35256421b73748c4d06eb798d8f8bd272636932bf12bdc81c8c51c00f82", func := "arraylang/arraylanglaw19.TakingAll", spec := "takingAll", unfollowed := true, recurses := true, loops := true, apart := false, narrowed := true }
def TakingAllUptoSaid : Prop := takingAllUptoRow.holds Try.pinned (OpenSpec.upto takingAllSpec)

end Rows
end Go.Proofs.Ytcmnlnamgnbemaa
