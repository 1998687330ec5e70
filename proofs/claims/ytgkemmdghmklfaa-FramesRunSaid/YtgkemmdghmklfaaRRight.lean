/-
  The reference's Right, as the program's (a corollary).
-/
import Derived.Test.YtgkemmdghmklfaaRLaw
namespace Go.Proofs.Ytgkemmdghmklfaa
set_option linter.unusedSimpArgs false
set_option linter.unusedVariables false
open Go.RowKit

theorem rright6_any (F : Nat → Prop) (t : Arr) (c0 c1 c2 c3 : Value) (w : World) (h : ArrAt F w t c0 c1 c2 c3) :
    Calls Try.prog 18 #[.agg #[c0, c1, c2, c3]] w fun e w' => e = .returned (.int .i64 (rightV t)) ∧ Ext w w' := by
  have h1 := r3right_any F t c0 c1 c2 c3 w h
  rw [rright_eq] at h1
  exact h1
end Go.Proofs.Ytgkemmdghmklfaa
