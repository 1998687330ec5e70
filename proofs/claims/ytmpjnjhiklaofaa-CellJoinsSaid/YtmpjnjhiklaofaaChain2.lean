/-
  FOR REGIONS WITH A CHAIN: a box apart from the region's own blocks; a struct value around the chain's row.
-/
import Derived.Test.YtmpjnjhiklaofaaChain
import Derived.Test.YtmpjnjhiklaofaaMkB
namespace Go.Proofs.Ytmpjnjhiklaofaa
set_option linter.unusedSimpArgs false
set_option linter.unusedVariables false
open Go.RowKit

/-- A new box that nothing of the region writes. -/
def MProp.boxo (B : Nat) : MProp := ⟨fun X w v => ∃ b, v = .pointer (some ⟨b, 0, none⟩) ∧ Box4 w b (.int .i64 0) (.slice none 0 0) (.slice none 0 0) (.slice none 0 0) ∧ B ≤ b ∧ ¬ X b, fun X X' w w' v e hX h => by
  obtain ⟨b, h1, h2, h3, h4⟩ := h
  refine ⟨b, h1, h2.ext e, h3, fun hx => ?_⟩
  rcases hX.2 b hx with h | h
  · exact h4 h
  · have := h2.lt; omega⟩
theorem zst_boxo (B : Nat) : ZSt (.boxo B) := fun X X' w w' v hc hx h => by
  obtain ⟨b, h1, h2, h3, h4⟩ := h
  refine ⟨b, h1, h2.kept (hc.2 b h2.lt h4), h3, fun hx' => ?_⟩
  have hlt := h2.lt
  rcases hx.2 b hx' with h | h
  · exact h4 h
  · omega
/-- A struct value whose shape is the chain's row. -/
def MProp.chainAgg (B : Nat) (k : Int) (l : List Int) : MProp := ⟨fun X w v => ∃ p c, v = .agg #[.int .i64 k, .slice p l.length c, .slice none 0 0, .slice none 0 0] ∧ ChainRow B X w (.slice p l.length c) l.length l, fun X X' w w' v e hX h => by
  obtain ⟨p, c, h1, h2⟩ := h
  exact ⟨p, c, h1, h2.mono e hX⟩⟩
/-- The chain's row is not the box. -/
theorem ChainRow.apart {B : Nat} {X : Nat → Prop} {w : World} {v : Value} {n b : Nat} {l : List Int} {c0 c1 c2 c3 : Value} (h : ChainRow B X w v n l) (hb : Box4 w b c0 c1 c2 c3) (hx : ¬ X b) : OwnI B (fun q => q = b) w v n l := by
  have h0 := h.own.1
  refine ⟨h0.1, h0.2.1, h0.2.2.1, fun g hg hgb => ?_, h0.2.2.2.2⟩
  subst hgb
  rcases h with ⟨rfl, rfl, g', rfl, hr, _, _⟩ | ⟨_, g', hg', hx'⟩
  · simp only [Value.ownBlock, Option.some.injEq] at hg
    subst hg
    unfold RowI at hr
    unfold Box4 at hb
    rw [hb] at hr
    simp at hr
  · rw [hg] at hg'
    cases hg'
    exact hx hx'
end Go.Proofs.Ytmpjnjhiklaofaa
