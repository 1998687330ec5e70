/-
  FROM THE PLAIN WALK TO THE WALK IN A ROUND of a range over a function: a region that has no defer statement, walked plainly and left by the plain way alone, is walked in the round. No program in sight.
-/
import Derived.Test.YtgkemmdghmklfaaRegX
import Derived.RangeFuncNested
import Derived.RangeFuncBound
import Derived.RangeFuncCalls
import Derived.RangeFuncLeaves
import Derived.Shelf.Abstract
import Derived.Shelf.RegionOpen
import Derived.OwnWalkIn
import Derived.TacticsInMore
import Derived.LoopNIn
import Derived.LoopIn
namespace Go.Proofs.Ytgkemmdghmklfaa
set_option linter.unusedSimpArgs false
set_option linter.unusedVariables false
open Go.RowKit Go.Shelf

def noDefer (o : Oper) : Bool := match o.op with
  | .defer _ => false
  | _ => true
theorem noDefer_spec {o : Oper} (h : noDefer o = true) : ∀ c, o.op ≠ .defer c := fun c e => by
  unfold noDefer at h
  rw [e] at h
  cases h

theorem rows_bridge {l n : Nat} {P : Program} {row : String} {args : Array Value} {w : World} {R : Value → World → Prop} (h : Rows P row args w R) : RowsIn (Fence.wide.inRound l) n P row args w R := fun c cs _ => by
  obtain ⟨v, w', r, s⟩ := h c cs
  exact ⟨v, w', r, stepsIn_wide.2 s⟩

theorem oper_bridge {l n : Nat} {P : Program} {o : Oper} {a : Act} {w : World} {K K' : Act → World → Prop} {R : Act → World → Prop} {Q : Exit → Act → World → Prop} (hnd : noDefer o = true) (hK : ∀ a w, K a w → K' a w) (h : o.wp P a w K (OnlyN R)) :
    o.wpIn (Fence.wide.inRound l) n P a w K' Q := by
  refine ⟨fun _ _ => trivial, ?_⟩
  rw [Oper.semAt_eq _ _ _ (noDefer_spec hnd)]
  unfold Oper.wp at h
  cases hr : (execOp a.eval o).run P w with
  | ok x w' =>
    rw [hr] at h
    cases x with
    | value v => exact hK _ _ h
    | skip => exact hK _ _ h
    | defer d => exact hK _ _ h
    | enter f args =>
      refine ⟨fun h => (by cases h), ?_⟩
      have h1 : Calls P f args w' _ := h
      refine CallsIn.inRound l (callsIn_wide.2 (h1.mono ?_))
      intro e w'' he
      cases e with
      | returned v => exact hK _ _ he
      | panicked c => exact he.elim
      | outgrown => obtain ⟨_, _, hx⟩ := he; exact hx.elim
    | row row args =>
      refine ⟨fun h => (by cases h), ?_⟩
      have h1 : Rows P row args w' _ := h
      exact (rows_bridge h1).mono fun v w'' hx => hK _ _ hx
    | _ => exact h.elim
  | halt x w' =>
    rw [hr] at h
    cases x with
    | panic v => exact h.elim
    | _ => exact h.elim

theorem wpList_bridge {l n : Nat} {P : Program} {ops : Array Oper} {R : Act → World → Prop} {Q : Exit → Act → World → Prop} (hR : ∀ a w, R a w → Q .normal a w) : ∀ (os : List Oper) (a : Act) (w : World), os.all noDefer = true → wpList P ops (OnlyN R) os a w → wpListIn (Fence.wide.inRound l) n P ops Q os a w
  | [], a, w, _, h => hR _ _ h
  | o :: os, a, w, hn, h => by
    simp only [List.all_cons, Bool.and_eq_true] at hn
    unfold wpList at h
    unfold wpListIn
    split
    · rename_i hw
      rw [if_pos hw] at h
      rcases h with h | ⟨_, _, _, h⟩
      · exact oper_bridge hn.1 (fun a w => wpList_bridge hR os a w hn.2) h
      · exact h.elim
    · rename_i hw
      rw [if_neg hw] at h
      exact ⟨fun _ _ => trivial, wpList_bridge hR os _ _ hn.2 h⟩

theorem wpAny_bridge {l n : Nat} {P : Program} {ops : Array Oper} {R : Act → World → Prop} {Q : Exit → Act → World → Prop} (hR : ∀ a w, R a w → Q .normal a w) (hn : ∀ (i : Nat) (o : Oper), ops[i]? = some o → noDefer o = true) :
    ∀ (fuel : Nat) (listed : Array Bool) (a : Act) (w : World), wpAny P .any ops (OnlyN R) fuel listed a w → wpAnyIn (Fence.wide.inRound l) n P .any ops Q fuel listed a w
  | 0, _, _, _, h => ⟨h.1, hR _ _ h.2⟩
  | fuel + 1, listed, a, w, h => by
    refine ⟨fun e => hR _ _ (h.1 e), fun i hi => ?_⟩
    have h2 := h.2 i hi
    unfold wpOp at h2
    unfold wpOpIn
    cases ho : ops[i]? with
    | none =>
      rw [ho] at h2
      exact wpAny_bridge hR hn fuel _ _ _ h2
    | some o =>
      rw [ho] at h2
      dsimp only at h2 ⊢
      split
      · rename_i hw
        rw [if_pos hw] at h2
        rcases h2 with h2 | ⟨_, _, _, h2⟩
        · exact oper_bridge (hn i o ho) (fun a w => wpAny_bridge hR hn fuel _ a w) h2
        · exact h2.elim
      · rename_i hw
        rw [if_neg hw] at h2
        exact ⟨fun _ _ => trivial, wpAny_bridge hR hn fuel _ _ _ h2⟩

theorem all_ops {ops : Array Oper} {p : Oper → Bool} (h : ops.toList.all p = true) : ∀ (i : Nat) (o : Oper), ops[i]? = some o → p o = true := fun i o ho =>
  List.all_eq_true.1 h o (by
    have : ops.toList[i]? = some o := by simpa using ho
    exact List.mem_of_getElem? this)

/-- A region that draws. -/
theorem region_round {l n : Nat} {P : Program} {id : Nat} {ops : Array Oper} {Q : Exit → Act → World → Prop} {a : Act} {w : World} (hm : P.follows .mixedOrders = true) (hn : ops.toList.all noDefer = true)
    (h : wpAny P .any ops (OnlyN (Q .normal)) ops.size (Array.replicate ops.size false) a w.drew) : (Code.region id ops true).wpIn (Fence.wide.inRound l) n P Q a w :=
  wpIn_region_any hm (wpAny_bridge (fun _ _ h => h) (all_ops hn) _ _ _ _ h)
/-- A region that does not. -/
theorem region_round_list {l n : Nat} {P : Program} {id : Nat} {os : List Oper} {Q : Exit → Act → World → Prop} {a : Act} {w : World} (hn : os.all noDefer = true)
    (h : wpList P os.toArray (OnlyN (Q .normal)) os a w) : (Code.region id os.toArray false).wpIn (Fence.wide.inRound l) n P Q a w :=
  wpIn_region_lit (wpList_bridge (fun _ _ h => h) os _ _ hn h)

section
variable {P : Program} {ops : Array Oper} {Q : Exit → Act → World → Prop}
/-- The rule of heads and a tail, in a round. -/
theorem wpIn_region_g {l n id : Nat} {a : Act} {w : World} (H T : List Nat) (S : World → Prop) (hm : P.follows .mixedOrders = true) (hn : ops.toList.all noDefer = true) (hok : gOk .any ops H T = true) (hS : S w.drew)
    (h : wpHead P ops S (fun a' => wpTail P .any ops (OnlyN (Q .normal)) S H T a' w.drew) H a) : (Code.region id ops true).wpIn (Fence.wide.inRound l) n P Q a w := by
  simp only [gOk, Bool.and_eq_true, decide_eq_true_eq] at hok
  obtain ⟨⟨hsel, hlen⟩, hg⟩ := hok
  have h1 := wpAnyG_head (R := Q .normal) (H := H) hsel hS H ops.size (Array.replicate ops.size false) a (fun _ h => h) (by omega) hg h
  exact region_round hm hn (wpAny_of_g _ _ _ _ h1)
/-- A region that draws and only reads, in a round: walked once, in the order of the text. -/
theorem region_round_quiet {l n id : Nat} {a : Act} {w : World} {os : List Oper} (hm : P.follows .mixedOrders = true) (hB : Region.lexB .any os.toArray = true) (hn : os.all noDefer = true)
    (h : wpQuiet P os.toArray (fun w' => ∃ n, w' = w.drewN n) (fun a' => ∀ w', (∃ n, w' = w.drewN n) → Q .normal a' w') os a) : (Code.region id os.toArray true).wpIn (Fence.wide.inRound l) n P Q a w := by
  simp only [Region.lexB, Bool.and_eq_true] at hB
  refine region_round hm (by simpa using hn) (wpAny_of_quiet (C := fun w' => ∃ n, w' = w.drewN n) (Q := fun a' => ∀ w', (∃ n, w' = w.drewN n) → Q .normal a' w') (Q' := OnlyN (Q .normal)) (fun _ w' hw' h => OnlyN.mk (h w' hw')) _ _ _ _ (show ∃ n, w.drew = w.drewN n from ⟨1, rfl⟩) ?_)
  have := wpAnyQ_lex (C := fun w' => ∃ n, w' = w.drewN n) (md := .any) hB.1 os.toArray.toList 0 (Array.replicate os.toArray.size false) a (by simp) (by simpa using hB.2) (by simpa using h)
  simpa using this
end
end Go.Proofs.Ytgkemmdghmklfaa
