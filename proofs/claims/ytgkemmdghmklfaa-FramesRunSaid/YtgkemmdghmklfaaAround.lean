/-
  frames.around: THE FRAMES FROM THE INSIDE TO THE OUTSIDE, WITH THEIR NUMBERS: the iterator's contract.
-/
import Derived.Test.YtgkemmdghmklfaaBridge
import Derived.Test.YtgkemmdghmklfaaShape
namespace Go.Proofs.Ytgkemmdghmklfaa
set_option linter.unusedSimpArgs false
set_option linter.unusedVariables false
open Go.RowKit Go.Shelf
attribute [local go_sem] Oper.semAt_some

/-- The blocks of the frames from p on, each below n₀: the third cell leads to the next. -/
def IsChain (n₀ : Nat) (W : World) : Option Addr → List Nat → Prop
  | p, [] => p = none
  | p, b :: r => ∃ q : Option Addr, p = some ⟨b, 0, none⟩ ∧ b < n₀ ∧ W.cell? ⟨b, 2, none⟩ = some (.pointer q) ∧ IsChain n₀ W q r
theorem IsChain.below {n₀ : Nat} {A B : World} (h : Below n₀ A B) : ∀ {p : Option Addr} {xs : List Nat}, IsChain n₀ A p xs → IsChain n₀ B p xs
  | _, [], hl => hl
  | _, _ :: _, ⟨q, hp, hb, hq, hr⟩ => ⟨q, hp, hb, (h.cell (p := ⟨_, 2, none⟩) hb).trans hq, IsChain.below h hr⟩
theorem IsChain.unique {n₀ : Nat} {W : World} : ∀ {p : Option Addr} {xs ys : List Nat}, IsChain n₀ W p xs → IsChain n₀ W p ys → xs = ys
  | _, [], [], _, _ => rfl
  | _, [], _ :: _, h, ⟨_, hp, _⟩ => by rw [h] at hp; cases hp
  | _, _ :: _, [], ⟨_, hp, _⟩, h => by rw [h] at hp; cases hp
  | _, x :: xs, y :: ys, ⟨q, hp, _, hq, hr⟩, ⟨q', hp', _, hq', hr'⟩ => by
    rw [hp] at hp'; cases hp'
    rw [hq] at hq'; cases hq'
    rw [IsChain.unique hr hr']
open Classical in
/-- How many frames are still to come. -/
noncomputable def chainLeft (n₀ : Nat) (W : World) (v : Value) : Nat :=
  if h : ∃ r : Option Addr × List Nat, v = .pointer r.1 ∧ IsChain n₀ W r.1 r.2 then (Classical.choose h).2.length else 0
theorem chainLeft_eq {n₀ : Nat} {W : World} {q : Option Addr} {xs : List Nat} (h : IsChain n₀ W q xs) : chainLeft n₀ W (.pointer q) = xs.length := by
  have hex : ∃ r : Option Addr × List Nat, Value.pointer q = .pointer r.1 ∧ IsChain n₀ W r.1 r.2 := ⟨(q, xs), rfl, h⟩
  unfold chainLeft
  rw [dif_pos hex]
  obtain ⟨e, hl⟩ := Classical.choose_spec hex
  have e' : q = (Classical.choose hex).1 := by simpa using e
  rw [← e'] at hl
  rw [IsChain.unique hl h]
/-- The frames' numbers. -/
def numFrom : Nat → List Nat → List (Nat × Nat)
  | _, [] => []
  | i, b :: r => (i, b) :: numFrom (i + 1) r
theorem numFrom_len : ∀ (i : Nat) (l : List Nat), (numFrom i l).length = l.length
  | _, [] => rfl
  | i, _ :: r => by simp [numFrom, numFrom_len (i + 1) r]
theorem numFrom_get : ∀ (i : Nat) (l : List Nat) (j : Nat) (h : j < l.length), (numFrom i l)[j]? = some (i + j, l[j])
  | _, [], _, h => by simp at h
  | i, b :: r, 0, _ => by simp [numFrom]
  | i, b :: r, j + 1, h => by
    have := numFrom_get (i + 1) r j (by simpa using h)
    simp only [numFrom, List.getElem?_cons_succ, this, List.getElem_cons_succ, Option.some.injEq, Prod.mk.injEq, and_true]
    omega
/-- A frame of the chain with its number. -/
abbrev FrNo (bs : List Nat) := { x : Nat × Nat // x ∈ numFrom 0 bs }
abbrev encFr {bs : List Nat} (x : FrNo bs) : Array Value := #[.int .i64 (x.1.1 : Int), .pointer (some ⟨x.1.2, 0, none⟩)]
def valsFr {bs : List Nat} (l : List (FrNo bs)) : List (Nat × Nat) := l.map Subtype.val
theorem valsFr_snoc {bs : List Nat} (l : List (FrNo bs)) (x : FrNo bs) : valsFr (l ++ [x]) = valsFr l ++ [x.1] := by simp [valsFr]
theorem valsFr_len {bs : List Nat} (l : List (FrNo bs)) : (valsFr l).length = l.length := by simp [valsFr]

set_option maxRecDepth 100000 in
set_option maxHeartbeats 1000000 in
theorem around1_in (n : Nat) (hn : 1 ≤ n) (l Bn n₀ : Nat) (p0 : Option Addr) (bs : List Nat) (hbs : bs.length ≤ 1000000) (J Jx : List (FrNo bs) → World → Prop)
    (hY : ∀ pre x W, J pre W → pre.length < (numFrom 0 bs).length → YieldAt Fence.wide (n - 1) Try.prog l (encFr x) W fun e W' =>
      (e = .returned (.bool true) ∧ J (pre ++ [x]) W' ∧ Below n₀ W W') ∨ (e = .returned (.bool false) ∧ Jx (pre ++ [x]) W'))
    (W : World) (hBn : W.cell? ⟨Bn, 0, none⟩ = some (.pointer p0)) (hL : IsChain n₀ W p0 bs) (h0 : J [] W) :
    CallsIn Fence.wide n Try.prog 128 #[.func (.yield l) #[] #[], .pointer (some ⟨Bn, 0, none⟩)] W fun e W' => (∃ v, e = .returned v) ∧
      ((∃ ys, valsFr ys = numFrom 0 bs ∧ J ys W') ∨ (∃ pre, valsFr pre <+: numFrom 0 bs ∧ Jx pre W')) := by
  refine callsIn_of_wp Try.func128 rfl trivial ?_ rfl
  simp only [Try.ntmps128, List.size_toArray, List.length_cons, List.length_nil, Nat.reduceAdd, Nat.reduceSub, Array.replicate_succ, Array.replicate_zero, List.push_toArray, List.append_toArray, List.nil_append, List.cons_append]
  gi_wp2
  gi_loopw [3, 4] (fun i p wr => ∃ (pre : List (FrNo bs)) (rest : List Nat) (q : Option Addr), i = .int .i64 (pre.length : Int) ∧ p = .pointer q ∧ numFrom 0 bs = valsFr pre ++ numFrom pre.length rest ∧ IsChain n₀ wr q rest ∧ J pre wr)
    (fun _ p wr => chainLeft n₀ wr p)
  case atStart =>
    exact ⟨[], bs, p0, rfl, rfl, rfl, hL, h0⟩
  case round =>
    obtain ⟨pre, rest, q, rfl, rfl, hx, hl, hJs⟩ := hrel
    cases rest with
    | nil =>
      obtain rfl : q = none := hl
      gi_wp2
      go_end0
      exact ⟨⟨_, rfl⟩, .inl ⟨pre, by rw [hx]; simp [numFrom], hJs⟩⟩
    | cons b rest =>
      have hl' := hl
      obtain ⟨q', rfl, hb, hq, hr⟩ := hl
      have hlen : pre.length < (numFrom 0 bs).length := by rw [hx]; simp [numFrom, valsFr_len]
      have hmem : (pre.length, b) ∈ numFrom 0 bs := by rw [hx]; simp [numFrom]
      have hlb : pre.length < 1000000 := by rw [numFrom_len] at hlen; omega
      obtain ⟨fn, tmps, assign, body, hy, hR⟩ := hY pre ⟨(pre.length, b), hmem⟩ wr hJs hlen
      have HX := Lib.hid hx
      clear hx
      gi_wp2
      refine hR.mono ?_
      rintro e W3 (⟨rfl, hJ3, hk3⟩ | ⟨rfl, hJx3⟩)
      · have hq3 : W3.cell? ⟨b, 2, none⟩ = some (.pointer q') := (hk3.cell (p := ⟨b, 2, none⟩) hb).trans hq
        gi_wp2
        go_roundw
        case rel => exact ⟨pre ++ [⟨(pre.length, b), hmem⟩], rest, q', by simp, rfl, by rw [valsFr_snoc]; exact HX.out.trans (by simp [numFrom]), hr.below hk3, hJ3⟩
        case measure => rw [chainLeft_eq (hr.below hk3), chainLeft_eq hl']; simp
      · gi_wp2
        refine bodyPost_ret (results_none rfl _ _ _) rfl ?_
        exact ⟨⟨_, rfl⟩, .inr ⟨pre ++ [⟨(pre.length, b), hmem⟩], ⟨numFrom (pre.length + 1) rest, by rw [valsFr_snoc]; exact Eq.trans (by simp [numFrom]) HX.out.symm⟩, hJx3⟩⟩

set_option maxHeartbeats 1000000 in
theorem around_in (n : Nat) (p0 : Option Addr) (w : World) :
    CallsIn Fence.wide n Try.prog 72 #[.pointer p0] w fun e w' => e = .returned (.func (.func 128) #[] #[.pointer (some ⟨w.heap.size, 0, none⟩)]) ∧ w' = w.alloc (.cells #[.pointer p0] 32) := by
  refine callsIn_of_wp Try.func72 rfl trivial ?_ rfl
  simp only [Try.ntmps72, List.size_toArray, List.length_cons, List.length_nil, Nat.reduceAdd, Nat.reduceSub, Array.replicate_succ, Array.replicate_zero, List.push_toArray, List.append_toArray, List.nil_append, List.cons_append]
  gi_wp2
  go_ret
  exact ⟨rfl, rfl⟩

theorem around_stops (n : Nat) (hn : 1 ≤ n) (Bn n₀ : Nat) (p0 : Option Addr) (bs : List Nat) (hbs : bs.length ≤ 1000000) (w : World) (hBn : Bn < w.heap.size) (hn₀ : n₀ ≤ w.heap.size)
    (hc : w.cell? ⟨Bn, 0, none⟩ = some (.pointer p0)) (hL : IsChain n₀ w p0 bs) :
    SeqStopsK Fence.wide n Try.prog 128 #[.pointer (some ⟨Bn, 0, none⟩)] (encFr (bs := bs)) (Below n₀) (fun ys => valsFr ys = numFrom 0 bs) (fun pre => valsFr pre <+: numFrom 0 bs) (numFrom 0 bs).length w := fun l J Jx W hW _ _ hY h0 =>
  around1_in n hn l Bn n₀ p0 bs hbs J Jx hY W ((hW.cell (p := ⟨Bn, 0, none⟩) hBn).trans hc) (hL.below (hW.mono hn₀)) h0
theorem cell_of_box_l {W : World} {B : Nat} {v : Value} {t : TypeId} (h : W.heap[B]? = some (.cells #[v] t (0, 0))) : W.cell? ⟨B, 0, none⟩ = some v ∧ W.frozen? ⟨B, 0, none⟩ = false := by
  constructor <;> simp [World.cell?, World.frozen?, h]
theorem cell_new_l (W : World) (v : Value) (t : TypeId) : (W.alloc (.cells #[v] t)).cell? ⟨W.heap.size, 0, none⟩ = some v ∧ (W.alloc (.cells #[v] t)).frozen? ⟨W.heap.size, 0, none⟩ = false :=
  cell_of_box_l (World.alloc_heap_new W _)
theorem cell_alloc_l {W : World} {a : Addr} {v : Value} (o : Obj) (h : W.cell? a = some v) : (W.alloc o).cell? a = some v := cell_kept h (World.grownBy_alloc W o none) (fun r e => by cases e)
theorem frozen_alloc_l {W : World} {a : Addr} {v : Value} (o : Obj) (h : W.cell? a = some v) (hf : W.frozen? a = false) : (W.alloc o).frozen? a = false := (frozen_kept h (World.grownBy_alloc W o none) (fun r e => by cases e)).trans hf
end Go.Proofs.Ytgkemmdghmklfaa
