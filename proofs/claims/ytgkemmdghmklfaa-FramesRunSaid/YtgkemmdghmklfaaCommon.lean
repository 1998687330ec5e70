/-
  SEAT-INDEPENDENT LEMMAS gathered from law21's and law19's texts (extract.py), for seats that lack transposing and taking.
-/
import Derived.Test.YtgkemmdghmklfaaRLaw
import Derived.Test.YtgkemmdghmklfaaApp2
import Derived.Test.YtgkemmdghmklfaaL04
import Derived.Test.YtgkemmdghmklfaaSame
import Derived.Test.YtgkemmdghmklfaaRegY
namespace Go.Proofs.Ytgkemmdghmklfaa
set_option linter.unusedSimpArgs false
set_option linter.unusedVariables false
open Go.RowKit

theorem nilI (F : Nat → Prop) (w : World) : ∃ p c, Value.slice none 0 0 = .slice p ([] : List Int).length c ∧ SlOk ([] : List Int).length c ∧ IntsAt F w p [] := ⟨none, 0, rfl, ⟨by simp, by simp, by simp⟩, fun i hi => by simp at hi⟩

theorem nilA (F : Nat → Prop) (w : World) : ∃ p c, Value.slice none 0 0 = .slice p ([] : List Arr).length c ∧ ItOk ([] : List Arr).length c ∧ ItemsAt F w p 0 [] := ⟨none, 0, rfl, ⟨by simp, by simp, by simp⟩, by unfold ItemsAt; trivial⟩

theorem RowI.sl {w : World} {g : Nat} {t : List Int} {B : Nat} (h : RowI w g t) (hB : B ≤ g) (hl : t.length ≤ 17592186044416) (hw : ∀ x ∈ t, -9223372036854775808 ≤ x ∧ x ≤ 9223372036854775807) : ∃ p c, Value.slice (some ⟨g, 0, none⟩) t.length t.length = .slice p t.length c ∧ SlOk t.length c ∧ IntsAt (fun b => B ≤ b) w p t :=
  ⟨_, _, rfl, ⟨Nat.le_refl _, by omega, hl⟩, (h.ints hw).mono fun b hb _ => ⟨by omega, rfl⟩⟩


def sLen : Value → Nat
  | .slice _ n _ => n
  | _ => 0

/-- A cell of a row of the call's own; a store into it. -/
theorem OwnI.at {B : Nat} {X : Nat → Prop} {w : World} {p : Option Addr} {c : Nat} {xs : List Int} (h : OwnI B X w (.slice p xs.length c) xs.length xs) {j : Nat} (hj : j < xs.length) :
    ∃ g, p = some ⟨g, 0, none⟩ ∧ B ≤ g ∧ g < w.heap.size ∧ w.cell? ⟨g, j, none⟩ = some (.int .i64 (xs.getD j 0)) ∧ w.frozen? ⟨g, j, none⟩ = false ∧
      ∀ v : Int, -9223372036854775808 ≤ v ∧ v ≤ 9223372036854775807 → OwnI B X (w.setCell ⟨g, j, none⟩ (.int .i64 v)) (.slice p xs.length c) xs.length (xs.set j v) := by
  obtain ⟨k1, k2, k3, k4, k5⟩ := h
  have hl := k3.lt
  obtain ⟨q1, q2⟩ := k3
  rcases q2 with ⟨_, h0⟩ | ⟨g, cap, cur, he, hb, hg, hnc, hcm, hcs, htake⟩
  · omega
  · cases he
    refine ⟨g, rfl, hb, (hl g rfl).2, ?_, frozen_of_row w g j _ _ hg, fun v hv => ⟨List.length_set, k2, ⟨by simp, .inr ⟨g, c, _, rfl, hb, heap_setCell_at hg, hnc, hcm, ?_, ?_⟩⟩, k4, fun x hx => ?_⟩⟩
    · rw [cell_of_row w g j _ _ _ hg]
      have h2 : (cur.toList.take (xs.length * 1))[j]? = (xs.map (Value.int .i64))[j]? := by rw [htake]
      rw [List.getElem?_take, if_pos (by omega)] at h2
      rw [← Array.getElem?_toList, h2]
      simp [List.getD, hj]
    · simp [hcs]
    · rw [List.map_set, ← htake]
      simp only [Nat.mul_one, Array.toList_setIfInBounds, List.take_set]
    · rcases List.mem_or_eq_of_mem_set hx with h | h
      · exact k5 x h
      · rw [h]; exact hv

theorem OwnI.at' {B : Nat} {X : Nat → Prop} {w : World} {p : Option Addr} {n c : Nat} {xs : List Int} (h : OwnI B X w (.slice p n c) n xs) {j : Nat} (hj : j < n) :
    ∃ g, p = some ⟨g, 0, none⟩ ∧ B ≤ g ∧ g < w.heap.size ∧ w.cell? ⟨g, j, none⟩ = some (.int .i64 (xs.getD j 0)) ∧ w.frozen? ⟨g, j, none⟩ = false ∧
      ∀ v : Int, -9223372036854775808 ≤ v ∧ v ≤ 9223372036854775807 → OwnI B X (w.setCell ⟨g, j, none⟩ (.int .i64 v)) (.slice p n c) n (xs.set j v) := by
  have e := h.1
  subst e
  exact h.at hj

theorem getD_mem {l : List Int} {P : Int → Prop} (h : ∀ x ∈ l, P x) {j : Nat} (hj : j < l.length) : P (l.getD j 0) := h _ (by simp [List.getD, hj])

theorem right_ints {s n : List Int} {it : List Arr} (h : rightV (.mk 1 s n it) = 0) : ∀ x ∈ n, -4611686018427387903 ≤ x ∧ x ≤ 4611686018427387903 := by
  unfold rightV visitV at h
  split at h
  · rename_i h1; exact absurd h h1
  · split at h
    · cases h
    · rename_i hb
      intro x hx
      rw [Bool.not_eq_true, List.any_eq_false] at hb
      have := hb x hx
      simp [badNum, isNum] at this
      omega

/-- What it means to be right. -/
theorem right_parts {k : Int} {s n : List Int} {it : List Arr} (h : rightV (.mk k s n it) = 0) :
    (k = 1 ∨ k = 2 ∨ k = 3) ∧ s.length ≤ 8 ∧ rightGo 1 s = true ∧ (k ≠ 3 → it = [] ∧ (n.length : Int) = shapeSize s) ∧ (k = 3 → n = [] ∧ (it.length : Int) = shapeSize s) := by
  have hf : formV (.mk k s n it) = 0 := by
    unfold rightV visitV at h
    by_cases h1 : formV (.mk k s n it) = 0
    · exact h1
    · rw [if_pos h1] at h; exact absurd h h1
  have key : ∀ (a b : Nat), formOf k s a b = 0 → (k = 1 ∨ k = 2 ∨ k = 3) ∧ s.length ≤ 8 ∧ rightGo 1 s = true ∧ (a : Int) = shapeSize s ∧ b = 0 := by
    intro a b hab
    unfold formOf at hab
    split at hab
    · cases hab
    · rename_i h1
      split at hab
      · cases hab
      · split at hab
        · cases hab
        · split at hab
          · cases hab
          · rename_i h2 h3 h4
            split at hab
            · cases hab
            · rename_i h5
              split at hab
              · cases hab
              · rename_i h6
                have h7 := shapeRight_go (by simpa using h4)
                refine ⟨by omega, h7.2, h7.1, ?_, by omega⟩
                simpa using h5
  have hf2 : (if k = 3 then formOf k s it.length n.length else formOf k s n.length it.length) = 0 := hf
  split at hf2
  · rename_i h3
    obtain ⟨h1, h2, h4, h5, h6⟩ := key _ _ hf2
    exact ⟨h1, h2, h4, fun h => absurd h3 h, fun _ => ⟨List.length_eq_zero_iff.1 h6, h5⟩⟩
  · rename_i h3
    obtain ⟨h1, h2, h4, h5, h6⟩ := key _ _ hf2
    exact ⟨h1, h2, h4, fun _ => ⟨List.length_eq_zero_iff.1 h6, h5⟩, fun h => absurd h h3⟩

/-- A vector of small numbers is right. -/
def vecV (l : List Int) : Arr := .mk 1 [(l.length : Int)] l []

theorem vec_right2 {l : List Int} (h8 : l.length ≤ 65536) (hl : ∀ a ∈ l, -4611686018427387903 ≤ a ∧ a ≤ 4611686018427387903) : rightV (vecV l) = 0 := by
  have hg : rightGo 1 [(l.length : Int)] = true := by
    simp only [rightGo]
    rw [if_neg (by omega)]
    split
    · rfl
    · rw [if_neg (by omega)]
  have hs : shapeSize [(l.length : Int)] = l.length := by
    unfold shapeSize
    rw [if_pos (by simp [shapeRight, hg]), ← prodA_volOf]
    simp only [prodA]
    split <;> omega
  unfold rightV vecV
  rw [visitV]
  have hf : formV (.mk 1 [(l.length : Int)] l []) = 0 := by
    unfold formV formOf
    simp only [List.length_singleton, hs]
    simp [isNeg, shapeRight, hg]
  rw [if_neg (by rw [hf]; simp)]
  have hb : ¬ l.any (badNum 1) = true := by
    rw [Bool.not_eq_true, List.any_eq_false]
    intro x hx
    have := hl x hx
    simp [badNum, isNum]
    omega
  rw [if_neg hb, itemsV]
  simp only [List.length_nil]
  rw [if_neg (by omega)]

/-- Contracts over readings. -/
theorem same_true {w : World} {t : Arr} {v1 v2 x1 x2 : Value} (h1 : Rd w t v1) (h2 : Rd w t v2) (e1 : x1 = v1) (e2 : x2 = v2) : Calls Try.prog 25 #[x1, x2] w fun e w' => e = .returned (.bool true) ∧ Ext w w' := by
  subst e1 e2
  obtain ⟨F, c0, c1, c2, c3, rfl, hA⟩ := h1
  obtain ⟨G, d0, d1, d2, d3, rfl, hB⟩ := h2
  have h := same_any F G _ t t _ _ _ _ _ _ _ _ w (Nat.lt_succ_self _) hA hB
  rw [(sameV_eq t t).2 rfl] at h
  exact h

theorem OwnI.atB {B : Nat} {X : Nat → Prop} {w : World} {p : Option Addr} {n c : Nat} {xs : List Int} (h : OwnI B X w (.slice p n c) n xs) {j : Nat} (hj : j < n) :
    ∃ g, p = some ⟨g, 0, none⟩ ∧ B ≤ g ∧ g < w.heap.size ∧ w.cell? ⟨g, j, none⟩ = some (.int .i64 (xs.getD j 0)) ∧ w.frozen? ⟨g, j, none⟩ = false ∧
      ∀ v : Int, -9223372036854775808 ≤ v ∧ v ≤ 9223372036854775807 → OwnI B X (w.setCell ⟨g, j, none⟩ (.int .i64 v)) (.slice p n c) n (xs.set j v) := by
  have e := h.1
  subst e
  exact h.at hj

/-- A slice of bytes. -/
def BytesAt (F : Nat → Prop) (w : World) (p : Option Addr) (xs : List Int) : Prop :=
  ∀ i, i < xs.length → ∃ b off, p = some ⟨b, off, none⟩ ∧ F b ∧ w.cell? ⟨b, off + i, none⟩ = some (.int .u8 (xs.getD i 0)) ∧ 0 ≤ xs.getD i 0 ∧ xs.getD i 0 ≤ 255

theorem BytesAt.ext {F : Nat → Prop} {w w' : World} {p : Option Addr} {xs : List Int} (h : BytesAt F w p xs) (e : Ext w w') : BytesAt F w' p xs := fun i hi => by
  obtain ⟨b, off, h1, h2, h3, h4⟩ := h i hi
  exact ⟨b, off, h1, h2, e.cell h3, h4⟩

theorem rdix_one {X : Nat → Prop} (w : World) (n : Nat) (h : n ≤ 9223372036854775807) (hX : ∀ b, X b → b < w.heap.size) : RdIX X (w.alloc (.cells #[.int .i64 (n : Int)] 3)) [(n : Int)] (.slice (some ⟨w.heap.size, 0, none⟩) 1 1) :=
  ⟨_, _, rfl, ⟨Nat.le_refl _, by simp, by simp⟩, ((rowI_new w [(n : Int)]).ints (fun x hx => by rw [List.mem_singleton] at hx; omega)).mono fun b hb hlt => ⟨⟨hlt, fun hx => by have := hX b hx; omega⟩, rfl⟩⟩

theorem vec_rd {X : Nat → Prop} {w : World} {l : List Int} {v : Value} (h : RdIX X w l v) (hX : ∀ b, X b → b < w.heap.size) : Calls Try.prog 37 #[v] w fun e w' => ∃ x, e = .returned x ∧ RdX X w' (vecV l) x ∧ Ext w w' := by
  obtain ⟨p, c, rfl, hk, hi⟩ := h
  refine (vec_any _ p c l w hi hk).mono ?_
  rintro e w' ⟨e0, e1, e2, e3, rfl, hA, hE⟩
  exact ⟨_, rfl, RdX.new hA (fun b hb _ => hb.imp id (fun h => h.2)) hX, hE⟩

def Arr.zero : Arr := .mk 0 [] [] []

theorem Arr.zero_at (F : Nat → Prop) (w : World) : ArrAt F w Arr.zero (.int .i64 0) (.slice none 0 0) (.slice none 0 0) (.slice none 0 0) := by
  unfold Arr.zero ArrAt
  exact ⟨rfl, by omega, ⟨none, 0, rfl, ⟨by simp, by simp, by simp⟩, fun i hi => by simp at hi⟩, ⟨none, 0, rfl, ⟨by simp, by simp, by simp⟩, fun i hi => by simp at hi⟩, ⟨none, 0, rfl, ⟨by simp, by simp, by simp⟩, by unfold ItemsAt; trivial⟩⟩

/-- A store of a whole struct into its box. -/
theorem Box4.put4 {w0 w : World} {b : Nat} {c0 c1 c2 c3 : Value} (h : Box4 w b c0 c1 c2 c3) (hE : Ext w0 w) (hb : w0.heap.size ≤ b) (v0 v1 v2 v3 : Value) :
    Ext w0 ((((w.setCell ⟨b, 0, none⟩ v0).setCell ⟨b, 1, none⟩ v1).setCell ⟨b, 2, none⟩ v2).setCell ⟨b, 3, none⟩ v3) ∧
    Box4 ((((w.setCell ⟨b, 0, none⟩ v0).setCell ⟨b, 1, none⟩ v1).setCell ⟨b, 2, none⟩ v2).setCell ⟨b, 3, none⟩ v3) b v0 v1 v2 v3 ∧
    ∀ x, x ≠ b → ((((w.setCell ⟨b, 0, none⟩ v0).setCell ⟨b, 1, none⟩ v1).setCell ⟨b, 2, none⟩ v2).setCell ⟨b, 3, none⟩ v3).heap[x]? = w.heap[x]? :=
  ⟨(((hE.setCell (p := ⟨b, 0, none⟩) hb _).setCell (p := ⟨b, 1, none⟩) hb _).setCell (p := ⟨b, 2, none⟩) hb _).setCell (p := ⟨b, 3, none⟩) hb _,
    (((h.set0 _).set1 _).set2 _).set3 _, fun x hx => by rw [Below.heap_setCell _ _ _ _ hx, Below.heap_setCell _ _ _ _ hx, Below.heap_setCell _ _ _ _ hx, Below.heap_setCell _ _ _ _ hx]⟩

theorem rdix_lit {X : Nat → Prop} (w : World) (l : List Int) (h8 : l.length ≤ 100) (hl : ∀ x ∈ l, -9223372036854775808 ≤ x ∧ x ≤ 9223372036854775807) (hX : ∀ b, X b → b < w.heap.size) : RdIX X (w.alloc (.cells (l.map (Value.int .i64)).toArray 3)) l (.slice (some ⟨w.heap.size, 0, none⟩) l.length l.length) :=
  ⟨_, _, rfl, ⟨Nat.le_refl _, by omega, by omega⟩, ((rowI_new w l).ints hl).mono fun b hb hlt => ⟨⟨hlt, fun hx => by have := hX b hx; omega⟩, rfl⟩⟩

theorem rdix_lit0 (w : World) (l : List Int) (h8 : l.length ≤ 100) (hl : ∀ x ∈ l, -9223372036854775808 ≤ x ∧ x ≤ 9223372036854775807) : RdIX (fun _ => False) (w.alloc (.cells (l.map (Value.int .i64)).toArray 3)) l (.slice (some ⟨w.heap.size, 0, none⟩) l.length l.length) :=
  rdix_lit w l h8 hl (fun _ h => False.elim h)

theorem rdx_mk {X : Nat → Prop} {w : World} (k : Int) (hk : -9223372036854775808 ≤ k ∧ k ≤ 9223372036854775807) {p1 p2 : Option Addr} {c1 c2 : Nat} {l1 l2 : List Int} (h1 : SlOk l1.length c1) (i1 : IntsAt (fun b => b < w.heap.size ∧ ¬ X b) w p1 l1) (h2 : SlOk l2.length c2) (i2 : IntsAt (fun b => b < w.heap.size ∧ ¬ X b) w p2 l2) :
    RdX X w (.mk k l1 l2 []) (.agg #[.int .i64 k, .slice p1 l1.length c1, .slice p2 l2.length c2, .slice none 0 0]) := by
  refine ⟨_, _, _, _, rfl, ?_⟩
  unfold ArrAt
  exact ⟨rfl, hk, ⟨_, _, rfl, h1, i1⟩, ⟨_, _, rfl, h2, i2⟩, nilA _ _⟩

theorem rdx_mk1 {X : Nat → Prop} {w : World} (k : Int) (hk : -9223372036854775808 ≤ k ∧ k ≤ 9223372036854775807) {p1 : Option Addr} {c1 : Nat} {l1 : List Int} (h1 : SlOk l1.length c1) (i1 : IntsAt (fun b => b < w.heap.size ∧ ¬ X b) w p1 l1) :
    RdX X w (.mk k l1 [] []) (.agg #[.int .i64 k, .slice p1 l1.length c1, .slice none 0 0, .slice none 0 0]) := by
  refine ⟨_, _, _, _, rfl, ?_⟩
  unfold ArrAt
  exact ⟨rfl, hk, ⟨_, _, rfl, h1, i1⟩, nilI _ _, nilA _ _⟩

theorem rdx_lit1 (w : World) (k : Int) (l : List Int) (hk : -9223372036854775808 ≤ k ∧ k ≤ 9223372036854775807) (h8 : l.length ≤ 100) (hl : ∀ x ∈ l, -9223372036854775808 ≤ x ∧ x ≤ 9223372036854775807) : RdX (fun _ => False) (w.alloc (.cells (l.map (Value.int .i64)).toArray 3)) (.mk k l [] []) (.agg #[.int .i64 k, .slice (some ⟨w.heap.size, 0, none⟩) l.length l.length, .slice none 0 0, .slice none 0 0]) := by
  obtain ⟨p, c, hv, hk1, hi⟩ := rdix_lit0 w l h8 hl
  simp only [Value.slice.injEq] at hv
  obtain ⟨rfl, _, rfl⟩ := hv
  exact rdx_mk1 k hk hk1 hi

theorem RdX.mono0 {w w' : World} {t : Arr} {v : Value} (h : RdX (fun _ => False) w t v) (e : Ext w w') : RdX (fun _ => False) w' t v := h.mono e (fun _ h => False.elim h)





end Go.Proofs.Ytgkemmdghmklfaa
