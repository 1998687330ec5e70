/-
  PLAIN GROUND: arrays as a tree; what it says that a value of Go reads as a list of numbers or as a tree in a world; how readings are carried on. No program in sight.
-/
import Derived.WalkKit
import Derived.WalkSpells
import Derived.WalkLawsBesides
import Derived.BigQuiet
import Derived.Deep.QuietTactic
import Derived.Lib.Hide
namespace Go.Proofs.Ytgkemmdghmklfaa
set_option linter.unusedSimpArgs false
set_option linter.unusedVariables false
open Go.RowKit

/-- An array of the language, as a tree. -/
inductive Arr where
  | mk (kind : Int) (shape nums : List Int) (items : List Arr)
  deriving Inhabited

/-- The call has made blocks and turned none that was there. -/
def Ext (w w' : World) : Prop := Below w.heap.size w w'

theorem Ext.refl (w : World) : Ext w w := Below.refl _ _
theorem Ext.trans {a b c : World} (h : Ext a b) (k : Ext b c) : Ext a c := Below.trans h (Below.mono k h.size)
theorem Ext.drew {a b : World} (h : Ext a b) : Ext a b.drew := Below.drew h
theorem Ext.drewN {a b : World} (h : Ext a b) (n : Nat) : Ext a (b.drewN n) := below_drewN h n
theorem Ext.alloc {a b : World} (h : Ext a b) (o : Obj) : Ext a (b.alloc o) := Below.alloc h h.size o
theorem Ext.block {w w' : World} (h : Ext w w') {k : Nat} (hk : k < w.heap.size) : w'.heap[k]? = w.heap[k]? := Below.block h k hk
theorem Ext.cell {w w' : World} (h : Ext w w') {a : Addr} {v : Value} (hc : w.cell? a = some v) : w'.cell? a = some v :=
  (Below.cell h (World.block_lt_of_cell? w a hc)).trans hc
theorem Ext.lt {w w' : World} (h : Ext w w') : w.heap.size ≤ w'.heap.size := Below.size h
theorem Ext.below {B : Nat} {w0 w w' : World} (h0 : Below B w0 w) (hB : B ≤ w.heap.size) (h : Ext w w') : Below B w0 w' := h0.trans (Below.mono h hB)

/-- The greatest length of a slice of one-word numbers that the form reads, and of any slice that it reads. -/
def lenMax : Nat := 17592186044416

/-- The slice of p reads as the list xs, its cells in blocks of F. -/
def IntsAt (F : Nat → Prop) (w : World) (p : Option Addr) (xs : List Int) : Prop :=
  ∀ i, i < xs.length → ∃ b off, p = some ⟨b, off, none⟩ ∧ F b ∧ w.cell? ⟨b, off + i, none⟩ = some (.int .i64 (xs.getD i 0)) ∧ -9223372036854775808 ≤ xs.getD i 0 ∧ xs.getD i 0 ≤ 9223372036854775807

/-- The length and the capacity of a slice: bounds. -/
def SlOk (n c : Nat) : Prop := n ≤ c ∧ c ≤ 9223372036854775807 ∧ n ≤ 17592186044416
def ItOk (n c : Nat) : Prop := n ≤ c ∧ c ≤ 9223372036854775807 ∧ n ≤ 1759218604391

theorem IntsAt.mono {F G : Nat → Prop} {w w' : World} {p : Option Addr} {xs : List Int} (h : IntsAt F w p xs) (hF : ∀ b, F b → b < w.heap.size → G b ∧ w'.heap[b]? = w.heap[b]?) : IntsAt G w' p xs := by
  intro i hi
  obtain ⟨b, off, hp, hf, hc, h1, h2⟩ := h i hi
  obtain ⟨hg, hb⟩ := hF b hf (World.block_lt_of_cell? w _ hc)
  exact ⟨b, off, hp, hg, (World.cell?_of_block hb).trans hc, h1, h2⟩

theorem IntsAt.ext {F : Nat → Prop} {w w' : World} {p : Option Addr} {xs : List Int} (h : IntsAt F w p xs) (e : Ext w w') : IntsAt F w' p xs :=
  h.mono fun _ hf hlt => ⟨hf, e.block hlt⟩

/-- One cell of it, written out. -/
theorem IntsAt.get {F : Nat → Prop} {w : World} {p : Option Addr} {xs : List Int} (h : IntsAt F w p xs) {i : Nat} (hi : i < xs.length) :
    ∃ b off, p = some ⟨b, off, none⟩ ∧ w.cell? ⟨b, off + i, none⟩ = some (.int .i64 (xs.getD i 0)) ∧ -9223372036854775808 ≤ xs.getD i 0 ∧ xs.getD i 0 ≤ 9223372036854775807 := by
  obtain ⟨b, off, h1, _, h2⟩ := h i hi
  exact ⟨b, off, h1, h2⟩

mutual
/-- The four cells of a struct value read as the tree. -/
def ArrAt (F : Nat → Prop) (w : World) : Arr → Value → Value → Value → Value → Prop
  | .mk k s n it, c0, c1, c2, c3 => c0 = .int .i64 k ∧ (-9223372036854775808 ≤ k ∧ k ≤ 9223372036854775807) ∧
      (∃ p c, c1 = .slice p s.length c ∧ SlOk s.length c ∧ IntsAt F w p s) ∧ (∃ p c, c2 = .slice p n.length c ∧ SlOk n.length c ∧ IntsAt F w p n) ∧
      (∃ p c, c3 = .slice p it.length c ∧ ItOk it.length c ∧ ItemsAt F w p 0 it)
/-- The elements from number i on of a slice of arrays. -/
def ItemsAt (F : Nat → Prop) (w : World) : Option Addr → Nat → List Arr → Prop
  | _, _, [] => True
  | p, i, x :: r => (∃ b off c0 c1 c2 c3, p = some ⟨b, off, none⟩ ∧ F b ∧ w.cell? ⟨b, off + i * 4, none⟩ = some c0 ∧ w.cell? ⟨b, off + i * 4 + 1, none⟩ = some c1 ∧
      w.cell? ⟨b, off + i * 4 + 2, none⟩ = some c2 ∧ w.cell? ⟨b, off + i * 4 + 3, none⟩ = some c3 ∧ ArrAt F w x c0 c1 c2 c3) ∧ ItemsAt F w p (i + 1) r
end

mutual
theorem ArrAt.mono {F G : Nat → Prop} {w w' : World} (hF : ∀ b, F b → b < w.heap.size → G b ∧ w'.heap[b]? = w.heap[b]?) : ∀ (t : Arr) (c0 c1 c2 c3 : Value), ArrAt F w t c0 c1 c2 c3 → ArrAt G w' t c0 c1 c2 c3
  | .mk _ _ _ it, _, _, _, _, h => by
    unfold ArrAt at h ⊢
    obtain ⟨h0, hk, ⟨p1, c1, e1, o1, i1⟩, ⟨p2, c2, e2, o2, i2⟩, ⟨p3, c3, e3, o3, i3⟩⟩ := h
    exact ⟨h0, hk, ⟨p1, c1, e1, o1, i1.mono hF⟩, ⟨p2, c2, e2, o2, i2.mono hF⟩, ⟨p3, c3, e3, o3, ItemsAt.mono hF it p3 0 i3⟩⟩
theorem ItemsAt.mono {F G : Nat → Prop} {w w' : World} (hF : ∀ b, F b → b < w.heap.size → G b ∧ w'.heap[b]? = w.heap[b]?) : ∀ (l : List Arr) (p : Option Addr) (i : Nat), ItemsAt F w p i l → ItemsAt G w' p i l
  | [], _, _, _ => by unfold ItemsAt; trivial
  | x :: r, p, i, h => by
    unfold ItemsAt at h ⊢
    obtain ⟨⟨b, off, c0, c1, c2, c3, hp, hf, k0, k1, k2, k3, ha⟩, hr⟩ := h
    obtain ⟨hg, hb⟩ := hF b hf (World.block_lt_of_cell? w _ k0)
    exact ⟨⟨b, off, c0, c1, c2, c3, hp, hg, (World.cell?_of_block hb).trans k0, (World.cell?_of_block hb).trans k1, (World.cell?_of_block hb).trans k2, (World.cell?_of_block hb).trans k3, ArrAt.mono hF x _ _ _ _ ha⟩, ItemsAt.mono hF r p (i + 1) hr⟩
end

theorem ArrAt.ext {F : Nat → Prop} {w w' : World} {t : Arr} {c0 c1 c2 c3 : Value} (h : ArrAt F w t c0 c1 c2 c3) (e : Ext w w') : ArrAt F w' t c0 c1 c2 c3 :=
  ArrAt.mono (fun _ hf hlt => ⟨hf, e.block hlt⟩) t _ _ _ _ h
theorem ItemsAt.ext {F : Nat → Prop} {w w' : World} {l : List Arr} {p : Option Addr} {i : Nat} (h : ItemsAt F w p i l) (e : Ext w w') : ItemsAt F w' p i l :=
  ItemsAt.mono (fun _ hf hlt => ⟨hf, e.block hlt⟩) l p i h

/-- Element number j, written out. -/
theorem ItemsAt.get {F : Nat → Prop} {w : World} : ∀ (l : List Arr) (p : Option Addr) (i j : Nat) (_ : ItemsAt F w p i l) (hj : j < l.length),
    ∃ b off c0 c1 c2 c3, p = some ⟨b, off, none⟩ ∧ F b ∧ w.cell? ⟨b, off + (i + j) * 4, none⟩ = some c0 ∧ w.cell? ⟨b, off + (i + j) * 4 + 1, none⟩ = some c1 ∧
      w.cell? ⟨b, off + (i + j) * 4 + 2, none⟩ = some c2 ∧ w.cell? ⟨b, off + (i + j) * 4 + 3, none⟩ = some c3 ∧ ArrAt F w l[j] c0 c1 c2 c3
  | [], _, _, _, _, hj => by simp at hj
  | x :: r, p, i, 0, h, _ => by
    unfold ItemsAt at h
    exact h.1
  | x :: r, p, i, j + 1, h, hj => by
    unfold ItemsAt at h
    have := ItemsAt.get r p (i + 1) j h.2 (by simpa using hj)
    rw [show i + 1 + j = i + (j + 1) by omega] at this
    exact this

/-- The four cells' forms. -/
theorem ArrAt.form {F : Nat → Prop} {w : World} {t : Arr} {c0 c1 c2 c3 : Value} (h : ArrAt F w t c0 c1 c2 c3) :
    ∃ k p1 n1 k1 p2 n2 k2 p3 n3 k3, c0 = .int .i64 k ∧ c1 = .slice p1 n1 k1 ∧ c2 = .slice p2 n2 k2 ∧ c3 = .slice p3 n3 k3 := by
  obtain ⟨k, s, n, it⟩ := t
  unfold ArrAt at h
  obtain ⟨h0, _, ⟨p1, k1, e1, _⟩, ⟨p2, k2, e2, _⟩, ⟨p3, k3, e3, _⟩⟩ := h
  exact ⟨_, _, _, _, _, _, _, _, _, _, h0, e1, e2, e3⟩

theorem max_spelt (a b : Int) : (if a < b then b else a) = max a b := by split <;> omega
theorem min_spelt (a b : Int) : (if a < b then a else b) = min a b := by split <;> omega

theorem drop_getD {l : List Int} {k : Nat} (h : k < l.length) : l.drop k = l.getD k 0 :: l.drop (k + 1) := by
  rw [List.drop_eq_getElem_cons h]
  simp [List.getD, h]

theorem hid_intro {p : Prop} (h : p) : Hid p := h

theorem ret_bool {a b : Bool} (h : a = b) : Ending.returned (.bool a) = .returned (.bool b) := by rw [h]
theorem ret_int {k : IntKind} {a b : Int} (h : a = b) : Ending.returned (.int k a) = .returned (.int k b) := by rw [h]

/-- What a function leaves that only computes. -/
def Gives (v : Value) (w : World) (e : Ending) (w' : World) : Prop := e = .returned v ∧ Ext w w'

end Go.Proofs.Ytgkemmdghmklfaa
