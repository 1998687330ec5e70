/-
  law39.spoil: it turns numbers into numbers, in the array's own blocks.
-/
import Derived.Test.YtgeppialbkijiaaFzA
import Derived.Test.YtgeppialbkijiaaR3Few
import Derived.Test.YtgeppialbkijiaaFrNew
namespace Go.Proofs.Ytgeppialbkijiaa
set_option linter.unusedSimpArgs false
set_option linter.unusedVariables false
open Go.RowKit

/-- What of an array no change of numbers changes: lengths. -/
inductive Sk where
  | mk (ns nn : Nat) (items : List Sk)
def I64 (z : Int) : Prop := -9223372036854775808 ≤ z ∧ z ≤ 9223372036854775807
/-- The slice of p holds n numbers that may be turned, in blocks of F. -/
def NumsSk (F : Nat → Prop) (w : World) (p : Option Addr) (n : Nat) : Prop :=
  ∀ i, i < n → ∃ b off z, p = some ⟨b, off, none⟩ ∧ F b ∧ w.cell? ⟨b, off + i, none⟩ = some (.int .i64 z) ∧ I64 z ∧ w.frozen? ⟨b, off + i, none⟩ = false
mutual
def SkAt (F : Nat → Prop) (w : World) : Sk → Value → Value → Value → Value → Prop
  | .mk s n it, c0, c1, c2, c3 => (∃ k, c0 = .int .i64 k ∧ I64 k) ∧
      (∃ p c, c1 = .slice p s c ∧ SlOk s c ∧ NumsSk F w p s) ∧ (∃ p c, c2 = .slice p n c ∧ SlOk n c ∧ NumsSk F w p n) ∧
      (∃ p c, c3 = .slice p it.length c ∧ ItOk it.length c ∧ ItemsSk F w p 0 it)
def ItemsSk (F : Nat → Prop) (w : World) : Option Addr → Nat → List Sk → Prop
  | _, _, [] => True
  | p, i, x :: r => (∃ b off c0 c1 c2 c3, p = some ⟨b, off, none⟩ ∧ F b ∧ w.cell? ⟨b, off + i * 4, none⟩ = some c0 ∧ w.cell? ⟨b, off + i * 4 + 1, none⟩ = some c1 ∧
      w.cell? ⟨b, off + i * 4 + 2, none⟩ = some c2 ∧ w.cell? ⟨b, off + i * 4 + 3, none⟩ = some c3 ∧ SkAt F w x c0 c1 c2 c3) ∧ ItemsSk F w p (i + 1) r
end
mutual
def skOf : Arr → Sk
  | .mk _ s n it => .mk s.length n.length (skAll it)
def skAll : List Arr → List Sk
  | [] => []
  | x :: r => skOf x :: skAll r
end
theorem skAll_len : ∀ l : List Arr, (skAll l).length = l.length
  | [] => by rw [skAll]; rfl
  | x :: r => by rw [skAll, List.length_cons, List.length_cons, skAll_len r]
theorem IntsAt.sk {F : Nat → Prop} {w : World} {p : Option Addr} {xs : List Int} (h : IntsAt (fun q => F q ∧ Fz.NoFz w q) w p xs) : NumsSk F w p xs.length := fun i hi => by
  obtain ⟨b, off, hp, hf, hc, h1, h2⟩ := h i hi
  exact ⟨b, off, _, hp, hf.1, hc, ⟨h1, h2⟩, hf.2 _⟩
mutual
theorem ArrAt.sk {F : Nat → Prop} {w : World} : ∀ (t : Arr) (c0 c1 c2 c3 : Value), ArrAt (fun q => F q ∧ Fz.NoFz w q) w t c0 c1 c2 c3 → SkAt F w (skOf t) c0 c1 c2 c3
  | .mk k _ _ it, _, _, _, _, h => by
    unfold ArrAt at h
    rw [skOf]
    unfold SkAt
    obtain ⟨h0, hk, ⟨p1, c1, e1, o1, i1⟩, ⟨p2, c2, e2, o2, i2⟩, ⟨p3, c3, e3, o3, i3⟩⟩ := h
    rw [skAll_len]
    exact ⟨⟨k, h0, hk⟩, ⟨p1, c1, e1, o1, i1.sk⟩, ⟨p2, c2, e2, o2, i2.sk⟩, ⟨p3, c3, e3, o3, ItemsAt.sk it p3 0 i3⟩⟩
theorem ItemsAt.sk {F : Nat → Prop} {w : World} : ∀ (l : List Arr) (p : Option Addr) (i : Nat), ItemsAt (fun q => F q ∧ Fz.NoFz w q) w p i l → ItemsSk F w p i (skAll l)
  | [], _, _, _ => by rw [skAll]; unfold ItemsSk; trivial
  | x :: r, p, i, h => by
    unfold ItemsAt at h
    rw [skAll]
    unfold ItemsSk
    obtain ⟨⟨b, off, c0, c1, c2, c3, hp, hf, k0, k1, k2, k3, ha⟩, hr⟩ := h
    exact ⟨⟨b, off, c0, c1, c2, c3, hp, hf.1, k0, k1, k2, k3, ArrAt.sk x _ _ _ _ ha⟩, ItemsAt.sk r p (i + 1) hr⟩
end

/-- Numbers in blocks of F have become numbers; nothing else is turned. -/
structure Turn (F : Nat → Prop) (w w' : World) : Prop where
  size : w.heap.size ≤ w'.heap.size
  far : ∀ x, x < w.heap.size → ¬ F x → w'.heap[x]? = w.heap[x]?
  num : ∀ a z, w.cell? a = some (.int .i64 z) → I64 z → ∃ z', w'.cell? a = some (.int .i64 z') ∧ I64 z'
  oth : ∀ a p n c, w.cell? a = some (.slice p n c) → w'.cell? a = some (.slice p n c)
  free : ∀ a, a.block < w.heap.size → w.frozen? a = false → w'.frozen? a = false
theorem Turn.refl (F : Nat → Prop) (w : World) : Turn F w w := ⟨Nat.le_refl _, fun _ _ _ => rfl, fun _ z h k => ⟨z, h, k⟩, fun _ _ _ _ h => h, fun _ _ h => h⟩
theorem Turn.trans {F : Nat → Prop} {a b c : World} (h : Turn F a b) (k : Turn F b c) : Turn F a c :=
  ⟨Nat.le_trans h.size k.size, fun x hx hf => (k.far x (Nat.lt_of_lt_of_le hx h.size) hf).trans (h.far x hx hf), fun p z h1 h2 => by
    obtain ⟨z', h3, h4⟩ := h.num p z h1 h2
    exact k.num p z' h3 h4, fun p _ _ _ h1 => k.oth p _ _ _ (h.oth p _ _ _ h1), fun p hp h1 => k.free p (Nat.lt_of_lt_of_le hp h.size) (h.free p hp h1)⟩
theorem Turn.of_ext {F : Nat → Prop} {w w' : World} (e : Ext w w') : Turn F w w' :=
  ⟨e.lt, fun x hx _ => e.block hx, fun p z h k => ⟨z, e.cell h, k⟩, fun p _ _ _ h => e.cell h, fun p hp h => by
    simp only [World.frozen?, e.block hp] at h ⊢
    exact h⟩
theorem Turn.put {F : Nat → Prop} {w w' : World} (h : Turn F w w') {b o : Nat} (hF : F b) {z z' : Int} (hc : w'.cell? ⟨b, o, none⟩ = some (.int .i64 z)) (hz : I64 z') : Turn F w (w'.setCell ⟨b, o, none⟩ (.int .i64 z')) := by
  refine h.trans ⟨by simp, fun x _ hx => Below.heap_setCell _ _ _ _ (fun e => hx (by rw [e]; exact hF)), fun a y hy hy2 => ?_, fun a p n c hs => ?_, fun a _ hf => ?_⟩
  · by_cases e : (⟨b, o, none⟩ : Addr) = a
    · subst e
      exact ⟨z', World.cell?_setCell_same _ _ _ hc, hz⟩
    · exact ⟨y, (World.cell?_setCell_other _ _ _ _ e).trans hy, hy2⟩
  · by_cases e : (⟨b, o, none⟩ : Addr) = a
    · subst e
      rw [hc] at hs
      cases hs
    · exact (World.cell?_setCell_other _ _ _ _ e).trans hs
  · rw [World.frozen?_setCell]
    exact hf
theorem NumsSk.turn {F G : Nat → Prop} {w w' : World} {p : Option Addr} {n : Nat} (h : NumsSk F w p n) (t : Turn G w w') : NumsSk F w' p n := fun i hi => by
  obtain ⟨b, off, z, hp, hf, hc, hz, hfr⟩ := h i hi
  obtain ⟨z', h1, h2⟩ := t.num _ z hc hz
  exact ⟨b, off, z', hp, hf, h1, h2, t.free _ (World.block_lt_of_cell? w _ hc) hfr⟩
theorem SkAt.form {F : Nat → Prop} {w : World} {s : Sk} {c0 c1 c2 c3 : Value} (h : SkAt F w s c0 c1 c2 c3) : ∃ k p1 n1 k1 p2 n2 k2 p3 n3 k3, c0 = .int .i64 k ∧ I64 k ∧ c1 = .slice p1 n1 k1 ∧ c2 = .slice p2 n2 k2 ∧ c3 = .slice p3 n3 k3 := by
  cases s
  unfold SkAt at h
  obtain ⟨⟨k, e0, hk⟩, ⟨p1, n1, e1, _⟩, ⟨p2, n2, e2, _⟩, ⟨p3, n3, e3, _⟩⟩ := h
  exact ⟨k, _, _, _, _, _, _, _, _, _, e0, hk, e1, e2, e3⟩
mutual
theorem SkAt.turn {F G : Nat → Prop} {w w' : World} (t : Turn G w w') : ∀ (s : Sk) (c0 c1 c2 c3 : Value), SkAt F w s c0 c1 c2 c3 → SkAt F w' s c0 c1 c2 c3
  | .mk _ _ it, _, _, _, _, h => by
    unfold SkAt at h ⊢
    obtain ⟨hk, ⟨p1, c1, e1, o1, i1⟩, ⟨p2, c2, e2, o2, i2⟩, ⟨p3, c3, e3, o3, i3⟩⟩ := h
    exact ⟨hk, ⟨p1, c1, e1, o1, i1.turn t⟩, ⟨p2, c2, e2, o2, i2.turn t⟩, ⟨p3, c3, e3, o3, ItemsSk.turn t it p3 0 i3⟩⟩
theorem ItemsSk.turn {F G : Nat → Prop} {w w' : World} (t : Turn G w w') : ∀ (l : List Sk) (p : Option Addr) (i : Nat), ItemsSk F w p i l → ItemsSk F w' p i l
  | [], _, _, _ => by unfold ItemsSk; trivial
  | x :: r, p, i, h => by
    unfold ItemsSk at h ⊢
    obtain ⟨⟨b, off, c0, c1, c2, c3, hp, hf, k0, k1, k2, k3, ha⟩, hr⟩ := h
    have hx := SkAt.turn t x c0 c1 c2 c3 ha
    obtain ⟨y, _, _, _, _, _, _, _, _, _, rfl, hk, rfl, rfl, rfl⟩ := ha.form
    obtain ⟨y', q0, q1⟩ := t.num _ y k0 hk
    refine ⟨⟨b, off, .int .i64 y', _, _, _, hp, hf, q0, t.oth _ _ _ _ k1, t.oth _ _ _ _ k2, t.oth _ _ _ _ k3, ?_⟩, ItemsSk.turn t r p (i + 1) hr⟩
    cases x
    unfold SkAt at hx ⊢
    exact ⟨⟨y', rfl, q1⟩, hx.2⟩
end
theorem ItemsSk.get {F : Nat → Prop} {w : World} : ∀ (l : List Sk) (p : Option Addr) (i j : Nat), ItemsSk F w p i l → (h : j < l.length) → ∃ b off c0 c1 c2 c3, p = some ⟨b, off, none⟩ ∧ w.cell? ⟨b, off + (i + j) * 4, none⟩ = some c0 ∧ w.cell? ⟨b, off + (i + j) * 4 + 1, none⟩ = some c1 ∧
      w.cell? ⟨b, off + (i + j) * 4 + 2, none⟩ = some c2 ∧ w.cell? ⟨b, off + (i + j) * 4 + 3, none⟩ = some c3 ∧ SkAt F w l[j] c0 c1 c2 c3
  | [], _, _, _, _, h => by simp at h
  | x :: r, p, i, 0, h, _ => by
    unfold ItemsSk at h
    obtain ⟨⟨b, off, c0, c1, c2, c3, hp, hf, k0, k1, k2, k3, ha⟩, _⟩ := h
    exact ⟨b, off, c0, c1, c2, c3, hp, k0, k1, k2, k3, ha⟩
  | x :: r, p, i, j + 1, h, hj => by
    unfold ItemsSk at h
    obtain ⟨b, off, c0, c1, c2, c3, hp, k0, k1, k2, k3, ha⟩ := ItemsSk.get r p (i + 1) j h.2 (by simpa using hj)
    rw [show i + (j + 1) = i + 1 + j by omega]
    exact ⟨b, off, c0, c1, c2, c3, hp, k0, k1, k2, k3, ha⟩
set_option maxRecDepth 100000 in
set_option maxHeartbeats 4000000 in
theorem spoil_any (F : Nat → Prop) (w0 : World) (hF : ∀ x, F x → w0.heap.size ≤ x) : ∀ (m : Nat) (s : Sk) (c0 c1 c2 c3 : Value) (w : World), SizeOf.sizeOf s < m → Ext w0 w → SkAt F w s c0 c1 c2 c3 →
    Calls Try.prog 20 #[.agg #[c0, c1, c2, c3]] w fun e w' => e = .returned (.tuple #[]) ∧ Ext w0 w' ∧ Turn F w w' := by
  intro m
  induction m with
  | zero => intro s c0 c1 c2 c3 w hm; omega
  | succ m ih =>
    intro s c0 c1 c2 c3 w hm hE h
    obtain ⟨s, n, it⟩ := s
    unfold SkAt at h
    obtain ⟨⟨k, rfl, hk⟩, ⟨p1, k1, rfl, ⟨o1, o1', o1''⟩, i1⟩, ⟨p2, k2, rfl, ⟨o2, o2', o2''⟩, i2⟩, ⟨p3, k3, rfl, ⟨o3, o3', o3''⟩, i3⟩⟩ := h
    have IH := Lib.hid ih
    have I1 := Lib.hid i1
    have I2 := Lib.hid i2
    have I3 := Lib.hid i3
    have HM := Lib.hid hm
    have HE := Lib.hid hE
    have HF := Lib.hid hF
    clear ih i1 i2 i3 hm hE hF hk
    go_enter Try.func20, Try.ntmps20
    go_wp2_with fail
    have hE0 : Ext w (w.alloc (.cells #[.int .i64 k, .slice p1 s k1, .slice p2 n k2, .slice p3 it.length k3] 26)) := (Ext.refl _).alloc _
    have hB := box_new w (.int .i64 k) (.slice p1 s k1) (.slice p2 n k2) (.slice p3 it.length k3)
    generalize w.alloc (.cells #[.int .i64 k, .slice p1 s k1, .slice p2 n k2, .slice p3 it.length k3] 26) = w1 at hE0 hB ⊢
    generalize w.heap.size = bx at hB ⊢
    have HB := Lib.hid hB
    have HT0 := Lib.hid (Turn.of_ext (F := F) hE0)
    replace HE := Lib.hid (HE.out.trans hE0)
    have hTB : ∀ wx, Turn F w1 wx → wx.cell? ⟨bx, 1, none⟩ = some (.slice p1 s k1) ∧ wx.cell? ⟨bx, 2, none⟩ = some (.slice p2 n k2) ∧ wx.cell? ⟨bx, 3, none⟩ = some (.slice p3 it.length k3) := fun wx t => ⟨t.oth _ _ _ _ hB.cell.2.1, t.oth _ _ _ _ hB.cell.2.2.1, t.oth _ _ _ _ hB.cell.2.2.2⟩
    have HTB := Lib.hid hTB
    replace I1 := Lib.hid (I1.out.turn HT0.out)
    replace I2 := Lib.hid (I2.out.turn HT0.out)
    replace I3 := Lib.hid (ItemsSk.turn HT0.out _ _ _ I3.out)
    clear hB hE0 hTB
    go_loopw [2] (fun i wr => ∃ j : Nat, j ≤ s ∧ i = .int .i64 (j : Int) ∧ Ext w0 wr ∧ Turn F w1 wr) (fun i _ => s - (intOf i).toNat)
    case atStart => exact ⟨0, Nat.zero_le _, rfl, HE.out, Turn.refl _ _⟩
    case round =>
    obtain ⟨j, hj, rfl, hE2, hT⟩ := hrel
    have s1 := (HTB.out wr hT).1
    by_cases hlt : j < s
    · obtain ⟨b, off, z, rfl, hf, hc, hz, hfr⟩ := (I1.out.turn hT) j hlt
      have hput := Lib.hid (fun z' hz' => And.intro (hE2.setCell (p := ⟨b, off + j, none⟩) (HF.out b hf) (.int .i64 z')) (hT.put (z' := z') hf hc hz'))
      clear hT hE2 hf
      go_wp2_with fail
      go_roundw
      case rel => exact ⟨j + 1, by omega, by go_num, (hput.out _ (by first | exact wrap_in64 _ | exact wrap_in _)).1, (hput.out _ (by first | exact wrap_in64 _ | exact wrap_in _)).2⟩
      case measure => simp [intOf]; omega
    obtain ⟨wo1, rfl⟩ : ∃ wx : World, wx = wr := ⟨_, rfl⟩
    go_wp2_with fail
    clear hlt hj
    go_loopw [3] (fun i wr => ∃ j : Nat, j ≤ n ∧ i = .int .i64 (j : Int) ∧ Ext w0 wr ∧ Turn F w1 wr) (fun i _ => n - (intOf i).toNat)
    case atStart => exact ⟨0, Nat.zero_le _, rfl, hE2, hT⟩
    case round =>
    clear hE2 hT s1
    obtain ⟨j, hj, rfl, hE2, hT⟩ := hrel
    have s2 := (HTB.out wr hT).2.1
    by_cases hlt : j < n
    · obtain ⟨b, off, z, rfl, hf, hc, hz, hfr⟩ := (I2.out.turn hT) j hlt
      have hput := Lib.hid (fun z' hz' => And.intro (hE2.setCell (p := ⟨b, off + j, none⟩) (HF.out b hf) (.int .i64 z')) (hT.put (z' := z') hf hc hz'))
      clear hT hE2 hf
      go_wp2_with fail
      go_roundw
      case rel => exact ⟨j + 1, by omega, by go_num, (hput.out _ (by first | exact wrap_in64 _ | exact wrap_in _)).1, (hput.out _ (by first | exact wrap_in64 _ | exact wrap_in _)).2⟩
      case measure => simp [intOf]; omega
    obtain ⟨wo2, rfl⟩ : ∃ wx : World, wx = wr := ⟨_, rfl⟩
    go_wp2_with fail
    clear hlt hj
    go_loopw [4] (fun i wr => ∃ j : Nat, j ≤ it.length ∧ i = .int .i64 (j : Int) ∧ Ext w0 wr ∧ Turn F w1 wr) (fun i _ => it.length - (intOf i).toNat)
    case atStart => exact ⟨0, Nat.zero_le _, rfl, hE2, hT⟩
    case round =>
    clear hE2 hT s2
    obtain ⟨j, hj, rfl, hE2, hT⟩ := hrel
    have s3 := (HTB.out wr hT).2.2
    by_cases hlt : j < it.length
    · obtain ⟨b, off, x0, x1, x2, x3, rfl, g0, g1, g2, g3, hx⟩ := ItemsSk.get it _ 0 j (ItemsSk.turn hT _ _ _ I3.out) hlt
      rw [Nat.zero_add] at g0 g1 g2 g3
      have hsz : SizeOf.sizeOf it[j] < m := by
        have h1 := List.sizeOf_lt_of_mem (List.getElem_mem hlt)
        have h2 := HM.out
        simp at h2
        omega
      have HCALL := Lib.hid (IH.out it[j] x0 x1 x2 x3 wr hsz hE2 hx)
      obtain ⟨y0, q1, l1, m1, q2, l2, m2, q3, l3, m3, rfl, hy, rfl, rfl, rfl⟩ := hx.form
      have HTT := Lib.hid hT
      clear hx hT hE2 hsz hy
      go_wp2_with fail
      refine HCALL.out.mono ?_
      rintro e w4 ⟨rfl, hE4, hT4⟩
      go_wp2_with fail
      go_roundw
      case rel => exact ⟨j + 1, by omega, by go_num, hE4, HTT.out.trans hT4⟩
      case measure => simp [intOf]; omega
    · go_wp2_with fail
      go_end0
      exact ⟨rfl, hE2, HT0.out.trans hT⟩
end Go.Proofs.Ytgeppialbkijiaa
