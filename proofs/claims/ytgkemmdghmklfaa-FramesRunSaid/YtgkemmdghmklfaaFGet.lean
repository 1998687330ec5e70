/-
  frames.Get.
-/
import Derived.Test.YtgkemmdghmklfaaFrKept
namespace Go.Proofs.Ytgkemmdghmklfaa
set_option linter.unusedSimpArgs false
set_option linter.unusedVariables false
open Go.RowKit Go.Shelf
attribute [local go_sem] Oper.semAt_some

/-- The frames from p on. -/
def IsFr (F : Nat → Prop) (w : World) : Option Addr → List (Nat × List Slot) → Prop
  | p, [] => p = none
  | p, x :: r => ∃ q : Option Addr, p = some ⟨x.1, 0, none⟩ ∧ FrAt F w x.1 x.2 q ∧ IsFr F w q r
theorem IsFr.ext {F : Nat → Prop} {w w' : World} (e : Ext w w') : ∀ {p : Option Addr} {l : List (Nat × List Slot)}, IsFr F w p l → IsFr F w' p l
  | _, [], h => h
  | _, _ :: _, ⟨q, hp, hf, hr⟩ => ⟨q, hp, hf.ext e, IsFr.ext e hr⟩
theorem IsFr.mono {F G : Nat → Prop} {w w' : World} (hF : ∀ x, F x → x < w.heap.size → G x ∧ w'.heap[x]? = w.heap[x]?) : ∀ {p : Option Addr} {l : List (Nat × List Slot)}, IsFr F w p l → IsFr G w' p l
  | _, [], h => h
  | _, _ :: _, ⟨q, hp, hf, hr⟩ => ⟨q, hp, hf.mono hF, IsFr.mono hF hr⟩
theorem IsFr.chain {F : Nat → Prop} {w : World} : ∀ {p : Option Addr} {l : List (Nat × List Slot)}, IsFr F w p l → IsChain w.heap.size w p (l.map Prod.fst)
  | _, [], h => h
  | _, _ :: _, ⟨q, hp, hf, hr⟩ => ⟨q, hp, hf.lt, hf.next, IsFr.chain hr⟩
theorem IsFr.get {F : Nat → Prop} {w : World} : ∀ {l : List (Nat × List Slot)} {p : Option Addr} {i : Nat} {x : Nat × Nat}, IsFr F w p l → x ∈ numFrom i (l.map Prod.fst) → ∃ s q, i ≤ x.1 ∧ l[x.1 - i]? = some (x.2, s) ∧ FrAt F w x.2 s q
  | [], _, _, _, _, hx => by simp [numFrom] at hx
  | y :: r, p, i, x, ⟨q, hp, hf, hr⟩, hx => by
    simp only [List.map_cons, numFrom, List.mem_cons] at hx
    rcases hx with rfl | hx
    · exact ⟨y.2, q, Nat.le_refl _, by simp, hf⟩
    · obtain ⟨s, q', h1, h2, h3⟩ := IsFr.get hr hx
      refine ⟨s, q', by omega, ?_, h3⟩
      rw [show x.1 - i = (x.1 - (i + 1)) + 1 by omega, List.getElem?_cons_succ]
      exact h2

/-- What Get finds. -/
def slotV (s : List Slot) (i : Int) : Option Arr := if i < 0 then none else match s[i.toNat]? with
  | some (.arr t) => some t
  | some .fn => some Arr.zero
  | _ => none
/-- Whether it is a function. -/
def slotF (s : List Slot) (i : Int) : Bool := if i < 0 then false else match s[i.toNat]? with
  | some .fn => true
  | _ => false
def getV (l : List (Nat × List Slot)) (d i : Int) : Option Arr := if d < 0 then none else match l[d.toNat]? with
  | some x => slotV x.2 i
  | none => none
def getF (l : List (Nat × List Slot)) (d i : Int) : Bool := if d < 0 then false else match l[d.toNat]? with
  | some x => slotF x.2 i
  | none => false
theorem getV_at {l : List (Nat × List Slot)} {x : Nat × Nat} {s : List Slot} (h : l[x.1 - 0]? = some (x.2, s)) (i : Int) : getV l (x.1 : Int) i = slotV s i := by
  unfold getV
  rw [if_neg (by omega)]
  simp only [Nat.sub_zero] at h
  simp [h]
theorem getF_at {l : List (Nat × List Slot)} {x : Nat × Nat} {s : List Slot} (h : l[x.1 - 0]? = some (x.2, s)) (i : Int) : getF l (x.1 : Int) i = slotF s i := by
  unfold getF
  rw [if_neg (by omega)]
  simp only [Nat.sub_zero] at h
  simp [h]
theorem getV_none {l : List (Nat × List Slot)} {d i : Int} (h : ∀ x ∈ numFrom 0 (l.map Prod.fst), (x.1 : Int) ≠ d) : getV l d i = none := by
  unfold getV
  by_cases hd : d < 0
  · rw [if_pos hd]
  · rw [if_neg hd]
    cases hx : l[d.toNat]? with
    | none => rfl
    | some y =>
      exfalso
      have hlt : d.toNat < l.length := by
        rcases Nat.lt_or_ge d.toNat l.length with h | h
        · exact h
        · rw [List.getElem?_eq_none h] at hx; cases hx
      have := numFrom_get 0 (l.map Prod.fst) d.toNat (by simpa using hlt)
      have hm := List.mem_of_getElem? this
      exact h _ hm (by simp; omega)
theorem getF_none {l : List (Nat × List Slot)} {d i : Int} (h : ∀ x ∈ numFrom 0 (l.map Prod.fst), (x.1 : Int) ≠ d) : getF l d i = false := by
  unfold getF
  by_cases hd : d < 0
  · rw [if_pos hd]
  · rw [if_neg hd]
    cases hx : l[d.toNat]? with
    | none => rfl
    | some y =>
      exfalso
      have hlt : d.toNat < l.length := by
        rcases Nat.lt_or_ge d.toNat l.length with h | h
        · exact h
        · rw [List.getElem?_eq_none h] at hx; cases hx
      have := numFrom_get 0 (l.map Prod.fst) d.toNat (by simpa using hlt)
      have hm := List.mem_of_getElem? this
      exact h _ hm (by simp; omega)

theorem rowC_own {T : TypeId} {W W' : World} {g : Nat} {cs : List Value} {row : Option Nat} (h : RowC T W g cs) (hg : W.grownBy W' row) (hr : ∀ r, row = some r → ∃ o : Obj, W.heap[r]? = some o ∧ o.isCells = false) : RowC T W' g cs :=
  h.kept (hg.block g h.lt fun e => by
    obtain ⟨o, h1, h2⟩ := hr g e.symm
    unfold RowC at h
    rw [h] at h1
    cases h1
    cases h2)

theorem RowC.cell' {T : TypeId} {w : World} {g : Nat} {cs : List Value} (h : RowC T w g cs) {j : Nat} {c : Value} (hc : cs[j]? = some c) : w.cell? ⟨g, j, none⟩ = some c := by
  unfold RowC at h
  rw [cell_of_row w g j _ _ _ h]
  simpa using hc
theorem cells_own {W W' : World} {row : Option Nat} (hg : W.grownBy W' row) (hr : ∀ r, row = some r → ∃ o : Obj, W.heap[r]? = some o ∧ o.isCells = false) : ∀ (a : Addr) (v : Value), W.cell? a = some v → W'.cell? a = some v := fun a v h => cell_kept h hg hr
theorem IntsAt.cellwise {F : Nat → Prop} {w w' : World} (hc : ∀ (a : Addr) (v : Value), w.cell? a = some v → w'.cell? a = some v) {p : Option Addr} {xs : List Int} (h : IntsAt F w p xs) : IntsAt F w' p xs := fun i hi => by
  obtain ⟨b, off, h1, h2, h3, h4⟩ := h i hi
  exact ⟨b, off, h1, h2, hc _ _ h3, h4⟩
mutual
theorem ArrAt.cellwise {F : Nat → Prop} {w w' : World} (hc : ∀ (a : Addr) (v : Value), w.cell? a = some v → w'.cell? a = some v) : ∀ (t : Arr) (c0 c1 c2 c3 : Value), ArrAt F w t c0 c1 c2 c3 → ArrAt F w' t c0 c1 c2 c3
  | .mk _ _ _ it, _, _, _, _, h => by
    unfold ArrAt at h ⊢
    obtain ⟨h0, hk, ⟨p1, c1, e1, o1, i1⟩, ⟨p2, c2, e2, o2, i2⟩, ⟨p3, c3, e3, o3, i3⟩⟩ := h
    exact ⟨h0, hk, ⟨p1, c1, e1, o1, i1.cellwise hc⟩, ⟨p2, c2, e2, o2, i2.cellwise hc⟩, ⟨p3, c3, e3, o3, ItemsAt.cellwise hc it p3 0 i3⟩⟩
theorem ItemsAt.cellwise {F : Nat → Prop} {w w' : World} (hc : ∀ (a : Addr) (v : Value), w.cell? a = some v → w'.cell? a = some v) : ∀ (l : List Arr) (p : Option Addr) (i : Nat), ItemsAt F w p i l → ItemsAt F w' p i l
  | [], _, _, _ => by unfold ItemsAt; trivial
  | x :: r, p, i, h => by
    unfold ItemsAt at h ⊢
    obtain ⟨⟨b, off, c0, c1, c2, c3, hp, hf, k0, k1, k2, k3, ha⟩, hr⟩ := h
    exact ⟨⟨b, off, c0, c1, c2, c3, hp, hf, hc _ _ k0, hc _ _ k1, hc _ _ k2, hc _ _ k3, ArrAt.cellwise hc x _ _ _ _ ha⟩, ItemsAt.cellwise hc r p (i + 1) hr⟩
end
theorem ArrAt.own {F : Nat → Prop} {W W' : World} {t : Arr} {c0 c1 c2 c3 : Value} {row : Option Nat} (h : ArrAt F W t c0 c1 c2 c3) (hg : W.grownBy W' row) (hr : ∀ r, row = some r → ∃ o : Obj, W.heap[r]? = some o ∧ o.isCells = false) : ArrAt F W' t c0 c1 c2 c3 :=
  ArrAt.cellwise (cells_own hg hr) _ _ _ _ _ h

/-- A block with cells is not the row that a putObj writes. -/
theorem Fz.own_block {W W' : World} {row : Option Nat} (hg : W.grownBy W' row) (hr : ∀ r, row = some r → ∃ o : Obj, W.heap[r]? = some o ∧ o.isCells = false) {b : Nat} (h : ∃ o v, W.cell? ⟨b, o, none⟩ = some v) : W'.heap[b]? = W.heap[b]? := by
  obtain ⟨o, v, hc⟩ := h
  have hlt := World.block_lt_of_cell? W _ hc
  refine hg.block b hlt fun e => ?_
  obtain ⟨x, h1, h2⟩ := hr b e.symm
  simp only [World.cell?, h1] at hc
  cases x <;> first | (exact Bool.noConfusion h2) | (simp at hc; done)
theorem Fz.ArrAt.ownF {P : Nat → Prop} {W W' : World} {t : Arr} {c0 c1 c2 c3 : Value} {row : Option Nat} (h : Go.Proofs.Ytgkemmdghmklfaa.ArrAt (fun q => P q ∧ Fz.NoFz W q) W t c0 c1 c2 c3) (hg : W.grownBy W' row) (hr : ∀ r, row = some r → ∃ o : Obj, W.heap[r]? = some o ∧ o.isCells = false) : Go.Proofs.Ytgkemmdghmklfaa.ArrAt (fun q => P q ∧ Fz.NoFz W' q) W' t c0 c1 c2 c3 :=
  Fz.ArrAt.moveC (fun b hb hc => ⟨⟨hb.1, hb.2.kept (Fz.own_block hg hr hc)⟩, Fz.own_block hg hr hc⟩) _ _ _ _ _ h

theorem KeepsOthers.of_ext {W W' : World} (e : Ext W W') : KeepsOthers W W' := ⟨e.lt, fun k o h _ => (e.block (Array.getElem?_eq_some_iff.1 h).1).trans h⟩

set_option maxRecDepth 100000 in
set_option maxHeartbeats 2000000 in
theorem get_anyF (F : Nat → Prop) (p0 : Option Addr) (l : List (Nat × List Slot)) (hl : l.length ≤ 1000000) (d s : Int) (w : World) (hL : IsFr F w p0 l) (hd : -9223372036854775808 ≤ d ∧ d ≤ 9223372036854775807) (hs : -9223372036854775808 ≤ s ∧ s ≤ 9223372036854775807) :
    Calls Try.prog 24 #[.pointer p0, .int .i64 d, .int .i64 s] w fun e W' => ∃ e0 e1 e2 e3 cv, e = .returned (.tuple #[.agg #[e0, e1, e2, e3, cv], .bool (getV l d s).isSome]) ∧ FunOk (getF l d s) cv ∧ ArrAt (fun b => w.heap.size ≤ b ∧ Fz.NoFz W' b) W' ((getV l d s).getD Arr.zero) e0 e1 e2 e3 ∧ Ext w W' := by
  have hbl : (l.map Prod.fst).length ≤ 1000000 := by simpa using hl
  refine (callsIn_wide (n := 5)).1 ?_
  refine callsIn_of_wp_marks Try.func24 rfl trivial ?_ rfl
  simp only [Try.ntmps24, List.size_toArray, List.length_cons, List.length_nil, Nat.reduceAdd, Nat.reduceSub, Array.replicate_succ, Array.replicate_zero, List.push_toArray, List.append_toArray, List.nil_append, List.cons_append]
  gi_wp2_with (refine ⟨trivial, ?_⟩; gi_at_call 72; refine (around_in _ _ _).mono ?_; rintro e w' ⟨rfl, rfl⟩)
  obtain ⟨w1, h1⟩ : ∃ wx : World, wx = w.alloc (.cells #[.int .i64 d] 3) := ⟨_, rfl⟩
  rw [← h1]
  have z1 : w1.heap.size = w.heap.size + 1 := by rw [h1, World.size_alloc]
  have e1 : Ext w w1 := by rw [h1]; exact (Ext.refl _).alloc _
  have r1 : RowC 3 w1 (w.heap.size) [.int .i64 d] := by rw [h1]; exact RowC.new _ _ _
  clear h1
  obtain ⟨w2, h2⟩ : ∃ wx : World, wx = w1.alloc (.cells #[.int .i64 s] 3) := ⟨_, rfl⟩
  rw [← h2]
  have z2 : w2.heap.size = w.heap.size + 2 := by rw [h2, World.size_alloc, z1]
  have e2 : Ext w1 w2 := by rw [h2]; exact (Ext.refl _).alloc _
  have r2 : RowC 3 w2 (w.heap.size + 1) [.int .i64 s] := by rw [h2]; rw [← z1]; exact RowC.new _ _ _
  replace r1 := r1.ext e2
  replace e2 := e1.trans e2
  clear e1 z1
  clear h2
  obtain ⟨w3, h3⟩ : ∃ wx : World, wx = w2.alloc (.cells #[.int .i64 0, .slice none 0 0, .slice none 0 0, .slice none 0 0, .nilIface] 38) := ⟨_, rfl⟩
  rw [← h3]
  have z3 : w3.heap.size = w.heap.size + 3 := by rw [h3, World.size_alloc, z2]
  have e3 : Ext w2 w3 := by rw [h3]; exact (Ext.refl _).alloc _
  have r3 : RowC 38 w3 (w.heap.size + 2) [.int .i64 0, .slice none 0 0, .slice none 0 0, .slice none 0 0, .nilIface] := by rw [h3]; rw [← z2]; exact RowC.new _ _ _
  replace r1 := r1.ext e3
  replace r2 := r2.ext e3
  replace e3 := e2.trans e3
  clear e2 z2
  clear h3
  obtain ⟨w4, h4⟩ : ∃ wx : World, wx = w3.alloc (.cells #[.bool false] 4) := ⟨_, rfl⟩
  rw [← h4]
  have z4 : w4.heap.size = w.heap.size + 4 := by rw [h4, World.size_alloc, z3]
  have e4 : Ext w3 w4 := by rw [h4]; exact (Ext.refl _).alloc _
  have r4 : RowC 4 w4 (w.heap.size + 3) [.bool false] := by rw [h4]; rw [← z3]; exact RowC.new _ _ _
  replace r1 := r1.ext e4
  replace r2 := r2.ext e4
  replace r3 := r3.ext e4
  replace e4 := e3.trans e4
  clear e3 z3
  clear h4
  obtain ⟨w5, h5⟩ : ∃ wx : World, wx = w4.alloc (.cells #[.pointer p0] 32) := ⟨_, rfl⟩
  rw [← h5]
  have z5 : w5.heap.size = w.heap.size + 5 := by rw [h5, World.size_alloc, z4]
  have e5 : Ext w4 w5 := by rw [h5]; exact (Ext.refl _).alloc _
  have r5 : RowC 32 w5 (w.heap.size + 4) [.pointer p0] := by rw [h5]; rw [← z4]; exact RowC.new _ _ _
  replace r1 := r1.ext e5
  replace r2 := r2.ext e5
  replace r3 := r3.ext e5
  replace r4 := r4.ext e5
  replace e5 := e4.trans e5
  clear e4 z4
  clear h5
  have hLw := hL
  refine wpIn_rangeFunc_ownF rfl (by omega) (gf := 128) (lb := #[.pointer (some ⟨w.heap.size + 4, 0, none⟩)]) rfl trivial (enters_of Try.func128 (by kernel_rfl) rfl)
    (around_stops 4 (by omega) (w.heap.size + 4) w.heap.size p0 (l.map Prod.fst) hbl w5 (by omega) (by omega) (r5.cell (j := 0) (by simp)) (hL.chain.below e5)) belowK_t (belowK_b (by omega)) (Below.refl _ _) (fun _ => rfl)
    (fun pre W => ((∀ x ∈ pre, (x.1.1 : Int) ≠ d) ∧ RowC 3 W w.heap.size [.int .i64 d] ∧ RowC 3 W (w.heap.size + 1) [.int .i64 s] ∧ RowC 38 W (w.heap.size + 2) [.int .i64 0, .slice none 0 0, .slice none 0 0, .slice none 0 0, .nilIface] ∧ RowC 4 W (w.heap.size + 3) [.bool false]) ∧ Below w.heap.size w W)
    (fun c pre W => (c = .ret ∧ ∃ e0 e1 e2 e3 cv, RowC 38 W (w.heap.size + 2) [e0, e1, e2, e3, cv] ∧ RowC 4 W (w.heap.size + 3) [.bool (getV l d s).isSome] ∧ FunOk (getF l d s) cv ∧ ArrAt (fun b => w.heap.size ≤ b ∧ Fz.NoFz W b) W ((getV l d s).getD Arr.zero) e0 e1 e2 e3) ∧ Below w.heap.size w W)
    (OwnFrom.and (Own.from (fun s A B row hs hg hr => ⟨hs.1, rowC_own hs.2.1 hg hr, rowC_own hs.2.2.1 hg hr, rowC_own hs.2.2.2.1 hg hr, rowC_own hs.2.2.2.2 hg hr⟩) _) (ownFrom_below (Nat.le_refl _) (by omega)))
    (fun c => OwnFrom.and (Own.from (fun s A B row hs hg hr => ⟨hs.1, by
      obtain ⟨_, e0, e1, e2, e3, cv, q1, q2, qf, q3⟩ := hs
      exact ⟨e0, e1, e2, e3, cv, rowC_own q1 hg hr, rowC_own q2 hg hr, qf, Fz.ArrAt.ownF q3 hg hr⟩⟩) _) (ownFrom_below (Nat.le_refl _) (by omega)))
    ⟨⟨by simp, r1, r2, r3, r4⟩, e5⟩
    (fun x => { tmps := #[.pointer p0, .int .i64 d, .int .i64 s, undef, .pointer (some ⟨w.heap.size, 0, none⟩), .pointer (some ⟨w.heap.size + 1, 0, none⟩), .pointer (some ⟨w.heap.size + 2, 0, none⟩), .pointer (some ⟨w.heap.size + 3, 0, none⟩), .int .i64 (x.1.1 : Int), .pointer (some ⟨x.1.2, 0, none⟩), .pointer p0, .func (.func 128) #[] #[.pointer (some ⟨w.heap.size + 4, 0, none⟩)], .int .i64 (x.1.1 : Int), .pointer (some ⟨x.1.2, 0, none⟩), undef, undef, undef, undef, undef, undef, undef, undef, undef, undef, undef, undef, undef, undef, undef, undef, undef, undef, undef, undef, undef, undef, undef, undef, undef, undef, undef, undef, undef, undef, undef, undef, undef, undef], defers := [] }) ?assign ?body ?done ?stop
  case assign =>
    intro l x W K hK
    gi_wp2
    exact hK
  case body =>
    rintro lr pre x W ⟨⟨hp, q1, q2, q3, q4⟩, hB⟩ _
    have k1 := q1.cell (j := 0) (by simp)
    have k2 := q2.cell (j := 0) (by simp)
    simp only [List.getElem_cons_zero] at k1 k2
    by_cases hxd : (x.1.1 : Int) = d
    rotate_left
    · have hne : ((x.1.1 : Int) != d) = true := by simpa using hxd
      gi_wp2
      exact ⟨KeepsOthers.refl _, Below.refl _ _, ⟨fun y hy => (List.mem_append.1 hy).elim (hp y) (fun h => by rw [List.mem_singleton] at h; rw [h]; exact hxd), q1, q2, q3, q4⟩, hB⟩
    · obtain ⟨sl, qx, _, hlx, hfr⟩ := IsFr.get (i := 0) hL x.2
      have hgv := getV_at (x := x.1) hlx s
      have hgf := getF_at (x := x.1) hlx s
      rw [hxd] at hgv hgf
      have hne : ((x.1.1 : Int) != d) = false := by simpa using hxd
      obtain ⟨gv, gu, cs, f1, f2, f3, _, _, _, _, _, _, hcl, h16, hsl⟩ := hfr.ext hB
      have k5 := f1.cell (j := 0) (by simp)
      have k6 := f1.cell (j := 1) (by simp)
      simp only [List.getElem_cons_zero, List.getElem_cons_succ] at k5 k6
      have hcnt : (s < 0 ∨ (sl.length : Int) ≤ s) ∨ (0 ≤ s ∧ s < sl.length) := by omega
      have hF3 := f3
      rcases hcnt with hout | hin
      · have hno : slotV sl s = none ∧ slotF sl s = false := by
          unfold slotV slotF
          by_cases h0 : s < 0
          · rw [if_pos h0, if_pos h0]; exact ⟨rfl, rfl⟩
          · rw [if_neg h0, if_neg h0, List.getElem?_eq_none (by omega)]; exact ⟨rfl, rfl⟩
        rw [hno.1] at hgv
        rw [hno.2] at hgf
        have HGV := Lib.hid hgv
        have HGF := Lib.hid hgf
        clear hgv hgf hno hsl hcl f1 f2 f3 hF3
        by_cases h0 : s < 0
        · have h1 := h0
          clear hout
          gi_wp2
          refine region_round_quiet (by kernel_rfl) (by kernel_rfl) (by kernel_rfl) ?_
          repeat (go_big_quiet_step (fail))
          refine wpQuiet_nil ?_
          rintro _ ⟨nq, rfl⟩
          have hEd : Ext W (W.drewN nq) := (Ext.refl _).drewN _
          have b3 := q3.ext hEd
          have b4 := q4.ext hEd
          have hB2 : Ext w (W.drewN nq) := Ext.trans hB hEd
          have hKO := KeepsOthers.of_ext hEd
          generalize W.drewN nq = W2 at *
          obtain ⟨x0, x1, x2, x3, x4⟩ := b3.cell5
          have y0 := b3.free 0
          have y1 := b3.free 1
          have y2 := b3.free 2
          have y3 := b3.free 3
          have y4 := b3.free 4
          have v0 := b4.cell (j := 0) (by simp)
          simp only [List.getElem_cons_zero] at v0
          have u0 := b4.free 0
          obtain ⟨g1, g2, g3⟩ := b3.put5 hB2 (by omega) (.int .i64 0) (.slice none 0 0) (.slice none 0 0) (.slice none 0 0) .nilIface
          have hst : Ext w ((((((W2.setCell ⟨w.heap.size + 2, 0, none⟩ (.int .i64 0)).setCell ⟨w.heap.size + 2, 1, none⟩ (.slice none 0 0)).setCell ⟨w.heap.size + 2, 2, none⟩ (.slice none 0 0)).setCell ⟨w.heap.size + 2, 3, none⟩ (.slice none 0 0)).setCell ⟨w.heap.size + 2, 4, none⟩ .nilIface).setCell ⟨w.heap.size + 3, 0, none⟩ (.bool false)) ∧ RowC 38 ((((((W2.setCell ⟨w.heap.size + 2, 0, none⟩ (.int .i64 0)).setCell ⟨w.heap.size + 2, 1, none⟩ (.slice none 0 0)).setCell ⟨w.heap.size + 2, 2, none⟩ (.slice none 0 0)).setCell ⟨w.heap.size + 2, 3, none⟩ (.slice none 0 0)).setCell ⟨w.heap.size + 2, 4, none⟩ .nilIface).setCell ⟨w.heap.size + 3, 0, none⟩ (.bool false)) (w.heap.size + 2) [(.int .i64 0), (.slice none 0 0), (.slice none 0 0), (.slice none 0 0), .nilIface] ∧ RowC 4 ((((((W2.setCell ⟨w.heap.size + 2, 0, none⟩ (.int .i64 0)).setCell ⟨w.heap.size + 2, 1, none⟩ (.slice none 0 0)).setCell ⟨w.heap.size + 2, 2, none⟩ (.slice none 0 0)).setCell ⟨w.heap.size + 2, 3, none⟩ (.slice none 0 0)).setCell ⟨w.heap.size + 2, 4, none⟩ .nilIface).setCell ⟨w.heap.size + 3, 0, none⟩ (.bool false)) (w.heap.size + 3) [.bool false] ∧ KeepsOthers W ((((((W2.setCell ⟨w.heap.size + 2, 0, none⟩ (.int .i64 0)).setCell ⟨w.heap.size + 2, 1, none⟩ (.slice none 0 0)).setCell ⟨w.heap.size + 2, 2, none⟩ (.slice none 0 0)).setCell ⟨w.heap.size + 2, 3, none⟩ (.slice none 0 0)).setCell ⟨w.heap.size + 2, 4, none⟩ .nilIface).setCell ⟨w.heap.size + 3, 0, none⟩ (.bool false)) := ⟨g1.setCell (p := ⟨w.heap.size + 3, 0, none⟩) (by simp) _, g2.kept (Below.heap_setCell _ _ _ _ (by simp)), (b4.kept (g3 _ (by omega))).set 0 _, hKO.trans ((((((KeepsOthers.setCell _ _ _).trans (KeepsOthers.setCell _ _ _)).trans (KeepsOthers.setCell _ _ _)).trans (KeepsOthers.setCell _ _ _)).trans (KeepsOthers.setCell _ _ _)).trans (KeepsOthers.setCell _ _ _))⟩
          have HST := Lib.hid hst
          clear g1 g2 g3 hst b3 b4 hB2 hKO hEd q1 q2 q3 q4
          gi_wp2
          obtain ⟨t1, t2, t3, t4⟩ := HST.out
          refine ⟨t4, ⟨rfl, _, _, _, _, _, t2, by rw [HGV.out]; exact t3, by rw [HGF.out]; rfl, by rw [HGV.out]; exact Arr.zero_at _ _⟩, t1⟩
        · have h1 : (sl.length : Int) ≤ s := by omega
          clear hout
          gi_wp2
          have hd0 : decide (s < 0) = false := by simp; omega
          refine region_round_quiet (by kernel_rfl) (by kernel_rfl) (by kernel_rfl) ?_
          repeat (go_big_quiet_step (fail))
          refine wpQuiet_nil ?_
          rintro _ ⟨nq, rfl⟩
          have hEd : Ext W (W.drewN nq) := (Ext.refl _).drewN _
          have b3 := q3.ext hEd
          have b4 := q4.ext hEd
          have hB2 : Ext w (W.drewN nq) := Ext.trans hB hEd
          have hKO := KeepsOthers.of_ext hEd
          generalize W.drewN nq = W2 at *
          obtain ⟨x0, x1, x2, x3, x4⟩ := b3.cell5
          have y0 := b3.free 0
          have y1 := b3.free 1
          have y2 := b3.free 2
          have y3 := b3.free 3
          have y4 := b3.free 4
          have v0 := b4.cell (j := 0) (by simp)
          simp only [List.getElem_cons_zero] at v0
          have u0 := b4.free 0
          obtain ⟨g1, g2, g3⟩ := b3.put5 hB2 (by omega) (.int .i64 0) (.slice none 0 0) (.slice none 0 0) (.slice none 0 0) .nilIface
          have hst : Ext w ((((((W2.setCell ⟨w.heap.size + 2, 0, none⟩ (.int .i64 0)).setCell ⟨w.heap.size + 2, 1, none⟩ (.slice none 0 0)).setCell ⟨w.heap.size + 2, 2, none⟩ (.slice none 0 0)).setCell ⟨w.heap.size + 2, 3, none⟩ (.slice none 0 0)).setCell ⟨w.heap.size + 2, 4, none⟩ .nilIface).setCell ⟨w.heap.size + 3, 0, none⟩ (.bool false)) ∧ RowC 38 ((((((W2.setCell ⟨w.heap.size + 2, 0, none⟩ (.int .i64 0)).setCell ⟨w.heap.size + 2, 1, none⟩ (.slice none 0 0)).setCell ⟨w.heap.size + 2, 2, none⟩ (.slice none 0 0)).setCell ⟨w.heap.size + 2, 3, none⟩ (.slice none 0 0)).setCell ⟨w.heap.size + 2, 4, none⟩ .nilIface).setCell ⟨w.heap.size + 3, 0, none⟩ (.bool false)) (w.heap.size + 2) [(.int .i64 0), (.slice none 0 0), (.slice none 0 0), (.slice none 0 0), .nilIface] ∧ RowC 4 ((((((W2.setCell ⟨w.heap.size + 2, 0, none⟩ (.int .i64 0)).setCell ⟨w.heap.size + 2, 1, none⟩ (.slice none 0 0)).setCell ⟨w.heap.size + 2, 2, none⟩ (.slice none 0 0)).setCell ⟨w.heap.size + 2, 3, none⟩ (.slice none 0 0)).setCell ⟨w.heap.size + 2, 4, none⟩ .nilIface).setCell ⟨w.heap.size + 3, 0, none⟩ (.bool false)) (w.heap.size + 3) [.bool false] ∧ KeepsOthers W ((((((W2.setCell ⟨w.heap.size + 2, 0, none⟩ (.int .i64 0)).setCell ⟨w.heap.size + 2, 1, none⟩ (.slice none 0 0)).setCell ⟨w.heap.size + 2, 2, none⟩ (.slice none 0 0)).setCell ⟨w.heap.size + 2, 3, none⟩ (.slice none 0 0)).setCell ⟨w.heap.size + 2, 4, none⟩ .nilIface).setCell ⟨w.heap.size + 3, 0, none⟩ (.bool false)) := ⟨g1.setCell (p := ⟨w.heap.size + 3, 0, none⟩) (by simp) _, g2.kept (Below.heap_setCell _ _ _ _ (by simp)), (b4.kept (g3 _ (by omega))).set 0 _, hKO.trans ((((((KeepsOthers.setCell _ _ _).trans (KeepsOthers.setCell _ _ _)).trans (KeepsOthers.setCell _ _ _)).trans (KeepsOthers.setCell _ _ _)).trans (KeepsOthers.setCell _ _ _)).trans (KeepsOthers.setCell _ _ _))⟩
          have HST := Lib.hid hst
          clear g1 g2 g3 hst b3 b4 hB2 hKO hEd q1 q2 q3 q4
          gi_wp2
          obtain ⟨t1, t2, t3, t4⟩ := HST.out
          refine ⟨t4, ⟨rfl, _, _, _, _, _, t2, by rw [HGV.out]; exact t3, by rw [HGF.out]; rfl, by rw [HGV.out]; exact Arr.zero_at _ _⟩, t1⟩
      · obtain ⟨j, rfl⟩ : ∃ j : Nat, s = (j : Int) := ⟨s.toNat, by omega⟩
        have hj : j < sl.length := by omega
        clear hin
        have k7 := hF3.cell (j := j) (by simpa using hj)
        rw [List.getElem_map] at k7
        cases hsj : sl[j] with
        | no =>
          have hno : slotV sl (j : Int) = none ∧ slotF sl (j : Int) = false := by
            unfold slotV slotF
            rw [if_neg (by omega), if_neg (by omega)]
            simp [List.getElem?_eq_getElem hj, hsj]
          rw [hno.1] at hgv
          rw [hno.2] at hgf
          rw [hsj] at k7
          simp only [Slot.used] at k7
          have HGV := Lib.hid hgv
          have HGF := Lib.hid hgf
          clear hgv hgf hno hsl hcl f1 f2 f3 hF3
          gi_wp2
          have hd0 : decide ((j : Int) < 0) = false := by simp
          have hd1 : decide (sl.length ≤ j) = false := by simp; omega
          refine region_round_quiet (by kernel_rfl) (by kernel_rfl) (by kernel_rfl) ?_
          repeat (go_big_quiet_step (fail))
          refine wpQuiet_nil ?_
          rintro _ ⟨nq, rfl⟩
          have hEd : Ext W (W.drewN nq) := (Ext.refl _).drewN _
          have b3 := q3.ext hEd
          have b4 := q4.ext hEd
          have hB2 : Ext w (W.drewN nq) := Ext.trans hB hEd
          have hKO := KeepsOthers.of_ext hEd
          generalize W.drewN nq = W2 at *
          obtain ⟨x0, x1, x2, x3, x4⟩ := b3.cell5
          have y0 := b3.free 0
          have y1 := b3.free 1
          have y2 := b3.free 2
          have y3 := b3.free 3
          have y4 := b3.free 4
          have v0 := b4.cell (j := 0) (by simp)
          simp only [List.getElem_cons_zero] at v0
          have u0 := b4.free 0
          obtain ⟨g1, g2, g3⟩ := b3.put5 hB2 (by omega) (.int .i64 0) (.slice none 0 0) (.slice none 0 0) (.slice none 0 0) .nilIface
          have hst : Ext w ((((((W2.setCell ⟨w.heap.size + 2, 0, none⟩ (.int .i64 0)).setCell ⟨w.heap.size + 2, 1, none⟩ (.slice none 0 0)).setCell ⟨w.heap.size + 2, 2, none⟩ (.slice none 0 0)).setCell ⟨w.heap.size + 2, 3, none⟩ (.slice none 0 0)).setCell ⟨w.heap.size + 2, 4, none⟩ .nilIface).setCell ⟨w.heap.size + 3, 0, none⟩ (.bool false)) ∧ RowC 38 ((((((W2.setCell ⟨w.heap.size + 2, 0, none⟩ (.int .i64 0)).setCell ⟨w.heap.size + 2, 1, none⟩ (.slice none 0 0)).setCell ⟨w.heap.size + 2, 2, none⟩ (.slice none 0 0)).setCell ⟨w.heap.size + 2, 3, none⟩ (.slice none 0 0)).setCell ⟨w.heap.size + 2, 4, none⟩ .nilIface).setCell ⟨w.heap.size + 3, 0, none⟩ (.bool false)) (w.heap.size + 2) [(.int .i64 0), (.slice none 0 0), (.slice none 0 0), (.slice none 0 0), .nilIface] ∧ RowC 4 ((((((W2.setCell ⟨w.heap.size + 2, 0, none⟩ (.int .i64 0)).setCell ⟨w.heap.size + 2, 1, none⟩ (.slice none 0 0)).setCell ⟨w.heap.size + 2, 2, none⟩ (.slice none 0 0)).setCell ⟨w.heap.size + 2, 3, none⟩ (.slice none 0 0)).setCell ⟨w.heap.size + 2, 4, none⟩ .nilIface).setCell ⟨w.heap.size + 3, 0, none⟩ (.bool false)) (w.heap.size + 3) [.bool false] ∧ KeepsOthers W ((((((W2.setCell ⟨w.heap.size + 2, 0, none⟩ (.int .i64 0)).setCell ⟨w.heap.size + 2, 1, none⟩ (.slice none 0 0)).setCell ⟨w.heap.size + 2, 2, none⟩ (.slice none 0 0)).setCell ⟨w.heap.size + 2, 3, none⟩ (.slice none 0 0)).setCell ⟨w.heap.size + 2, 4, none⟩ .nilIface).setCell ⟨w.heap.size + 3, 0, none⟩ (.bool false)) := ⟨g1.setCell (p := ⟨w.heap.size + 3, 0, none⟩) (by simp) _, g2.kept (Below.heap_setCell _ _ _ _ (by simp)), (b4.kept (g3 _ (by omega))).set 0 _, hKO.trans ((((((KeepsOthers.setCell _ _ _).trans (KeepsOthers.setCell _ _ _)).trans (KeepsOthers.setCell _ _ _)).trans (KeepsOthers.setCell _ _ _)).trans (KeepsOthers.setCell _ _ _)).trans (KeepsOthers.setCell _ _ _))⟩
          have HST := Lib.hid hst
          clear g1 g2 g3 hst b3 b4 hB2 hKO hEd q1 q2 q3 q4
          gi_wp2
          obtain ⟨t1, t2, t3, t4⟩ := HST.out
          refine ⟨t4, ⟨rfl, _, _, _, _, _, t2, by rw [HGV.out]; exact t3, by rw [HGF.out]; rfl, by rw [HGV.out]; exact Arr.zero_at _ _⟩, t1⟩
        | arr t =>
          have hyes : slotV sl (j : Int) = some t ∧ slotF sl (j : Int) = false := by
            unfold slotV slotF
            rw [if_neg (by omega), if_neg (by omega)]
            simp [List.getElem?_eq_getElem hj, hsj]
          rw [hyes.1] at hgv
          rw [hyes.2] at hgf
          rw [hsj] at k7
          simp only [Slot.used] at k7
          obtain ⟨c0, c1, c2, c3, cv, m0, m1, m2, m3, m4, hv, ha⟩ := hsl j hj
          rw [hsj] at ha hv
          obtain rfl : cv = .nilIface := hv
          simp only [Slot.tree] at ha
          have HGV := Lib.hid hgv
          have HGF := Lib.hid hgf
          clear hgv hgf hyes
          gi_wp2
          have hd0 : decide ((j : Int) < 0) = false := by simp
          have hd1 : decide (sl.length ≤ j) = false := by simp; omega
          refine region_round_quiet (by kernel_rfl) (by kernel_rfl) (by kernel_rfl) ?_
          repeat (go_big_quiet_step (fail))
          refine wpQuiet_nil ?_
          rintro _ ⟨nq, rfl⟩
          have hEd : Ext W (W.drewN nq) := (Ext.refl _).drewN _
          have b3 := q3.ext hEd
          have b4 := q4.ext hEd
          have hB1 : Ext w (W.drewN nq) := Ext.trans hB hEd
          have hKO1 := KeepsOthers.of_ext hEd
          have ha1 := ha.ext hEd
          replace k2 := hEd.cell k2
          replace k5 := hEd.cell k5
          have n0 := hEd.cell (f2.cell' m0)
          have n1 := hEd.cell (f2.cell' m1)
          have n2 := hEd.cell (f2.cell' m2)
          have n3 := hEd.cell (f2.cell' m3)
          have n4 := hEd.cell (f2.cell' m4)
          clear q1 q2 q3 q4 f1 f2 f3 hF3 hsl m0 m1 m2 m3 m4 ha
          generalize W.drewN nq = W1 at *
          gi_wp2
          have hS0 : Ext W1 W1.drew := (Ext.refl _).drew
          refine wpIn_region_g [0, 1, 2, 3, 4, 5, 6] [7, 8, 9] (fun w' => Ext W1 w') (by kernel_rfl) (by kernel_rfl) (by kernel_rfl) hS0 ?_
          iterate 7
            refine wpHead_cons (v := ?_) rfl (by rfl) (fun w' hS => ?_) ?_
            rotate_left
            · have a2 := hS.cell k2
              have a5 := hS.cell k5
              have o0 := hS.cell n0
              have o1 := hS.cell n1
              have o2 := hS.cell n2
              have o3 := hS.cell n3
              have o4 := hS.cell n4
              go_simp
              try with_reducible rfl
            try simp only [Act.put, List.setIfInBounds_toArray, List.set]
          unfold wpHead
          clear n0 n1 n2 n3 n4 k2 k5 k6 k7
          refine wpTail_cons rfl (fun K hK => ?_)
          go_wp2_with fail
          refine (kept_anyF _ t _ _ _ _ W1.drew (ha1.ext hS0)).mono ?_
          rintro e W2 ⟨e0, e1, e2, e3, rfl, hC, hE2⟩
          obtain ⟨zk, zp1, zl1, zc1, zp2, zl2, zc2, zp3, zl3, zc3, rfl, rfl, rfl, rfl⟩ := hC.form
          have hE3 : Ext W1 W2 := hS0.trans hE2
          go_wp2_with fail
          refine hK _ _ hE3 ?_
          try simp only [Act.put, List.setIfInBounds_toArray, List.set]
          clear hK
          refine wpTail_free2 rfl rfl (by kernel_rfl) ?_
          have hw1 : w.heap.size + 3 < W1.heap.size := b4.lt
          replace b3 := b3.ext hE3
          replace b4 := b4.ext hE3
          have hB2 := hB1.trans hE3
          have hKO := hKO1.trans (KeepsOthers.of_ext hE3)
          obtain ⟨x0, x1, x2, x3, x4⟩ := b3.cell5
          have y0 := b3.free 0
          have y1 := b3.free 1
          have y2 := b3.free 2
          have y3 := b3.free 3
          have y4 := b3.free 4
          have v0 := b4.cell (j := 0) (by simp)
          simp only [List.getElem_cons_zero] at v0
          have u0 := b4.free 0
          obtain ⟨g1, g2, g3⟩ := b3.put5 hB2 (by omega) (.int .i64 zk) (.slice zp1 zl1 zc1) (.slice zp2 zl2 zc2) (.slice zp3 zl3 zc3) .nilIface
          have hst : Ext w ((((((W2.setCell ⟨w.heap.size + 2, 0, none⟩ (.int .i64 zk)).setCell ⟨w.heap.size + 2, 1, none⟩ (.slice zp1 zl1 zc1)).setCell ⟨w.heap.size + 2, 2, none⟩ (.slice zp2 zl2 zc2)).setCell ⟨w.heap.size + 2, 3, none⟩ (.slice zp3 zl3 zc3)).setCell ⟨w.heap.size + 2, 4, none⟩ .nilIface).setCell ⟨w.heap.size + 3, 0, none⟩ (.bool true)) ∧ RowC 38 ((((((W2.setCell ⟨w.heap.size + 2, 0, none⟩ (.int .i64 zk)).setCell ⟨w.heap.size + 2, 1, none⟩ (.slice zp1 zl1 zc1)).setCell ⟨w.heap.size + 2, 2, none⟩ (.slice zp2 zl2 zc2)).setCell ⟨w.heap.size + 2, 3, none⟩ (.slice zp3 zl3 zc3)).setCell ⟨w.heap.size + 2, 4, none⟩ .nilIface).setCell ⟨w.heap.size + 3, 0, none⟩ (.bool true)) (w.heap.size + 2) [(.int .i64 zk), (.slice zp1 zl1 zc1), (.slice zp2 zl2 zc2), (.slice zp3 zl3 zc3), .nilIface] ∧ RowC 4 ((((((W2.setCell ⟨w.heap.size + 2, 0, none⟩ (.int .i64 zk)).setCell ⟨w.heap.size + 2, 1, none⟩ (.slice zp1 zl1 zc1)).setCell ⟨w.heap.size + 2, 2, none⟩ (.slice zp2 zl2 zc2)).setCell ⟨w.heap.size + 2, 3, none⟩ (.slice zp3 zl3 zc3)).setCell ⟨w.heap.size + 2, 4, none⟩ .nilIface).setCell ⟨w.heap.size + 3, 0, none⟩ (.bool true)) (w.heap.size + 3) [.bool true] ∧ KeepsOthers W ((((((W2.setCell ⟨w.heap.size + 2, 0, none⟩ (.int .i64 zk)).setCell ⟨w.heap.size + 2, 1, none⟩ (.slice zp1 zl1 zc1)).setCell ⟨w.heap.size + 2, 2, none⟩ (.slice zp2 zl2 zc2)).setCell ⟨w.heap.size + 2, 3, none⟩ (.slice zp3 zl3 zc3)).setCell ⟨w.heap.size + 2, 4, none⟩ .nilIface).setCell ⟨w.heap.size + 3, 0, none⟩ (.bool true)) := ⟨g1.setCell (p := ⟨w.heap.size + 3, 0, none⟩) (by simp) _, g2.kept (Below.heap_setCell _ _ _ _ (by simp)), (b4.kept (g3 _ (by omega))).set 0 _, hKO.trans ((((((KeepsOthers.setCell _ _ _).trans (KeepsOthers.setCell _ _ _)).trans (KeepsOthers.setCell _ _ _)).trans (KeepsOthers.setCell _ _ _)).trans (KeepsOthers.setCell _ _ _)).trans (KeepsOthers.setCell _ _ _))⟩
          have HST := Lib.hid hst
          have HAR := Lib.hid (ArrAt.mono (G := fun b => w.heap.size ≤ b ∧ Fz.NoFz ((((((W2.setCell ⟨w.heap.size + 2, 0, none⟩ (.int .i64 zk)).setCell ⟨w.heap.size + 2, 1, none⟩ (.slice zp1 zl1 zc1)).setCell ⟨w.heap.size + 2, 2, none⟩ (.slice zp2 zl2 zc2)).setCell ⟨w.heap.size + 2, 3, none⟩ (.slice zp3 zl3 zc3)).setCell ⟨w.heap.size + 2, 4, none⟩ .nilIface).setCell ⟨w.heap.size + 3, 0, none⟩ (.bool true)) b) (w' := ((((((W2.setCell ⟨w.heap.size + 2, 0, none⟩ (.int .i64 zk)).setCell ⟨w.heap.size + 2, 1, none⟩ (.slice zp1 zl1 zc1)).setCell ⟨w.heap.size + 2, 2, none⟩ (.slice zp2 zl2 zc2)).setCell ⟨w.heap.size + 2, 3, none⟩ (.slice zp3 zl3 zc3)).setCell ⟨w.heap.size + 2, 4, none⟩ .nilIface).setCell ⟨w.heap.size + 3, 0, none⟩ (.bool true))) (fun b hb _ => ⟨⟨by have : W1.drew.heap.size ≤ b := hb.1; simp at this; omega, hb.2.kept (by have : W1.drew.heap.size ≤ b := hb.1; simp at this; exact (Below.heap_setCell _ _ _ _ (by simp; omega)).trans (g3 b (by omega)))⟩, by have : W1.drew.heap.size ≤ b := hb.1; simp at this; exact (Below.heap_setCell _ _ _ _ (by simp; omega)).trans (g3 b (by omega))⟩) _ _ _ _ _ hC)
          clear g1 g2 g3 hst b3 b4 hB2 hKO hEd hC hKO1 hB1 hE3 hE2 ha1
          go_wp2_with fail
          refine OnlyN.mk ?_
          obtain ⟨t1, t2, t3, t4⟩ := HST.out
          gi_wp2
          refine ⟨t4, ⟨rfl, _, _, _, _, _, t2, by rw [HGV.out]; exact t3, by rw [HGF.out]; rfl, by rw [HGV.out]; exact HAR.out⟩, t1⟩
        | fn =>
          have hyes : slotV sl (j : Int) = some Arr.zero ∧ slotF sl (j : Int) = true := by
            unfold slotV slotF
            rw [if_neg (by omega), if_neg (by omega)]
            simp [List.getElem?_eq_getElem hj, hsj]
          rw [hyes.1] at hgv
          rw [hyes.2] at hgf
          rw [hsj] at k7
          simp only [Slot.used] at k7
          obtain ⟨c0, c1, c2, c3, cv, m0, m1, m2, m3, m4, hv, ha⟩ := hsl j hj
          rw [hsj] at ha hv
          obtain ⟨T9, y9, rfl⟩ : ∃ T x, cv = .iface T x := hv
          obtain ⟨ak, ap1, al1, am1, ap2, al2, am2, ap3, al3, am3, rfl, rfl, rfl, rfl⟩ := ha.form
          simp only [Slot.tree] at ha
          have HGV := Lib.hid hgv
          have HGF := Lib.hid hgf
          clear hgv hgf hyes
          gi_wp2
          have hd0 : decide ((j : Int) < 0) = false := by simp
          have hd1 : decide (sl.length ≤ j) = false := by simp; omega
          refine region_round_quiet (by kernel_rfl) (by kernel_rfl) (by kernel_rfl) ?_
          repeat (go_big_quiet_step (fail))
          refine wpQuiet_nil ?_
          rintro _ ⟨nq, rfl⟩
          have hEd : Ext W (W.drewN nq) := (Ext.refl _).drewN _
          have b3 := q3.ext hEd
          have b4 := q4.ext hEd
          have hB1 : Ext w (W.drewN nq) := Ext.trans hB hEd
          have hKO1 := KeepsOthers.of_ext hEd
          have ha1 := ha.ext hEd
          replace k2 := hEd.cell k2
          replace k5 := hEd.cell k5
          have n0 := hEd.cell (f2.cell' m0)
          have n1 := hEd.cell (f2.cell' m1)
          have n2 := hEd.cell (f2.cell' m2)
          have n3 := hEd.cell (f2.cell' m3)
          have n4 := hEd.cell (f2.cell' m4)
          clear q1 q2 q3 q4 f1 f2 f3 hF3 hsl m0 m1 m2 m3 m4 ha
          generalize W.drewN nq = W1 at *
          gi_wp2
          have hS0 : Ext W1 W1.drew := (Ext.refl _).drew
          refine wpIn_region_g [0, 1, 2, 3, 4, 5, 6] [7, 8, 9] (fun w' => Ext W1 w') (by kernel_rfl) (by kernel_rfl) (by kernel_rfl) hS0 ?_
          iterate 7
            refine wpHead_cons (v := ?_) rfl (by rfl) (fun w' hS => ?_) ?_
            rotate_left
            · have a2 := hS.cell k2
              have a5 := hS.cell k5
              have o0 := hS.cell n0
              have o1 := hS.cell n1
              have o2 := hS.cell n2
              have o3 := hS.cell n3
              have o4 := hS.cell n4
              go_simp
              try with_reducible rfl
            try simp only [Act.put, List.setIfInBounds_toArray, List.set]
          unfold wpHead
          clear n0 n1 n2 n3 n4 k2 k5 k6 k7
          refine wpTail_cons rfl (fun K hK => ?_)
          go_wp2_with fail
          refine (kept_fun _ _ _ _ _ _ _ _ _ _ T9 y9 W1.drew).mono ?_
          rintro e W2 ⟨rfl, hE2⟩
          have hE3 : Ext W1 W2 := hS0.trans hE2
          go_wp2_with fail
          refine hK _ _ hE3 ?_
          try simp only [Act.put, List.setIfInBounds_toArray, List.set]
          clear hK
          refine wpTail_free2 rfl rfl (by kernel_rfl) ?_
          have hw1 : w.heap.size + 3 < W1.heap.size := b4.lt
          replace b3 := b3.ext hE3
          replace b4 := b4.ext hE3
          have hB2 := hB1.trans hE3
          have hKO := hKO1.trans (KeepsOthers.of_ext hE3)
          obtain ⟨x0, x1, x2, x3, x4⟩ := b3.cell5
          have y0 := b3.free 0
          have y1 := b3.free 1
          have y2 := b3.free 2
          have y3 := b3.free 3
          have y4 := b3.free 4
          have v0 := b4.cell (j := 0) (by simp)
          simp only [List.getElem_cons_zero] at v0
          have u0 := b4.free 0
          obtain ⟨g1, g2, g3⟩ := b3.put5 hB2 (by omega) (.int .i64 0) (.slice none 0 0) (.slice none 0 0) (.slice none 0 0) (.iface T9 y9)
          have hst : Ext w ((((((W2.setCell ⟨w.heap.size + 2, 0, none⟩ (.int .i64 0)).setCell ⟨w.heap.size + 2, 1, none⟩ (.slice none 0 0)).setCell ⟨w.heap.size + 2, 2, none⟩ (.slice none 0 0)).setCell ⟨w.heap.size + 2, 3, none⟩ (.slice none 0 0)).setCell ⟨w.heap.size + 2, 4, none⟩ (.iface T9 y9)).setCell ⟨w.heap.size + 3, 0, none⟩ (.bool true)) ∧ RowC 38 ((((((W2.setCell ⟨w.heap.size + 2, 0, none⟩ (.int .i64 0)).setCell ⟨w.heap.size + 2, 1, none⟩ (.slice none 0 0)).setCell ⟨w.heap.size + 2, 2, none⟩ (.slice none 0 0)).setCell ⟨w.heap.size + 2, 3, none⟩ (.slice none 0 0)).setCell ⟨w.heap.size + 2, 4, none⟩ (.iface T9 y9)).setCell ⟨w.heap.size + 3, 0, none⟩ (.bool true)) (w.heap.size + 2) [(.int .i64 0), (.slice none 0 0), (.slice none 0 0), (.slice none 0 0), (.iface T9 y9)] ∧ RowC 4 ((((((W2.setCell ⟨w.heap.size + 2, 0, none⟩ (.int .i64 0)).setCell ⟨w.heap.size + 2, 1, none⟩ (.slice none 0 0)).setCell ⟨w.heap.size + 2, 2, none⟩ (.slice none 0 0)).setCell ⟨w.heap.size + 2, 3, none⟩ (.slice none 0 0)).setCell ⟨w.heap.size + 2, 4, none⟩ (.iface T9 y9)).setCell ⟨w.heap.size + 3, 0, none⟩ (.bool true)) (w.heap.size + 3) [.bool true] ∧ KeepsOthers W ((((((W2.setCell ⟨w.heap.size + 2, 0, none⟩ (.int .i64 0)).setCell ⟨w.heap.size + 2, 1, none⟩ (.slice none 0 0)).setCell ⟨w.heap.size + 2, 2, none⟩ (.slice none 0 0)).setCell ⟨w.heap.size + 2, 3, none⟩ (.slice none 0 0)).setCell ⟨w.heap.size + 2, 4, none⟩ (.iface T9 y9)).setCell ⟨w.heap.size + 3, 0, none⟩ (.bool true)) := ⟨g1.setCell (p := ⟨w.heap.size + 3, 0, none⟩) (by simp) _, g2.kept (Below.heap_setCell _ _ _ _ (by simp)), (b4.kept (g3 _ (by omega))).set 0 _, hKO.trans ((((((KeepsOthers.setCell _ _ _).trans (KeepsOthers.setCell _ _ _)).trans (KeepsOthers.setCell _ _ _)).trans (KeepsOthers.setCell _ _ _)).trans (KeepsOthers.setCell _ _ _)).trans (KeepsOthers.setCell _ _ _))⟩
          have HST := Lib.hid hst
          clear g1 g2 g3 hst b3 b4 hB2 hKO hEd hKO1 hB1 hE3 hE2 ha1
          go_wp2_with fail
          refine OnlyN.mk ?_
          obtain ⟨t1, t2, t3, t4⟩ := HST.out
          gi_wp2
          refine ⟨t4, ⟨rfl, _, _, _, _, _, t2, by rw [HGV.out]; exact t3, by rw [HGF.out]; exact ⟨_, _, rfl⟩, by rw [HGV.out]; exact Arr.zero_at _ _⟩, t1⟩
  case done =>
    rintro D ys W hD hys ⟨⟨hp, q1, q2, q3, q4⟩, hB⟩ hK
    have hgv : getV l d s = none := getV_none fun x hx => by
      rw [← hys] at hx
      obtain ⟨y, hy, rfl⟩ := List.mem_map.1 hx
      exact hp y hy
    have hgf : getF l d s = false := getF_none fun x hx => by
      rw [← hys] at hx
      obtain ⟨y, hy, rfl⟩ := List.mem_map.1 hx
      exact hp y hy
    have HGV := Lib.hid hgv
    have HGF := Lib.hid hgf
    obtain ⟨W2, rfl⟩ : ∃ wx : World, wx = W := ⟨_, rfl⟩
    have b3 := q3
    have b4 := q4
    have hB2 : Ext w W2 := hB
    have hKO : KeepsOthers W2 W2 := KeepsOthers.refl _
    obtain ⟨x0, x1, x2, x3, x4⟩ := b3.cell5
    have y0 := b3.free 0
    have y1 := b3.free 1
    have y2 := b3.free 2
    have y3 := b3.free 3
    have y4 := b3.free 4
    have v0 := b4.cell (j := 0) (by simp)
    simp only [List.getElem_cons_zero] at v0
    have u0 := b4.free 0
    obtain ⟨g1, g2, g3⟩ := b3.put5 hB2 (by omega) (.int .i64 0) (.slice none 0 0) (.slice none 0 0) (.slice none 0 0) .nilIface
    have hst : Ext w ((((((W2.setCell ⟨w.heap.size + 2, 0, none⟩ (.int .i64 0)).setCell ⟨w.heap.size + 2, 1, none⟩ (.slice none 0 0)).setCell ⟨w.heap.size + 2, 2, none⟩ (.slice none 0 0)).setCell ⟨w.heap.size + 2, 3, none⟩ (.slice none 0 0)).setCell ⟨w.heap.size + 2, 4, none⟩ .nilIface).setCell ⟨w.heap.size + 3, 0, none⟩ (.bool false)) ∧ RowC 38 ((((((W2.setCell ⟨w.heap.size + 2, 0, none⟩ (.int .i64 0)).setCell ⟨w.heap.size + 2, 1, none⟩ (.slice none 0 0)).setCell ⟨w.heap.size + 2, 2, none⟩ (.slice none 0 0)).setCell ⟨w.heap.size + 2, 3, none⟩ (.slice none 0 0)).setCell ⟨w.heap.size + 2, 4, none⟩ .nilIface).setCell ⟨w.heap.size + 3, 0, none⟩ (.bool false)) (w.heap.size + 2) [(.int .i64 0), (.slice none 0 0), (.slice none 0 0), (.slice none 0 0), .nilIface] ∧ RowC 4 ((((((W2.setCell ⟨w.heap.size + 2, 0, none⟩ (.int .i64 0)).setCell ⟨w.heap.size + 2, 1, none⟩ (.slice none 0 0)).setCell ⟨w.heap.size + 2, 2, none⟩ (.slice none 0 0)).setCell ⟨w.heap.size + 2, 3, none⟩ (.slice none 0 0)).setCell ⟨w.heap.size + 2, 4, none⟩ .nilIface).setCell ⟨w.heap.size + 3, 0, none⟩ (.bool false)) (w.heap.size + 3) [.bool false] ∧ KeepsOthers W2 ((((((W2.setCell ⟨w.heap.size + 2, 0, none⟩ (.int .i64 0)).setCell ⟨w.heap.size + 2, 1, none⟩ (.slice none 0 0)).setCell ⟨w.heap.size + 2, 2, none⟩ (.slice none 0 0)).setCell ⟨w.heap.size + 2, 3, none⟩ (.slice none 0 0)).setCell ⟨w.heap.size + 2, 4, none⟩ .nilIface).setCell ⟨w.heap.size + 3, 0, none⟩ (.bool false)) := ⟨g1.setCell (p := ⟨w.heap.size + 3, 0, none⟩) (by simp) _, g2.kept (Below.heap_setCell _ _ _ _ (by simp)), (b4.kept (g3 _ (by omega))).set 0 _, hKO.trans ((((((KeepsOthers.setCell _ _ _).trans (KeepsOthers.setCell _ _ _)).trans (KeepsOthers.setCell _ _ _)).trans (KeepsOthers.setCell _ _ _)).trans (KeepsOthers.setCell _ _ _)).trans (KeepsOthers.setCell _ _ _))⟩
    have HST := Lib.hid hst
    clear g1 g2 g3 hst b3 b4 hB2 hKO q1 q2 q3 q4 hp
    gi_wp2
    obtain ⟨t1, t2, t3, t4⟩ := HST.out
    have hK2 := t4.same D _ hK rfl
    have hr : ∀ r, some D = some r → ∃ o : Obj, ((((((W2.setCell ⟨w.heap.size + 2, 0, none⟩ (.int .i64 0)).setCell ⟨w.heap.size + 2, 1, none⟩ (.slice none 0 0)).setCell ⟨w.heap.size + 2, 2, none⟩ (.slice none 0 0)).setCell ⟨w.heap.size + 2, 3, none⟩ (.slice none 0 0)).setCell ⟨w.heap.size + 2, 4, none⟩ .nilIface).setCell ⟨w.heap.size + 3, 0, none⟩ (.bool false)).heap[r]? = some o ∧ o.isCells = false := fun r e => by cases e; exact ⟨_, hK2, rfl⟩
    generalize ((((((W2.setCell ⟨w.heap.size + 2, 0, none⟩ (.int .i64 0)).setCell ⟨w.heap.size + 2, 1, none⟩ (.slice none 0 0)).setCell ⟨w.heap.size + 2, 2, none⟩ (.slice none 0 0)).setCell ⟨w.heap.size + 2, 3, none⟩ (.slice none 0 0)).setCell ⟨w.heap.size + 2, 4, none⟩ .nilIface).setCell ⟨w.heap.size + 3, 0, none⟩ (.bool false)) = W6 at *
    have hg := grownBy_putObj' W6 D (.deferred none)
    have p1 := rowC_own t2 hg hr
    have p2 := rowC_own t3 hg hr
    have hE9 : Ext w (W6.putObj D (.deferred none)) := Below.trans t1 (belowK_b (w := w) (Nat.le_refl _) W6 D _ _ (by omega) hK2 rfl rfl)
    refine ⟨by simp, .inl ⟨_, _, rfl, run_takeDeferred hK2, ?_⟩⟩
    obtain ⟨z0, z1, z2, z3, z4⟩ := p1.cell5
    have z5 := p2.cell (j := 0) (by simp)
    simp only [List.getElem_cons_zero] at z5
    refine ⟨.tuple #[.agg #[.int .i64 0, .slice none 0 0, .slice none 0 0, .slice none 0 0, .nilIface], .bool false], ?_, _, _, _, _, _, by rw [HGV.out]; rfl, by rw [HGF.out]; rfl, by rw [HGV.out]; exact Arr.zero_at _ _, hE9⟩
    simp [results, Try.f24, go_sem, z0, z1, z2, z3, z4, z5]
  case stop =>
    rintro D c pre W hD hpre ⟨⟨rfl, e0, e1, e2, e3, cv, q1, q2, qf, q3⟩, hB⟩ hK
    have hg := grownBy_putObj' W D (.deferred none)
    have hr : ∀ r, some D = some r → ∃ o : Obj, W.heap[r]? = some o ∧ o.isCells = false := fun r e => by cases e; exact ⟨_, hK, rfl⟩
    have p1 := rowC_own q1 hg hr
    have p2 := rowC_own q2 hg hr
    have p3 := Fz.ArrAt.ownF q3 hg hr
    have hE9 : Ext w (W.putObj D (.deferred none)) := hB.trans (belowK_b (w := w) (Nat.le_refl _) W D _ _ (by omega) hK rfl rfl)
    gi_wp2
    refine ⟨by simp, .inl ⟨_, _, rfl, run_takeDeferred hK, ?_⟩⟩
    obtain ⟨z0, z1, z2, z3, z4⟩ := p1.cell5
    have z5 := p2.cell (j := 0) (by simp)
    simp only [List.getElem_cons_zero] at z5
    refine ⟨.tuple #[.agg #[e0, e1, e2, e3, cv], .bool (getV l d s).isSome], ?_, _, _, _, _, _, rfl, qf, p3, hE9⟩
    simp [results, Try.f24, go_sem, z0, z1, z2, z3, z4, z5]
theorem get_anyV (F : Nat → Prop) (p0 : Option Addr) (l : List (Nat × List Slot)) (hl : l.length ≤ 1000000) (d s : Int) (w : World) (hL : IsFr F w p0 l) (hd : -9223372036854775808 ≤ d ∧ d ≤ 9223372036854775807) (hs : -9223372036854775808 ≤ s ∧ s ≤ 9223372036854775807) :
    Calls Try.prog 24 #[.pointer p0, .int .i64 d, .int .i64 s] w fun e W' => ∃ e0 e1 e2 e3 cv, e = .returned (.tuple #[.agg #[e0, e1, e2, e3, cv], .bool (getV l d s).isSome]) ∧ FunOk (getF l d s) cv ∧ ArrAt (fun b => w.heap.size ≤ b) W' ((getV l d s).getD Arr.zero) e0 e1 e2 e3 ∧ Ext w W' := by
  refine (get_anyF F p0 l hl d s w hL hd hs).mono ?_
  rintro e W' ⟨e0, e1, e2, e3, cv, he, hv, ha, hE⟩
  exact ⟨e0, e1, e2, e3, cv, he, hv, ArrAt.mono (fun _ hx _ => ⟨hx.1, rfl⟩) _ _ _ _ _ ha, hE⟩
theorem get_any (F : Nat → Prop) (p0 : Option Addr) (l : List (Nat × List Slot)) (hl : l.length ≤ 1000000) (d s : Int) (w : World) (hL : IsFr F w p0 l) (hd : -9223372036854775808 ≤ d ∧ d ≤ 9223372036854775807) (hs : -9223372036854775808 ≤ s ∧ s ≤ 9223372036854775807) (hf : getF l d s = false) :
    Calls Try.prog 24 #[.pointer p0, .int .i64 d, .int .i64 s] w fun e W' => ∃ e0 e1 e2 e3, e = .returned (.tuple #[.agg #[e0, e1, e2, e3, .nilIface], .bool (getV l d s).isSome]) ∧ ArrAt (fun b => w.heap.size ≤ b) W' ((getV l d s).getD Arr.zero) e0 e1 e2 e3 ∧ Ext w W' := by
  refine (get_anyV F p0 l hl d s w hL hd hs).mono ?_
  rintro e W' ⟨e0, e1, e2, e3, cv, he, hv, ha, hE⟩
  rw [hf] at hv
  obtain rfl : cv = .nilIface := hv
  exact ⟨e0, e1, e2, e3, he, ha, hE⟩
end Go.Proofs.Ytgkemmdghmklfaa

