/-
  THE STATE OF A RUN OF OPERATIONS ON FRAMES, and what the operations make of it. No walk.
-/
import Derived.Test.YtgkemmdghmklfaaFrNew
import Derived.Test.YtgkemmdghmklfaaFArrL
import Derived.Test.YtgkemmdghmklfaaApp
import Derived.Test.YtgkemmdghmklfaaSlice
namespace Go.Proofs.Ytgkemmdghmklfaa
set_option linter.unusedSimpArgs false
set_option linter.unusedVariables false
open Go.RowKit

theorem rdepth_any (p : Option Addr) (n c : Nat) (w : World) (hn : n ≤ 1000000) :
    Calls Try.prog 77 #[.slice p n c] w fun e w' => e = .returned (.int .i64 ((n - 1 : Nat) : Int)) ∧ w = w' := by
  by_cases h1 : (n : Int) ≤ 1
  · have h2 : ((n - 1 : Nat) : Int) = 0 := by omega
    rw [h2]
    clear h2
    go_enter Try.func77, Try.ntmps77
    go_wp2_with fail
    all_goals first | (exfalso; omega) | (go_ret; exact ⟨by first | rfl | trivial, by first | rfl | trivial⟩)
  · have h2 : ((n - 1 : Nat) : Int) = (n : Int) - 1 := by omega
    rw [h2]
    clear h2
    go_enter Try.func77, Try.ntmps77
    go_wp2_with fail
    all_goals first | (exfalso; omega) | (go_ret; exact ⟨by first | rfl | trivial, by first | rfl | trivial⟩)

/-- The six cells of the reference's slot, from (g, o) on. -/
def RSlotAt (F : Nat → Prop) (w : World) (s : Slot) (g o : Nat) : Prop :=
  ∃ c0 c1 c2 c3, w.cell? ⟨g, o, none⟩ = some (.bool s.used) ∧ w.cell? ⟨g, o + 1, none⟩ = some (.bool s.isFn) ∧ w.cell? ⟨g, o + 2, none⟩ = some c0 ∧ w.cell? ⟨g, o + 3, none⟩ = some c1 ∧ w.cell? ⟨g, o + 4, none⟩ = some c2 ∧ w.cell? ⟨g, o + 5, none⟩ = some c3 ∧ ArrAt F w s.tree c0 c1 c2 c3
/-- A slice of such slots. -/
def RowR (F : Nat → Prop) (w : World) (v : Value) (l : List Slot) : Prop :=
  ∃ p c, v = .slice p l.length c ∧ l.length ≤ 16384 ∧ ∀ i (h : i < l.length), ∃ g o, p = some ⟨g, o, none⟩ ∧ F g ∧ RSlotAt F w l[i] g (o + i * 6)
/-- A slice of these slices. -/
def FrsR (F : Nat → Prop) (w : World) (v : Value) (l : List (List Slot)) : Prop :=
  ∃ p c, v = .slice p l.length c ∧ (l.length ≤ 1000000 ∧ l.length ≤ c) ∧ ∀ i (h : i < l.length), ∃ g o rv, p = some ⟨g, o, none⟩ ∧ F g ∧ w.cell? ⟨g, o + i, none⟩ = some rv ∧ RowR F w rv l[i]
theorem cell_lt9 {w : World} {g o : Nat} {v : Value} (h : w.cell? ⟨g, o, none⟩ = some v) : g < w.heap.size := by
  unfold World.cell? at h
  rcases Nat.lt_or_ge g w.heap.size with hlt | hge
  · exact hlt
  · rw [Array.getElem?_eq_none hge] at h
    simp at h
theorem cell_same9 {w w' : World} {g o : Nat} (e : w'.heap[g]? = w.heap[g]?) : w'.cell? ⟨g, o, none⟩ = w.cell? ⟨g, o, none⟩ := by simp only [World.cell?, e]
theorem RSlotAt.mono {F G : Nat → Prop} {w w' : World} {s : Slot} {g o : Nat} (h : RSlotAt F w s g o) (hg : F g) (hF : ∀ x, F x → x < w.heap.size → G x ∧ w'.heap[x]? = w.heap[x]?) : RSlotAt G w' s g o := by
  obtain ⟨c0, c1, c2, c3, k0, k1, k2, k3, k4, k5, ha⟩ := h
  have e := (hF g hg (cell_lt9 k0)).2
  exact ⟨c0, c1, c2, c3, by rw [cell_same9 e]; exact k0, by rw [cell_same9 e]; exact k1, by rw [cell_same9 e]; exact k2, by rw [cell_same9 e]; exact k3, by rw [cell_same9 e]; exact k4, by rw [cell_same9 e]; exact k5, ArrAt.mono hF _ _ _ _ _ ha⟩
theorem RowR.mono {F G : Nat → Prop} {w w' : World} {v : Value} {l : List Slot} (h : RowR F w v l) (hF : ∀ x, F x → x < w.heap.size → G x ∧ w'.heap[x]? = w.heap[x]?) : RowR G w' v l := by
  obtain ⟨p, c, hv, h16, hs⟩ := h
  refine ⟨p, c, hv, h16, fun i hi => ?_⟩
  obtain ⟨g, o, hp, hg, hr⟩ := hs i hi
  obtain ⟨c0, c1, c2, c3, k0, hrest⟩ := hr
  exact ⟨g, o, hp, (hF g hg (cell_lt9 k0)).1, RSlotAt.mono ⟨c0, c1, c2, c3, k0, hrest⟩ hg hF⟩
theorem FrsR.mono {F G : Nat → Prop} {w w' : World} {v : Value} {l : List (List Slot)} (h : FrsR F w v l) (hF : ∀ x, F x → x < w.heap.size → G x ∧ w'.heap[x]? = w.heap[x]?) : FrsR G w' v l := by
  obtain ⟨p, c, hv, h16, hs⟩ := h
  refine ⟨p, c, hv, h16, fun i hi => ?_⟩
  obtain ⟨g, o, rv, hp, hg, hc, hr⟩ := hs i hi
  have e := hF g hg (cell_lt9 hc)
  exact ⟨g, o, rv, hp, e.1, by rw [cell_same9 e.2]; exact hc, hr.mono hF⟩
theorem FrsR.ext {F : Nat → Prop} {w w' : World} {v : Value} {l : List (List Slot)} (h : FrsR F w v l) (e : Ext w w') : FrsR F w' v l := h.mono fun _ hf hlt => ⟨hf, e.block hlt⟩

/-- What Get finds among frames without blocks. -/
def sgV (s : List Slot) (i : Int) : Option Slot := if i < 0 then none else match s[i.toNat]? with
  | some .no => none
  | x => x
def gtV (l : List (List Slot)) (d i : Int) : Option Slot := if d < 0 then none else match l[d.toNat]? with
  | some x => sgV x i
  | none => none
end Go.Proofs.Ytgkemmdghmklfaa

namespace Go.Proofs.Ytgkemmdghmklfaa
set_option linter.unusedSimpArgs false
set_option linter.unusedVariables false
open Go.RowKit

/-- The frames from p on; A are the blocks that no frame's parts may lie in, but for its own. -/
def IsFrA (A : List Nat) (w : World) : Option Addr → List (Nat × List Slot) → Prop
  | p, [] => p = none
  | p, x :: r => ∃ q : Option Addr, p = some ⟨x.1, 0, none⟩ ∧ FrAt (fun y => y ∈ A → y = x.1) w x.1 x.2 q ∧ IsFrA A w q r
theorem IsFrA.isFr {A : List Nat} {w : World} : ∀ {p : Option Addr} {l : List (Nat × List Slot)}, IsFrA A w p l → IsFr (fun _ => True) w p l
  | _, [], h => h
  | _, _ :: _, ⟨q, hp, hf, hr⟩ => ⟨q, hp, hf.mono fun _ _ _ => ⟨trivial, rfl⟩, hr.isFr⟩
theorem IsFrA.move {A A' : List Nat} {w w' : World} : ∀ {p : Option Addr} {l : List (Nat × List Slot)}, (∀ x, x < w.heap.size → (x ∈ l.map Prod.fst ∨ x ∉ A) → (x ∈ A' → x ∈ A) ∧ w'.heap[x]? = w.heap[x]?) → IsFrA A w p l → IsFrA A' w' p l
  | _, [], _, h => h
  | _, y :: r, hA, ⟨q, hp, hf, hr⟩ => by
    refine ⟨q, hp, hf.mono fun x hx hlt => ?_, hr.move fun x hlt hx => hA x hlt (hx.imp (fun h => by simp at h ⊢; exact .inr h) id)⟩
    have h1 := hA x hlt (by
      by_cases hxa : x ∈ A
      · exact .inl (by rw [hx hxa]; simp)
      · exact .inr hxa)
    exact ⟨fun hx' => hx (h1.1 hx'), h1.2⟩
theorem IsFrA.ext {A : List Nat} {w w' : World} {p : Option Addr} {l : List (Nat × List Slot)} (h : IsFrA A w p l) (e : Ext w w') : IsFrA A w' p l := h.move fun x hlt _ => ⟨id, e.block hlt⟩
theorem IsFrA.lt {A : List Nat} {w : World} : ∀ {p : Option Addr} {l : List (Nat × List Slot)}, IsFrA A w p l → ∀ x ∈ l.map Prod.fst, x < w.heap.size
  | _, [], _, x, hx => by simp at hx
  | _, y :: r, ⟨q, hp, hf, hr⟩, x, hx => by
    simp only [List.map_cons, List.mem_cons] at hx
    rcases hx with rfl | hx
    · exact hf.lt
    · exact hr.lt x hx

/-- What Get finds, on both sides. -/
theorem getV_gt (l : List (Nat × List Slot)) (d i : Int) : getV l d i = (gtV (l.map Prod.snd) d i).map Slot.tree := by
  unfold getV gtV
  by_cases hd : d < 0
  · rw [if_pos hd, if_pos hd]; rfl
  · rw [if_neg hd, if_neg hd, List.getElem?_map]
    cases l[d.toNat]? with
    | none => rfl
    | some x =>
      simp only [Option.map_some]
      unfold slotV sgV
      by_cases hi : i < 0
      · rw [if_pos hi, if_pos hi]; rfl
      · rw [if_neg hi, if_neg hi]
        cases x.2[i.toNat]? with
        | none => rfl
        | some s => cases s <;> rfl
theorem getF_gt (l : List (Nat × List Slot)) (d i : Int) : getF l d i = ((gtV (l.map Prod.snd) d i).map Slot.isFn).getD false := by
  unfold getF gtV
  by_cases hd : d < 0
  · rw [if_pos hd, if_pos hd]; rfl
  · rw [if_neg hd, if_neg hd, List.getElem?_map]
    cases l[d.toNat]? with
    | none => rfl
    | some x =>
      simp only [Option.map_some]
      unfold slotF sgV
      by_cases hi : i < 0
      · rw [if_pos hi, if_pos hi]; rfl
      · rw [if_neg hi, if_neg hi]
        cases x.2[i.toNat]? with
        | none => rfl
        | some s => cases s <;> rfl
/-- The arrays of the reference's frames. -/
def rfArrs (l : List (List Slot)) : List Arr := l.flatMap slotArrs
theorem frArrs_rf (l : List (Nat × List Slot)) : frArrs l = rfArrs (l.map Prod.snd) := by simp [frArrs, rfArrs, List.flatMap_map]

/-- The pointers to frames, from the outermost on. -/
def ptrs (l : List (Nat × List Slot)) : List Value := (l.map fun x => Value.pointer (some ⟨x.1, 0, none⟩)).reverse
theorem ptrs_cons (x : Nat × List Slot) (l : List (Nat × List Slot)) : ptrs (x :: l) = ptrs l ++ [Value.pointer (some ⟨x.1, 0, none⟩)] := by simp [ptrs]
theorem ptrs_len (l : List (Nat × List Slot)) : (ptrs l).length = l.length := by simp [ptrs]

/-- The state of a run: the frames, the list of them in row g, the reference's frames. -/
structure Stk (w0 w : World) (g : Nat) (l : List (Nat × List Slot)) (p : Option Addr) (lv wv : Value) : Prop where
  ext : Ext w0 w
  pos : 1 ≤ l.length
  few : l.length ≤ 40
  gb : w0.heap.size ≤ g
  gl : g < w.heap.size
  nd : (g :: l.map Prod.fst).Nodup
  old : ∀ b ∈ l.map Prod.fst, w0.heap.size ≤ b
  fr : IsFrA (g :: l.map Prod.fst) w p l
  row : w.ownsRow w0.heap.size 32 1 lv l.length (ptrs l)
  own : lv.ownBlock = some g
  rf : FrsR (fun x => x ∉ g :: l.map Prod.fst) w wv (l.map Prod.snd)
theorem Stk.next {w0 w w' : World} {g : Nat} {l : List (Nat × List Slot)} {p : Option Addr} {lv wv : Value} (h : Stk w0 w g l p lv wv) (e : Ext w w') : Stk w0 w' g l p lv wv :=
  ⟨h.ext.trans e, h.pos, h.few, h.gb, Nat.lt_of_lt_of_le h.gl e.lt, h.nd, h.old, h.fr.ext e, ownsRow_same h.row fun g' hg => e.block (h.row.lt g' hg).2, h.own, h.rf.ext e⟩
/-- A frame is set: only its block, and new ones, are written. -/
theorem Stk.set {w0 w w' : World} {g b : Nat} {sl sl' : List Slot} {r : List (Nat × List Slot)} {p q : Option Addr} {lv wv wv' : Value} (h : Stk w0 w g ((b, sl) :: r) p lv wv)
    (hq : ∀ q', FrAt (fun y => y ∈ g :: ((b, sl) :: r).map Prod.fst → y = b) w b sl q' → FrAt (fun x => (x ∈ g :: ((b, sl) :: r).map Prod.fst → x = b) ∨ w.heap.size ≤ x) w' b sl' q')
    (hE : Ext w0 w') (hle : w.heap.size ≤ w'.heap.size) (hk : ∀ x, x < w.heap.size → x ≠ b → w'.heap[x]? = w.heap[x]?)
    (hR : FrsR (fun x => x ∉ g :: ((b, sl) :: r).map Prod.fst) w' wv' (sl' :: r.map Prod.snd)) : Stk w0 w' g ((b, sl') :: r) p lv wv' := by
  obtain ⟨q', hp, hf, hr⟩ := h.fr
  have hnd := h.nd
  simp only [List.map_cons, List.nodup_cons, List.mem_cons, not_or] at hnd
  have hlt := h.fr.lt
  have hgl := h.gl
  have hgb : g ≠ b := hnd.1.1
  refine ⟨hE, h.pos, h.few, h.gb, Nat.lt_of_lt_of_le h.gl hle, h.nd, h.old, ⟨q', hp, (hq q' hf).mono fun x hx _ => ⟨fun hxa => ?_, rfl⟩, ?_⟩, ownsRow_same h.row fun g' hg => ?_, h.own, hR⟩
  · rcases hx with hx | hx
    · exact hx hxa
    · exfalso
      simp only [List.map_cons, List.mem_cons] at hxa
      rcases hxa with rfl | rfl | hxa
      · omega
      · have := hlt x (by simp); omega
      · have := hlt x (by simp only [List.map_cons, List.mem_cons]; exact .inr hxa); omega
  · refine hr.move fun x hlx hx => ⟨id, hk x hlx fun e => ?_⟩
    subst e
    rcases hx with hx | hx
    · exact hnd.2.1 hx
    · exact hx (by simp)
  · have e := h.own
    rw [e] at hg
    cases hg
    exact hk g h.gl hgb
end Go.Proofs.Ytgkemmdghmklfaa

namespace Go.Proofs.Ytgkemmdghmklfaa
set_option linter.unusedSimpArgs false
set_option linter.unusedVariables false
open Go.RowKit
structure ActD where
  kind : Int
  n : Int
  t : Arr
def IntR (z : Int) : Prop := -9223372036854775808 ≤ z ∧ z ≤ 9223372036854775807
def ActsAt (F : Nat → Prop) (w : World) (p : Option Addr) (l : List ActD) : Prop := ∀ i (h : i < l.length), ∃ g o c0 c1 c2 c3, p = some ⟨g, o, none⟩ ∧ F g ∧ w.cell? ⟨g, o + i * 6, none⟩ = some (.int .i64 l[i].kind) ∧ w.cell? ⟨g, o + i * 6 + 1, none⟩ = some (.int .i64 l[i].n) ∧
  w.cell? ⟨g, o + i * 6 + 2, none⟩ = some c0 ∧ w.cell? ⟨g, o + i * 6 + 3, none⟩ = some c1 ∧ w.cell? ⟨g, o + i * 6 + 4, none⟩ = some c2 ∧ w.cell? ⟨g, o + i * 6 + 5, none⟩ = some c3 ∧ IntR l[i].kind ∧ IntR l[i].n ∧ ArrAt F w l[i].t c0 c1 c2 c3
theorem ActsAt.mono {F G : Nat → Prop} {w w' : World} {p : Option Addr} {l : List ActD} (h : ActsAt F w p l) (hF : ∀ x, F x → x < w.heap.size → G x ∧ w'.heap[x]? = w.heap[x]?) : ActsAt G w' p l := fun i hi => by
  obtain ⟨g, o, c0, c1, c2, c3, hp, hg, k0, k1, k2, k3, k4, k5, r0, r1, ha⟩ := h i hi
  have e := hF g hg (cell_lt9 k0)
  exact ⟨g, o, c0, c1, c2, c3, hp, e.1, by rw [cell_same9 e.2]; exact k0, by rw [cell_same9 e.2]; exact k1, by rw [cell_same9 e.2]; exact k2, by rw [cell_same9 e.2]; exact k3, by rw [cell_same9 e.2]; exact k4, by rw [cell_same9 e.2]; exact k5, r0, r1, ArrAt.mono hF _ _ _ _ _ ha⟩
theorem ActsAt.ext {F : Nat → Prop} {w w' : World} {p : Option Addr} {l : List ActD} (h : ActsAt F w p l) (e : Ext w w') : ActsAt F w' p l := h.mono fun _ hf hlt => ⟨hf, e.block hlt⟩
end Go.Proofs.Ytgkemmdghmklfaa

namespace Go.Proofs.Ytgkemmdghmklfaa
set_option linter.unusedSimpArgs false
set_option linter.unusedVariables false
open Go.RowKit

theorem RowC.cellQ {T : TypeId} {w : World} {g : Nat} {cs : List Value} (h : RowC T w g cs) {j : Nat} {c : Value} (hc : cs[j]? = some c) : w.cell? ⟨g, j, none⟩ = some c := by
  unfold RowC at h
  rw [cell_of_row w g j _ _ _ h]
  simpa using hc
theorem infoRS : (Try.prog.info? 86).map (fun i => (i.zero, i.size, i.bytes)) = some (some (.agg #[.bool false, .bool false, .int .i64 0, .slice none 0 0, .slice none 0 0, .slice none 0 0]), 6, 88) := by kernel_rfl
theorem infoRSs : (Try.prog.info? 84).map (fun i => (i.zero, i.size, i.bytes)) = some (some (.slice none 0 0), 1, 24) := by kernel_rfl
theorem run_make_rslots (n : Nat) (hn : n ≤ 16384) (w : World) : (Instr.makeSlice 84 (.int .i64 (n : Int)) (.int .i64 (n : Int))).run Try.prog w = .ok (.slice (some ⟨w.heap.size, 0, none⟩) n n) (w.alloc (.cells (madeCells #[.bool false, .bool false, .int .i64 0, .slice none 0 0, .slice none 0 0, .slice none 0 0] (n * 6)) 86)) := by
  obtain ⟨i0, hi, hz0, hz1, hz2⟩ := info_parts infoRS
  have := run_make (P := Try.prog) w 84 86 i0 _ Try.underlying84 hi hz0 .i64 .i64 n n (by omega) (by omega) (by rw [hz2]; omega) (by omega)
  rw [hz1] at this
  simpa [Value.cells] using this

/-- The six cells of slot number i among cs. -/
def RSlotL (F : Nat → Prop) (w : World) (s : Slot) (cs : List Value) (i : Nat) : Prop :=
  ∃ c0 c1 c2 c3, cs[i * 6]? = some (.bool s.used) ∧ cs[i * 6 + 1]? = some (.bool s.isFn) ∧ cs[i * 6 + 2]? = some c0 ∧ cs[i * 6 + 3]? = some c1 ∧ cs[i * 6 + 4]? = some c2 ∧ cs[i * 6 + 5]? = some c3 ∧ ArrAt F w s.tree c0 c1 c2 c3
theorem RowR.of_row {F : Nat → Prop} {w : World} {T : TypeId} {g c : Nat} {cs : List Value} {l : List Slot} (h : RowC T w g cs) (hs : ∀ i (hi : i < l.length), RSlotL F w l[i] cs i) (hg : F g) (hl : l.length ≤ 16384) : RowR F w (.slice (some ⟨g, 0, none⟩) l.length c) l := by
  refine ⟨_, c, rfl, hl, fun i hi => ⟨g, 0, rfl, hg, ?_⟩⟩
  obtain ⟨c0, c1, c2, c3, k0, k1, k2, k3, k4, k5, ha⟩ := hs i hi
  rw [Nat.zero_add]
  exact ⟨c0, c1, c2, c3, h.cellQ k0, h.cellQ k1, h.cellQ k2, h.cellQ k3, h.cellQ k4, h.cellQ k5, ha⟩
theorem rslotL_no (n : Nat) (F : Nat → Prop) (w : World) (i : Nat) (hi : i < n) : RSlotL F w .no (madeCells #[.bool false, .bool false, .int .i64 0, .slice none 0 0, .slice none 0 0, .slice none 0 0] (n * 6)).toList i := by
  have h : ∀ k, k < 6 → (madeCells #[.bool false, .bool false, .int .i64 0, .slice none 0 0, .slice none 0 0, .slice none 0 0] (n * 6)).toList[i * 6 + k]? = some ((#[Value.bool false, .bool false, .int .i64 0, .slice none 0 0, .slice none 0 0, .slice none 0 0]).getD k default) := fun k hk => by
    have hlt : i * 6 + k < n * 6 := by omega
    simp [madeCells, hlt]
    rw [Nat.mod_eq_of_lt hk]
  exact ⟨_, _, _, _, h 0 (by omega), h 1 (by omega), h 2 (by omega), h 3 (by omega), h 4 (by omega), h 5 (by omega), Arr.zero_at _ _⟩
theorem RowR.made (w : World) (n : Nat) (hn : n ≤ 16384) : RowR (fun y => w.heap.size ≤ y) (w.alloc (.cells (madeCells #[.bool false, .bool false, .int .i64 0, .slice none 0 0, .slice none 0 0, .slice none 0 0] (n * 6)) 86)) (.slice (some ⟨w.heap.size, 0, none⟩) n n) (List.replicate n .no) := by
  have h : RowC 86 (w.alloc (.cells (madeCells #[.bool false, .bool false, .int .i64 0, .slice none 0 0, .slice none 0 0, .slice none 0 0] (n * 6)) 86)) w.heap.size (madeCells #[.bool false, .bool false, .int .i64 0, .slice none 0 0, .slice none 0 0, .slice none 0 0] (n * 6)).toList := by
    unfold RowC
    rw [Array.toArray_toList]
    exact heap_alloc_new w _
  have := RowR.of_row (F := fun y => w.heap.size ≤ y) (c := n) (l := List.replicate n .no) h (fun i hi => by rw [List.getElem_replicate]; exact rslotL_no n _ _ i (by simpa using hi)) (Nat.le_refl _) (by simpa using hn)
  rwa [List.length_replicate] at this

/-- The frames as cells of a row. -/
theorem FrsR.news {F : Nat → Prop} {w : World} {p : Option Addr} {n c : Nat} {l : List (List Slot)} (h : FrsR F w (.slice p n c) l) (hn : l ≠ []) :
    n = l.length ∧ ∃ (g o : Nat) (news : List Value), p = some ⟨g, o, none⟩ ∧ news.length = l.length ∧ (∀ j u, news[j]? = some u → w.cell? ⟨g, o + j, none⟩ = some u) ∧ (∀ u ∈ news, u.oneCell' = true) ∧ ∀ i (hi : i < l.length), ∃ rv, news[i]? = some rv ∧ RowR F w rv l[i] := by
  obtain ⟨p', c', e, h6, hs⟩ := h
  simp only [Value.slice.injEq] at e
  obtain ⟨rfl, rfl, rfl⟩ := e
  have hpos : 0 < l.length := List.length_pos_iff.2 hn
  obtain ⟨g, o, rv0, hp, _, _, _⟩ := hs 0 hpos
  refine ⟨rfl, g, o, (List.range l.length).map fun i => (w.cell? ⟨g, o + i, none⟩).getD default, hp, by simp, fun j u hj => ?_, fun u hu => ?_, fun i hi => ?_⟩
  · rw [List.getElem?_map] at hj
    rcases Nat.lt_or_ge j l.length with hlt | hge
    · rw [List.getElem?_range hlt] at hj
      obtain ⟨g', o', rv, hp', _, hc, _⟩ := hs j hlt
      rw [hp] at hp'
      simp only [Option.some.injEq, Addr.mk.injEq, and_true] at hp'
      obtain ⟨rfl, rfl⟩ := hp'
      simp only [Option.map_some, hc, Option.getD_some, Option.some.injEq] at hj
      rw [hc, hj]
    · rw [List.getElem?_eq_none (by simpa using hge)] at hj
      cases hj
  · simp only [List.mem_map, List.mem_range] at hu
    obtain ⟨i, hi, rfl⟩ := hu
    obtain ⟨g', o', rv, hp', _, hc, hr⟩ := hs i hi
    rw [hp] at hp'
    simp only [Option.some.injEq, Addr.mk.injEq, and_true] at hp'
    obtain ⟨rfl, rfl⟩ := hp'
    obtain ⟨_, _, rfl, _⟩ := hr
    rw [hc]
    rfl
  · obtain ⟨g', o', rv, hp', _, hc, hr⟩ := hs i hi
    rw [hp] at hp'
    simp only [Option.some.injEq, Addr.mk.injEq, and_true] at hp'
    obtain ⟨rfl, rfl⟩ := hp'
    exact ⟨rv, by rw [List.getElem?_map, List.getElem?_range hi, Option.map_some, hc]; rfl, hr⟩
theorem FrsR.form {F : Nat → Prop} {w : World} {v : Value} {l : List (List Slot)} (h : FrsR F w v l) : ∃ p c, v = .slice p l.length c := by
  obtain ⟨p, c, rfl, _⟩ := h
  exact ⟨p, c, rfl⟩
/-- The frames without the innermost. -/
theorem FrsR.tail {F : Nat → Prop} {w : World} {p : Option Addr} {n c : Nat} {s : List Slot} {l : List (List Slot)} (h : FrsR F w (.slice p n c) (s :: l)) : FrsR F w (.slice (cutAt p 1 c 1) l.length (c - 1)) l := by
  obtain ⟨p', c'', e, h6, hs⟩ := h
  simp only [Value.slice.injEq] at e
  obtain ⟨rfl, rfl, rfl⟩ := e
  simp only [List.length_cons] at h6
  refine ⟨_, _, rfl, ⟨by omega, by omega⟩, fun i hi => ?_⟩
  obtain ⟨g, o, rv, rfl, hf, hc, hr⟩ := hs (i + 1) (by simpa using hi)
  refine ⟨g, o + 1, rv, ?_, hf, by rw [show o + 1 + i = o + (i + 1) by omega]; exact hc, by simpa using hr⟩
  unfold cutAt
  rw [if_neg (by omega)]
  simp [Addr.add_lit]
theorem sizeRSs : (Try.prog.info? 84).map (·.size) = some 1 := by kernel_rfl
theorem elemFs : Try.prog.elem 51 = 84 := by kernel_rfl
theorem slice_lF (p : Option Addr) (n c : Nat) (w : World) (hk : 1 ≤ n) : (Instr.sliceAt 51 (.slice p n c) (some (.int .i64 1)) none none).run Try.prog w = .ok (.slice (cutAt p 1 c 1) (n - 1) (c - 1)) w := by
  rw [run_sliceAt_slice _ _ _ _ _ _ (by rw [elemFs]; exact Try.underlying51), run_slice_l _ _ _ _ _ (by rw [elemFs]; exact Try.underlying51) .i64 (1 : Int) (by omega) (by omega)]
  obtain ⟨i, hi, hs⟩ := Option.map_eq_some_iff.1 sizeRSs
  simp [elemFs, sizeOf, typeInfo, hi, hs, sliced, cutAt]

/-- A row of slots as cells. -/
theorem RSlotAt.cells {F : Nat → Prop} {w : World} {s : Slot} {g o : Nat} (h : RSlotAt F w s g o) (r : Nat) (hr : r < 6) : ∃ u, w.cell? ⟨g, o + r, none⟩ = some u ∧ u.oneCell' = true := by
  obtain ⟨c0, c1, c2, c3, k0, k1, k2, k3, k4, k5, ha⟩ := h
  obtain ⟨z, q1, m1, a1, q2, m2, a2, q3, m3, a3, rfl, rfl, rfl, rfl⟩ := ha.form
  have : r = 0 ∨ r = 1 ∨ r = 2 ∨ r = 3 ∨ r = 4 ∨ r = 5 := by omega
  rcases this with rfl | rfl | rfl | rfl | rfl | rfl
  · exact ⟨_, k0, rfl⟩
  · exact ⟨_, k1, rfl⟩
  · exact ⟨_, k2, rfl⟩
  · exact ⟨_, k3, rfl⟩
  · exact ⟨_, k4, rfl⟩
  · exact ⟨_, k5, rfl⟩
theorem RowR.news {F : Nat → Prop} {w : World} {p : Option Addr} {n c : Nat} {l : List Slot} (h : RowR F w (.slice p n c) l) (hn : l ≠ []) :
    n = l.length ∧ ∃ (g o : Nat) (news : List Value), p = some ⟨g, o, none⟩ ∧ news.length = l.length * 6 ∧ (∀ j u, news[j]? = some u → w.cell? ⟨g, o + j, none⟩ = some u) ∧ (∀ u ∈ news, u.oneCell' = true) ∧ ∀ i (hi : i < l.length), RSlotL F w l[i] news i := by
  obtain ⟨p', c', e, h6, hs⟩ := h
  simp only [Value.slice.injEq] at e
  obtain ⟨rfl, rfl, rfl⟩ := e
  have hpos : 0 < l.length := List.length_pos_iff.2 hn
  obtain ⟨g, o, hp, _, _⟩ := hs 0 hpos
  have hat : ∀ i (hi : i < l.length), RSlotAt F w l[i] g (o + i * 6) := fun i hi => by
    obtain ⟨g', o', hp', _, h⟩ := hs i hi
    rw [hp] at hp'
    simp only [Option.some.injEq, Addr.mk.injEq, and_true] at hp'
    obtain ⟨rfl, rfl⟩ := hp'
    exact h
  have hall : ∀ j, j < l.length * 6 → ∃ u, w.cell? ⟨g, o + j, none⟩ = some u ∧ u.oneCell' = true := fun j hj => by
    have := (hat (j / 6) (by omega)).cells (j % 6) (by omega)
    rwa [show o + j / 6 * 6 + j % 6 = o + j by omega] at this
  have hget : ∀ j, j < l.length * 6 → ∀ u, w.cell? ⟨g, o + j, none⟩ = some u → ((List.range (l.length * 6)).map fun i => (w.cell? ⟨g, o + i, none⟩).getD default)[j]? = some u := fun j hj u hu => by
    rw [List.getElem?_map, List.getElem?_range hj, Option.map_some, hu]; rfl
  refine ⟨rfl, g, o, (List.range (l.length * 6)).map fun i => (w.cell? ⟨g, o + i, none⟩).getD default, hp, by simp, fun j u hj => ?_, fun u hu => ?_, fun i hi => ?_⟩
  · rcases Nat.lt_or_ge j (l.length * 6) with hlt | hge
    · obtain ⟨u', h1, _⟩ := hall j hlt
      rw [hget j hlt u' h1] at hj
      cases hj
      exact h1
    · rw [List.getElem?_eq_none (by simpa using hge)] at hj
      cases hj
  · simp only [List.mem_map, List.mem_range] at hu
    obtain ⟨i, hi, rfl⟩ := hu
    obtain ⟨u', h1, h2⟩ := hall i hi
    rw [h1]
    exact h2
  · obtain ⟨c0, c1, c2, c3, k0, k1, k2, k3, k4, k5, ha⟩ := hat i hi
    refine ⟨c0, c1, c2, c3, hget _ (by omega) _ k0, hget _ (by omega) _ ?_, hget _ (by omega) _ ?_, hget _ (by omega) _ ?_, hget _ (by omega) _ ?_, hget _ (by omega) _ ?_, ha⟩ <;> rw [← Nat.add_assoc] <;> assumption
theorem RSlotL.mono {F G : Nat → Prop} {w w' : World} {s : Slot} {cs cs' : List Value} {i : Nat} (h : RSlotL F w s cs i) (hc : ∀ m, m / 6 = i → cs'[m]? = cs[m]?) (hF : ∀ x, F x → x < w.heap.size → G x ∧ w'.heap[x]? = w.heap[x]?) : RSlotL G w' s cs' i := by
  obtain ⟨c0, c1, c2, c3, k0, k1, k2, k3, k4, k5, ha⟩ := h
  exact ⟨c0, c1, c2, c3, (hc _ (by omega)).trans k0, (hc _ (by omega)).trans k1, (hc _ (by omega)).trans k2, (hc _ (by omega)).trans k3, (hc _ (by omega)).trans k4, (hc _ (by omega)).trans k5, ArrAt.mono hF _ _ _ _ _ ha⟩
def setS6 (cs : List Value) (j : Nat) (v0 v1 v2 v3 v4 v5 : Value) : List Value := (((((cs.set (j * 6) v0).set (j * 6 + 1) v1).set (j * 6 + 2) v2).set (j * 6 + 3) v3).set (j * 6 + 4) v4).set (j * 6 + 5) v5
theorem setS6_len (cs : List Value) (j : Nat) (v0 v1 v2 v3 v4 v5 : Value) : (setS6 cs j v0 v1 v2 v3 v4 v5).length = cs.length := by simp [setS6]
theorem setS6_ne {cs : List Value} {j m : Nat} (v0 v1 v2 v3 v4 v5 : Value) (h : m / 6 ≠ j) : (setS6 cs j v0 v1 v2 v3 v4 v5)[m]? = cs[m]? := by
  unfold setS6
  rw [List.getElem?_set_ne (by omega), List.getElem?_set_ne (by omega), List.getElem?_set_ne (by omega), List.getElem?_set_ne (by omega), List.getElem?_set_ne (by omega), List.getElem?_set_ne (by omega)]
theorem setS6_at {cs : List Value} {j : Nat} (v0 v1 v2 v3 v4 v5 : Value) (h : j * 6 + 5 < cs.length) :
    (setS6 cs j v0 v1 v2 v3 v4 v5)[j * 6]? = some v0 ∧ (setS6 cs j v0 v1 v2 v3 v4 v5)[j * 6 + 1]? = some v1 ∧ (setS6 cs j v0 v1 v2 v3 v4 v5)[j * 6 + 2]? = some v2 ∧ (setS6 cs j v0 v1 v2 v3 v4 v5)[j * 6 + 3]? = some v3 ∧ (setS6 cs j v0 v1 v2 v3 v4 v5)[j * 6 + 4]? = some v4 ∧ (setS6 cs j v0 v1 v2 v3 v4 v5)[j * 6 + 5]? = some v5 := by
  unfold setS6
  refine ⟨?_, ?_, ?_, ?_, ?_, ?_⟩
  · rw [List.getElem?_set_ne (by omega), List.getElem?_set_ne (by omega), List.getElem?_set_ne (by omega), List.getElem?_set_ne (by omega), List.getElem?_set_ne (by omega), List.getElem?_set_self (by omega)]
  · rw [List.getElem?_set_ne (by omega), List.getElem?_set_ne (by omega), List.getElem?_set_ne (by omega), List.getElem?_set_ne (by omega), List.getElem?_set_self (by simp; omega)]
  · rw [List.getElem?_set_ne (by omega), List.getElem?_set_ne (by omega), List.getElem?_set_ne (by omega), List.getElem?_set_self (by simp; omega)]
  · rw [List.getElem?_set_ne (by omega), List.getElem?_set_ne (by omega), List.getElem?_set_self (by simp; omega)]
  · rw [List.getElem?_set_ne (by omega), List.getElem?_set_self (by simp; omega)]
  · rw [List.getElem?_set_self (by simp; omega)]
/-- A slot set among the slots. -/
theorem rslots_set {F G : Nat → Prop} {w w' : World} {l : List Slot} {k : Nat} {x : Slot} {cs cs' : List Value} (hne : ∀ m, m / 6 ≠ k → cs'[m]? = cs[m]?) (hat : RSlotL G w' x cs' k) (hold : ∀ i (h : i < l.length), RSlotL F w l[i] cs i)
    (hF : ∀ x, F x → x < w.heap.size → G x ∧ w'.heap[x]? = w.heap[x]?) : ∀ i (h : i < (l.set k x).length), RSlotL G w' (l.set k x)[i] cs' i := fun i h => by
  by_cases hik : i = k
  · subst hik
    rw [List.getElem_set_self]
    exact hat
  · rw [List.getElem_set_ne (fun e => hik e.symm)]
    exact (hold i (by simpa using h)).mono (fun m hm => hne m (by omega)) hF

set_option maxRecDepth 100000 in
/-- append(Frames, outer...) of one frame. -/
theorem wpList_append_frs {ops : Array Oper} {rest : List Oper} {o : Oper} {a : Act} {w : World} {Q : Exit → Act → World → Prop} (hgd : o.guard = none) (s x : Operand)
    (ho : o.op = .call { callee := .builtin .append, args := #[s, x], argTypes := #[51, 51] })
    (w0 : World) (F : Nat → Prop) (g0 : Nat) (rv : Value) (s0 : List Slot) (p : Option Addr) (c : Nat) (l : List (List Slot)) (hs : a.eval s = .slice (some ⟨g0, 0, none⟩) 1 1) (hg0 : RowC 84 w g0 [rv]) (hx : a.eval x = .slice p l.length c)
    (hR : RowR F w rv s0) (hL : FrsR F w (.slice p l.length c) l) (hE : Ext w0 w) (hb : w0.heap.size ≤ g0) (hF : ∀ y, F y → y ≠ g0) (hl : l.length ≤ 100)
    (h : ∀ v w', FrsR (fun y => F y ∨ w0.heap.size ≤ y) w' v (s0 :: l) → Ext w0 w' → wpList Try.prog ops Q rest (a.put o.dst v) w') : wpList Try.prog ops Q (o :: rest) a w := by
  obtain ⟨i0, hi, hz0, hz1, hz2⟩ := info_parts infoRSs
  by_cases hl0 : l = []
  · subst hl0
    refine wpList_plain hgd fun K hK => ?_
    have hrun := run_append_none (P := Try.prog) w 51 o.type 84 i0 Try.underlying51 hi (some ⟨g0, 0, none⟩) 1 1 (Nat.le_refl _) p c
    unfold Oper.wp execOp
    simp only [ho, resolve, invoke, builtin, Sem.run_bind, Sem.run_pure, Result.andThen_ok, List.map_toArray, List.map_cons, List.map_nil, hs, hx, List.length_nil, hrun]
    refine hK _ _ (h _ _ ⟨_, 1, rfl, ⟨by simp, by simp⟩, fun i hi => ?_⟩ hE)
    obtain rfl : i = 0 := by simpa using hi
    exact ⟨g0, 0, rv, rfl, .inr hb, hg0.cellQ rfl, hR.mono fun y hy _ => ⟨.inl hy, rfl⟩⟩
  · obtain ⟨_, g, oo, news, rfl, hnl, hnews, hone, hrows⟩ := hL.news hl0
    have hpos : 0 < l.length := List.length_pos_iff.2 hl0
    have hown : w.ownsRow w0.heap.size 84 1 (.slice (some ⟨g0, 0, none⟩) 1 1) 1 [rv] := ⟨rfl, .inr ⟨g0, 1, #[rv], rfl, hb, hg0, Nat.le_refl _, by unfold maxLen; omega, rfl, rfl⟩⟩
    refine wpList_append_lies w hgd s x 51 ho w0.heap.size 84 i0 (.slice none 0 0) 1 24 Try.underlying51 hi hz0 hz1 hz2 rfl (by decide) (.slice (some ⟨g0, 0, none⟩) 1 1) 1 [rv] hs hown ⟨g, oo, none⟩ l.length c news hx (by rw [hnl, Nat.mul_one]) (fun j u hj => by rw [Addr.add_lit]; exact hnews j u hj) hone hpos (by unfold maxLen; omega) (by omega) hE.lt w.heap.size rfl ?_
    intro q cap w' h1 hgrow hat hlt
    have hE' : Ext w0 w' := Below.grown hE hgrow hE.lt (fun k e => by simp only [Value.ownBlock, Option.some.injEq] at e; omega)
    have hlt0 := hg0.lt
    have hmove : ∀ y, F y → y < w.heap.size → (F y ∨ w0.heap.size ≤ y) ∧ w'.heap[y]? = w.heap[y]? := fun y hy hlty => ⟨.inl hy, hgrow.block y hlty (fun e => by simp only [Value.ownBlock, Option.some.injEq] at e; exact hF y hy e)⟩
    have hcap : 1 + l.length ≤ cap := by
      rcases h1.2 with ⟨e, _⟩ | ⟨_, cap', _, e, _, _, hle, _⟩
      · simp at e
      · cases e; exact hle
    refine h _ _ ⟨_, cap, by rw [List.length_cons, Nat.add_comm], ⟨by simp only [List.length_cons]; omega, by simp only [List.length_cons]; omega⟩, fun i hi => ?_⟩ hE'
    cases i with
    | zero =>
      have hc := h1.cells (g := q) rfl 0 rv rfl
      rw [Addr.add_lit, Nat.zero_add] at hc
      exact ⟨q, 0, rv, rfl, .inr (h1.lt q rfl).1, hc, hR.mono hmove⟩
    | succ i =>
      obtain ⟨rv', hn', hr'⟩ := hrows i (by simpa using hi)
      have hc := h1.cells (g := q) rfl (i + 1) rv' (by simpa using hn')
      rw [Addr.add_lit, Nat.zero_add] at hc
      exact ⟨q, 0, rv', rfl, .inr (h1.lt q rfl).1, by rw [Nat.zero_add]; exact hc, by simpa using hr'.mono hmove⟩
end Go.Proofs.Ytgkemmdghmklfaa

namespace Go.Proofs.Ytgkemmdghmklfaa
set_option linter.unusedSimpArgs false
set_option linter.unusedVariables false
open Go.RowKit

theorem cell_ext9 {w w' : World} {g o : Nat} {v : Value} (h : w.cell? ⟨g, o, none⟩ = some v) (e : Ext w w') : w'.cell? ⟨g, o, none⟩ = some v := by
  rw [cell_same9 (e.block (cell_lt9 h))]; exact h
def RSix (w : World) (b : Nat) (c0 c1 c2 c3 c4 c5 : Value) : Prop := w.heap[b]? = some (.cells #[c0, c1, c2, c3, c4, c5] 86 (0, 0))
theorem RSix.cell {w : World} {b : Nat} {c0 c1 c2 c3 c4 c5 : Value} (h : RSix w b c0 c1 c2 c3 c4 c5) : w.cell? ⟨b, 0, none⟩ = some c0 ∧ w.cell? ⟨b, 1, none⟩ = some c1 ∧ w.cell? ⟨b, 2, none⟩ = some c2 ∧ w.cell? ⟨b, 3, none⟩ = some c3 ∧ w.cell? ⟨b, 4, none⟩ = some c4 ∧ w.cell? ⟨b, 5, none⟩ = some c5 := by
  unfold RSix at h
  refine ⟨?_, ?_, ?_, ?_, ?_, ?_⟩ <;> rw [cell_of_row w b _ _ _ _ h] <;> rfl

set_option maxRecDepth 100000 in
set_option maxHeartbeats 4000000 in
theorem rget_neg (d s : Int) (p : Option Addr) (c n : Nat) (w : World) (h1 : d < 0) (hd : -9223372036854775808 ≤ d ∧ d ≤ 9223372036854775807) (hs : -9223372036854775808 ≤ s ∧ s ≤ 9223372036854775807) :
    Calls Try.prog 75 #[.slice p n c, .int .i64 d, .int .i64 s] w fun e w' => e = .returned (.tuple #[.agg #[.bool false, .bool false, .int .i64 0, .slice none 0 0, .slice none 0 0, .slice none 0 0], .bool false]) ∧ Ext w w' := by
  go_enter Try.func75, Try.ntmps75
  go_upto_region 1 with (fail)
  have hE1 : Ext w (w.alloc (.cells #[.bool false, .bool false, .int .i64 0, .slice none 0 0, .slice none 0 0, .slice none 0 0] 86)) := (Ext.refl _).alloc _
  go_wp2_with fail
  refine bodyPost_ret (v := .tuple #[.agg #[.bool false, .bool false, .int .i64 0, .slice none 0 0, .slice none 0 0, .slice none 0 0], .bool false]) ?_ rfl ⟨rfl, ?_⟩
  · simp [results, Try.results75, go_sem]
  · exact hE1
set_option maxRecDepth 100000 in
set_option maxHeartbeats 4000000 in
theorem rget_deep (k : Nat) (s : Int) (p : Option Addr) (c n : Nat) (w : World) (h1 : n ≤ k) (hn : n ≤ 1000000) (hk : k ≤ 9223372036854775807) (hs : -9223372036854775808 ≤ s ∧ s ≤ 9223372036854775807) :
    Calls Try.prog 75 #[.slice p n c, .int .i64 (k : Int), .int .i64 s] w fun e w' => e = .returned (.tuple #[.agg #[.bool false, .bool false, .int .i64 0, .slice none 0 0, .slice none 0 0, .slice none 0 0], .bool false]) ∧ Ext w w' := by
  go_enter Try.func75, Try.ntmps75
  go_upto_region 1 with (fail)
  have hE1 : Ext w (w.alloc (.cells #[.bool false, .bool false, .int .i64 0, .slice none 0 0, .slice none 0 0, .slice none 0 0] 86)) := (Ext.refl _).alloc _
  go_wp2_with fail
  refine bodyPost_ret (v := .tuple #[.agg #[.bool false, .bool false, .int .i64 0, .slice none 0 0, .slice none 0 0, .slice none 0 0], .bool false]) ?_ rfl ⟨rfl, ?_⟩
  · simp [results, Try.results75, go_sem]
  · exact hE1
set_option maxRecDepth 100000 in
set_option maxHeartbeats 4000000 in
theorem rget_low (k : Nat) (s : Int) (p : Option Addr) (c n : Nat) (w : World) (h1 : k < n) (h2 : s < 0) (hn : n ≤ 1000000) (hs : -9223372036854775808 ≤ s ∧ s ≤ 9223372036854775807) :
    Calls Try.prog 75 #[.slice p n c, .int .i64 (k : Int), .int .i64 s] w fun e w' => e = .returned (.tuple #[.agg #[.bool false, .bool false, .int .i64 0, .slice none 0 0, .slice none 0 0, .slice none 0 0], .bool false]) ∧ Ext w w' := by
  go_enter Try.func75, Try.ntmps75
  go_upto_region 1 with (fail)
  have hE1 : Ext w (w.alloc (.cells #[.bool false, .bool false, .int .i64 0, .slice none 0 0, .slice none 0 0, .slice none 0 0] 86)) := (Ext.refl _).alloc _
  go_wp2_with fail
  refine bodyPost_ret (v := .tuple #[.agg #[.bool false, .bool false, .int .i64 0, .slice none 0 0, .slice none 0 0, .slice none 0 0], .bool false]) ?_ rfl ⟨rfl, ?_⟩
  · simp [results, Try.results75, go_sem]
  · exact hE1
set_option maxRecDepth 100000 in
set_option maxHeartbeats 4000000 in
theorem rget_high (k j : Nat) (c n : Nat) (w : World) (g o : Nat) (p1 : Option Addr) (n1 c1 : Nat) (hc : w.cell? ⟨g, o + k, none⟩ = some (.slice p1 n1 c1)) (h1 : k < n) (h2 : n1 ≤ j) (hn : n ≤ 1000000) (hn1 : n1 ≤ 1000000) (hj : j ≤ 9223372036854775807) :
    Calls Try.prog 75 #[.slice (some ⟨g, o, none⟩) n c, .int .i64 (k : Int), .int .i64 (j : Int)] w fun e w' => e = .returned (.tuple #[.agg #[.bool false, .bool false, .int .i64 0, .slice none 0 0, .slice none 0 0, .slice none 0 0], .bool false]) ∧ Ext w w' := by
  go_enter Try.func75, Try.ntmps75
  go_upto_region 1 with (fail)
  have hE1 : Ext w (w.alloc (.cells #[.bool false, .bool false, .int .i64 0, .slice none 0 0, .slice none 0 0, .slice none 0 0] 86)) := (Ext.refl _).alloc _
  have hc1 := cell_ext9 hc hE1
  go_wp2_with fail
  refine bodyPost_ret (v := .tuple #[.agg #[.bool false, .bool false, .int .i64 0, .slice none 0 0, .slice none 0 0, .slice none 0 0], .bool false]) ?_ rfl ⟨rfl, ?_⟩
  · simp [results, Try.results75, go_sem]
  · exact hE1
set_option maxRecDepth 100000 in
set_option maxHeartbeats 4000000 in
theorem rget_empty (k j : Nat) (c n : Nat) (w : World) (g o g1 o1 : Nat) (n1 c1 : Nat) (hc : w.cell? ⟨g, o + k, none⟩ = some (.slice (some ⟨g1, o1, none⟩) n1 c1)) (hu : w.cell? ⟨g1, o1 + j * 6, none⟩ = some (.bool false)) (h1 : k < n) (h2 : j < n1) (hn : n ≤ 1000000) (hn1 : n1 ≤ 1000000) :
    Calls Try.prog 75 #[.slice (some ⟨g, o, none⟩) n c, .int .i64 (k : Int), .int .i64 (j : Int)] w fun e w' => e = .returned (.tuple #[.agg #[.bool false, .bool false, .int .i64 0, .slice none 0 0, .slice none 0 0, .slice none 0 0], .bool false]) ∧ Ext w w' := by
  go_enter Try.func75, Try.ntmps75
  go_upto_region 1 with (fail)
  have hE1 : Ext w (w.alloc (.cells #[.bool false, .bool false, .int .i64 0, .slice none 0 0, .slice none 0 0, .slice none 0 0] 86)) := (Ext.refl _).alloc _
  have hc1 := cell_ext9 hc hE1
  have hu1 := cell_ext9 hu hE1
  go_wp2_with fail
  refine bodyPost_ret (v := .tuple #[.agg #[.bool false, .bool false, .int .i64 0, .slice none 0 0, .slice none 0 0, .slice none 0 0], .bool false]) ?_ rfl ⟨rfl, ?_⟩
  · simp [results, Try.results75, go_sem]
  · exact hE1

set_option maxRecDepth 100000 in
set_option maxHeartbeats 4000000 in
theorem rget_found (k j : Nat) (c n : Nat) (w : World) (g o g1 o1 : Nat) (n1 c1 : Nat) (hc : w.cell? ⟨g, o + k, none⟩ = some (.slice (some ⟨g1, o1, none⟩) n1 c1)) (k0 : Int) (q1 q2 q3 : Option Addr) (m1 m2 m3 a1 a2 a3 : Nat) (fb : Bool) (hu0 : w.cell? ⟨g1, o1 + j * 6, none⟩ = some (.bool true)) (hu1 : w.cell? ⟨g1, o1 + j * 6 + 1, none⟩ = some (.bool fb)) (hu2 : w.cell? ⟨g1, o1 + j * 6 + 2, none⟩ = some (.int .i64 k0)) (hu3 : w.cell? ⟨g1, o1 + j * 6 + 3, none⟩ = some (.slice q1 m1 a1)) (hu4 : w.cell? ⟨g1, o1 + j * 6 + 4, none⟩ = some (.slice q2 m2 a2)) (hu5 : w.cell? ⟨g1, o1 + j * 6 + 5, none⟩ = some (.slice q3 m3 a3)) (h1 : k < n) (h2 : j < n1) (hn : n ≤ 1000000) (hn1 : n1 ≤ 1000000) :
    Calls Try.prog 75 #[.slice (some ⟨g, o, none⟩) n c, .int .i64 (k : Int), .int .i64 (j : Int)] w fun e w' => e = .returned (.tuple #[.agg #[.bool true, .bool fb, .int .i64 k0, .slice q1 m1 a1, .slice q2 m2 a2, .slice q3 m3 a3], .bool true]) ∧ Ext w w' := by
  go_enter Try.func75, Try.ntmps75
  go_upto_region 1 with (fail)
  have hE1 : Ext w (w.alloc (.cells #[.bool false, .bool false, .int .i64 0, .slice none 0 0, .slice none 0 0, .slice none 0 0] 86)) := (Ext.refl _).alloc _
  have hB1 : RSix (w.alloc (.cells #[.bool false, .bool false, .int .i64 0, .slice none 0 0, .slice none 0 0, .slice none 0 0] 86)) w.heap.size (.bool false) (.bool false) (.int .i64 0) (.slice none 0 0) (.slice none 0 0) (.slice none 0 0) := heap_alloc_new _ _
  have hc1 := cell_ext9 hc hE1
  replace hu0 := cell_ext9 hu0 hE1
  replace hu1 := cell_ext9 hu1 hE1
  replace hu2 := cell_ext9 hu2 hE1
  replace hu3 := cell_ext9 hu3 hE1
  replace hu4 := cell_ext9 hu4 hE1
  replace hu5 := cell_ext9 hu5 hE1
  go_wp2_with fail
  refine bodyPost_ret (v := .tuple #[.agg #[.bool true, .bool fb, .int .i64 k0, .slice q1 m1 a1, .slice q2 m2 a2, .slice q3 m3 a3], .bool true]) ?_ rfl ⟨rfl, ?_⟩
  · simp [results, Try.results75, go_sem]
  · exact (Ext.refl _).alloc _

/-- What Get returns. -/
def RGot (F : Nat → Prop) (w w' : World) (x : Option Slot) (e : Ending) : Prop := ∃ c0 c1 c2 c3, e = .returned (.tuple #[.agg #[.bool ((x.map Slot.used).getD false), .bool ((x.map Slot.isFn).getD false), c0, c1, c2, c3], .bool x.isSome]) ∧ ArrAt F w' ((x.map Slot.tree).getD Arr.zero) c0 c1 c2 c3 ∧ Ext w w'
theorem rgot_none {F : Nat → Prop} {w w' : World} {e : Ending} (h : e = .returned (.tuple #[.agg #[.bool false, .bool false, .int .i64 0, .slice none 0 0, .slice none 0 0, .slice none 0 0], .bool false]) ∧ Ext w w') : RGot F w w' none e := ⟨_, _, _, _, h.1, Arr.zero_at _ _, h.2⟩
theorem rget_any (F : Nat → Prop) (l : List (List Slot)) (d s : Int) (v : Value) (w : World) (hR : FrsR F w v l) (hd : -9223372036854775808 ≤ d ∧ d ≤ 9223372036854775807) (hs : -9223372036854775808 ≤ s ∧ s ≤ 9223372036854775807) :
    Calls Try.prog 75 #[v, .int .i64 d, .int .i64 s] w fun e w' => RGot F w w' (gtV l d s) e := by
  obtain ⟨p, c, rfl, ⟨hl6, _⟩, hR⟩ := hR
  by_cases h1 : d < 0
  · have hg : gtV l d s = none := by unfold gtV; rw [if_pos h1]
    rw [hg]
    exact (rget_neg d s p c _ w h1 hd hs).mono fun e w' h => rgot_none h
  obtain ⟨k, rfl⟩ : ∃ k : Nat, d = (k : Int) := ⟨d.toNat, by omega⟩
  by_cases h2 : l.length ≤ k
  · have hg : gtV l (k : Int) s = none := by unfold gtV; rw [if_neg h1, Int.toNat_natCast, List.getElem?_eq_none h2]
    rw [hg]
    exact (rget_deep k s p c _ w h2 hl6 (by omega) hs).mono fun e w' h => rgot_none h
  have hk : k < l.length := by omega
  have hgt : gtV l (k : Int) s = sgV l[k] s := by unfold gtV; rw [if_neg h1, Int.toNat_natCast, List.getElem?_eq_getElem hk]
  rw [hgt]
  obtain ⟨g, o, rv, rfl, hg, hc, p1, c1, rfl, h16, hrow⟩ := hR k hk
  by_cases h3 : s < 0
  · have hg : sgV l[k] s = none := by unfold sgV; rw [if_pos h3]
    rw [hg]
    exact (rget_low k s _ c _ w hk h3 hl6 hs).mono fun e w' h => rgot_none h
  obtain ⟨j, rfl⟩ : ∃ j : Nat, s = (j : Int) := ⟨s.toNat, by omega⟩
  by_cases h4 : l[k].length ≤ j
  · have hg : sgV l[k] (j : Int) = none := by unfold sgV; rw [if_neg h3, Int.toNat_natCast, List.getElem?_eq_none h4]
    rw [hg]
    exact (rget_high k j c _ w g o p1 _ c1 hc hk h4 hl6 (by omega) (by omega)).mono fun e w' h => rgot_none h
  have hj : j < l[k].length := by omega
  have hsg : sgV l[k] (j : Int) = (match l[k][j] with
      | .no => none
      | x => some x) := by
    unfold sgV
    rw [if_neg h3, Int.toNat_natCast, List.getElem?_eq_getElem hj]
    cases l[k][j] <;> rfl
  rw [hsg]
  obtain ⟨g1, o1, rfl, hg1, x0, x1, x2, x3, k0, k1, k2, k3, k4, k5, ha⟩ := hrow j hj
  obtain ⟨z, q1, m1, a1, q2, m2, a2, q3, m3, a3, rfl, rfl, rfl, rfl⟩ := ha.form
  generalize hx : l[k][j] = x at *
  cases x with
  | no => exact (rget_empty k j c _ w g o g1 o1 _ c1 hc k0 hk hj hl6 (by omega)).mono fun e w' h => rgot_none h
  | arr t =>
    refine (rget_found k j c _ w g o g1 o1 _ c1 hc z q1 q2 q3 m1 m2 m3 a1 a2 a3 false k0 k1 k2 k3 k4 k5 hk hj hl6 (by omega)).mono ?_
    rintro e w' ⟨rfl, hE⟩
    exact ⟨_, _, _, _, rfl, ha.ext hE, hE⟩
  | fn =>
    refine (rget_found k j c _ w g o g1 o1 _ c1 hc z q1 q2 q3 m1 m2 m3 a1 a2 a3 true k0 k1 k2 k3 k4 k5 hk hj hl6 (by omega)).mono ?_
    rintro e w' ⟨rfl, hE⟩
    exact ⟨_, _, _, _, rfl, ha.ext hE, hE⟩
end Go.Proofs.Ytgkemmdghmklfaa

namespace Go.Proofs.Ytgkemmdghmklfaa
set_option linter.unusedSimpArgs false
set_option linter.unusedVariables false
open Go.RowKit

set_option maxRecDepth 100000 in
set_option maxHeartbeats 2000000 in
theorem rnew_any (F : Nat → Prop) (n : Int) (v : Value) (l : List (List Slot)) (w : World) (hR : FrsR F w v l) (hl : l.length ≤ 100) (hn : -9223372036854775808 ≤ n ∧ n ≤ 9223372036854775807) :
    Calls Try.prog 30 #[.int .i64 n, v] w fun e w' => ∃ v', e = .returned v' ∧ FrsR (fun y => F y ∨ w.heap.size ≤ y) w' v' (List.replicate (slotsN n) .no :: l) ∧ Ext w w' := by
  obtain ⟨p, c, rfl⟩ := hR.form
  replace hR : FrsR (fun y => F y ∧ y < w.heap.size) w (.slice p l.length c) l := hR.mono fun y hy hlt => ⟨⟨hy, hlt⟩, rfl⟩
  have hle := slotsN_le n
  have hsn : (slotsN n : Int) = (if 16384 < (if n < 0 then 0 else n) then 16384 else (if n < 0 then 0 else n)) := by unfold slotsN; split <;> split <;> omega
  generalize slotsN n = m at *
  have HSN := Lib.hid hsn
  have HR := Lib.hid hR
  clear hsn hR
  go_enter Try.func30, Try.ntmps30
  go_upto_region 1 with (fail)
  go_cut [5] (fun v wx => v = .int .i64 (m : Int) ∧ wx = w)
  case first =>
    by_cases h1 : n < 0
    · rw [if_pos h1, if_neg (by omega)] at HSN
      go_wp2_with fail
      go_meet
      case rel => exact ⟨by rw [HSN.out], rfl⟩
    · rw [if_neg h1] at HSN
      by_cases h2 : 16384 < n
      · rw [if_pos h2] at HSN
        go_wp2_with fail
        go_meet
        case rel => exact ⟨by rw [HSN.out], rfl⟩
      · rw [if_neg h2] at HSN
        go_wp2_with fail
        go_meet
        case rel => exact ⟨by rw [HSN.out], rfl⟩
  case rest =>
  obtain ⟨rfl, hwc⟩ := hcut
  subst hwc
  obtain ⟨w, rfl⟩ : ∃ wx : World, wx = wc := ⟨_, rfl⟩
  have hmk := run_make_rslots m hle w
  have hmade := RowR.made w m hle
  have hE1 : Ext w (w.alloc (.cells (madeCells #[.bool false, .bool false, .int .i64 0, .slice none 0 0, .slice none 0 0, .slice none 0 0] (m * 6)) 86)) := (Ext.refl _).alloc _
  generalize hw1 : w.alloc (.cells (madeCells #[.bool false, .bool false, .int .i64 0, .slice none 0 0, .slice none 0 0, .slice none 0 0] (m * 6)) 86) = w1 at *
  have HW1 := Lib.hid hw1
  have hlt1 : w.heap.size < w1.heap.size := by rw [← hw1]; simp
  clear hw1
  have HLT := Lib.hid hlt1
  clear hlt1
  have HMADE := Lib.hid hmade
  have HE1 := Lib.hid hE1
  clear hmade hE1
  go_wp2_with (at_builtin; refine wpList_append_frs rfl _ _ rfl w (fun y => (F y ∧ y < w.heap.size) ∨ (w.heap.size ≤ y ∧ y < w1.heap.size)) w1.heap.size (.slice (some ⟨w.heap.size, 0, none⟩) m m) (List.replicate m .no) p c l rfl (RowC.new _ _ [_]) rfl (HMADE.out.mono fun y hy hlt => ⟨.inr ⟨hy, hlt⟩, ((Ext.refl w1).alloc _).block hlt⟩) ((HR.out.ext (HE1.out.alloc _)).mono fun y hy _ => ⟨.inl hy, rfl⟩) (HE1.out.alloc _) HE1.out.lt (fun y hy e => by have := HLT.out; rcases hy with hy | hy <;> omega) hl ?_; intro v9 w9 hv9 hE9)
  go_ret
  exact ⟨_, rfl, hv9.mono fun y hy _ => ⟨by rcases hy with (hy | hy) | hy <;> first | exact .inl hy.1 | exact .inr hy.1 | exact .inr hy, rfl⟩, hE9⟩
end Go.Proofs.Ytgkemmdghmklfaa

namespace Go.Proofs.Ytgkemmdghmklfaa
set_option linter.unusedSimpArgs false
set_option linter.unusedVariables false
open Go.RowKit

theorem infoPF : (Try.prog.info? 32).map (fun i => (i.zero, i.size, i.bytes)) = some (some (.pointer none), 1, 8) := by kernel_rfl
theorem FrAt.fb9 {F : Nat → Prop} {w : World} {b : Nat} {l : List Slot} {q : Option Addr} (h : FrAt F w b l q) : F b := by
  obtain ⟨_, _, _, _, _, _, f, _⟩ := h
  exact f

/-- The frames, the list of them in row g. -/
structure FStk (w0 w : World) (g : Nat) (l : List (Nat × List Slot)) (p : Option Addr) (lv : Value) : Prop where
  ext : Ext w0 w
  pos : 1 ≤ l.length
  gb : w0.heap.size ≤ g
  gl : g < w.heap.size
  nd : (g :: l.map Prod.fst).Nodup
  old : ∀ b ∈ l.map Prod.fst, w0.heap.size ≤ b
  fr : IsFrA (g :: l.map Prod.fst) w p l
  row : w.ownsRow w0.heap.size 32 1 lv l.length (ptrs l)
  own : lv.ownBlock = some g
/-- The reference's frames, none of whose blocks is the list's row or a frame's. -/
def Rf (g : Nat) (l : List (Nat × List Slot)) (w : World) (wv : Value) (L : List (List Slot)) : Prop := FrsR (fun x => x ∉ g :: l.map Prod.fst) w wv L
theorem Rf.ext {g : Nat} {l : List (Nat × List Slot)} {w w' : World} {wv : Value} {L : List (List Slot)} (h : Rf g l w wv L) (e : Ext w w') : Rf g l w' wv L := FrsR.ext h e
theorem FStk.next {w0 w w' : World} {g : Nat} {l : List (Nat × List Slot)} {p : Option Addr} {lv : Value} (h : FStk w0 w g l p lv) (e : Ext w w') : FStk w0 w' g l p lv :=
  ⟨h.ext.trans e, h.pos, h.gb, Nat.lt_of_lt_of_le h.gl e.lt, h.nd, h.old, h.fr.ext e, ownsRow_same h.row fun g' hg => e.block (h.row.lt g' hg).2, h.own⟩
theorem FStk.bnd {w0 w : World} {g : Nat} {l : List (Nat × List Slot)} {p : Option Addr} {lv : Value} (h : FStk w0 w g l p lv) {x : Nat} (hx : x ∈ g :: l.map Prod.fst) : w0.heap.size ≤ x ∧ x < w.heap.size := by
  simp only [List.mem_cons] at hx
  rcases hx with rfl | hx
  · exact ⟨h.gb, h.gl⟩
  · exact ⟨h.old x hx, h.fr.lt x hx⟩
theorem FStk.form {w0 w : World} {g : Nat} {l : List (Nat × List Slot)} {p : Option Addr} {lv : Value} (h : FStk w0 w g l p lv) : ∃ c, lv = .slice (some ⟨g, 0, none⟩) l.length c ∧ l.length ≤ c ∧ c ≤ maxLen := by
  have ho := h.own
  rcases h.row.2 with ⟨_, h0⟩ | ⟨g', cap, cur, rfl, _, _, hnc, hcm, _, _⟩
  · have := h.pos; omega
  · simp only [Value.ownBlock, Option.some.injEq] at ho
    subst ho
    exact ⟨cap, rfl, hnc, hcm⟩
/-- The new values that a part of the reference makes are none of these blocks. -/
theorem FStk.rf {w0 w w' : World} {g : Nat} {l : List (Nat × List Slot)} {p : Option Addr} {lv wv : Value} {L : List (List Slot)} {F : Nat → Prop} (h : FStk w0 w g l p lv) (hR : FrsR F w' wv L) (hF : ∀ x, F x → x < w0.heap.size ∨ x ∉ g :: l.map Prod.fst ∨ w.heap.size ≤ x) : Rf g l w' wv L :=
  hR.mono fun x hx _ => ⟨fun hm => by
    have hb := h.bnd hm
    rcases hF x hx with h1 | h1 | h1
    · omega
    · exact h1 hm
    · omega, rfl⟩

theorem fstk_init {w0 w1 w2 : World} {b : Nat} {sl : List Slot} (hE : Ext w0 w2) (e : Ext w1 w2) (hf : FrAt (fun x => w0.heap.size ≤ x) w1 b sl none) :
    FStk w0 (w2.alloc (.cells #[.pointer (some ⟨b, 0, none⟩)] 32)) w2.heap.size [(b, sl)] (some ⟨b, 0, none⟩) (.slice (some ⟨w2.heap.size, 0, none⟩) 1 1) := by
  have hb := hf.fb9
  have hlt := hf.lt
  have hle := e.lt
  have h0 := hE.lt
  have e2 : Ext w1 (w2.alloc (.cells #[.pointer (some ⟨b, 0, none⟩)] 32)) := e.alloc _
  refine ⟨hE.alloc _, Nat.le_refl _, h0, by simp, by simp; omega, by simpa using hb, ⟨none, rfl, hf.mono fun x hx hlt' => ⟨fun hm => ?_, e2.block hlt'⟩, rfl⟩, ⟨rfl, .inr ⟨w2.heap.size, 1, _, rfl, h0, heap_alloc_new _ _, Nat.le_refl _, by unfold maxLen; omega, rfl, rfl⟩⟩, rfl⟩
  simp at hm
  rcases hm with hm | hm
  · omega
  · exact hm

/-- A frame is opened. -/
theorem FStk.push {w0 w w1 w2 w3 : World} {g b g' cap : Nat} {l : List (Nat × List Slot)} {p : Option Addr} {lv : Value} {sl : List Slot} (h : FStk w0 w g l p lv) (e1 : Ext w w1) (hf : FrAt (fun x => w.heap.size ≤ x) w1 b sl p) (e2 : Ext w1 w2)
    (hr : w3.ownsRow w0.heap.size 32 1 (.slice (some ⟨g', 0, none⟩) (l.length + 1) cap) (l.length + 1) (ptrs l ++ [.pointer (some ⟨b, 0, none⟩)])) (hg : w2.grownBy w3 lv.ownBlock) (hat : lv.ownBlock = some g' ∨ g' = w2.heap.size) :
    FStk w0 w3 g' ((b, sl) :: l) (some ⟨b, 0, none⟩) (.slice (some ⟨g', 0, none⟩) (l.length + 1) cap) ∧ ∀ wv L, Rf g l w wv L → Rf g' ((b, sl) :: l) w3 wv L := by
  have hb := hf.fb9
  have hbl := hf.lt
  have l1 := e1.lt
  have l2 := e2.lt
  have l0 := h.ext.lt
  have hgl := h.gl
  have hgb := h.gb
  have hfl := h.fr.lt
  have hnd := h.nd
  simp only [List.nodup_cons] at hnd
  rw [h.own] at hg hat
  have hat' : g' = g ∨ g' = w2.heap.size := by
    rcases hat with hat | hat
    · simp only [Option.some.injEq] at hat; exact .inl hat.symm
    · exact .inr hat
  have hheap : ∀ x, x < w2.heap.size → x ≠ g → w3.heap[x]? = w2.heap[x]? := fun x hx hn => hg.block x hx (fun e => by simp only [Option.some.injEq] at e; exact hn e)
  have hheap0 : ∀ x, x < w.heap.size → x ≠ g → w3.heap[x]? = w.heap[x]? := fun x hx hn => (hheap x (by omega) hn).trans ((e1.trans e2).block hx)
  have hE : Ext w0 w3 := Below.grown ((h.ext.trans e1).trans e2) hg (by omega) (fun k e => by simp only [Option.some.injEq] at e; omega)
  have hrl := hr.lt g' rfl
  refine ⟨⟨hE, by simp, hrl.1, hrl.2, ?_, ?_, ⟨p, rfl, hf.mono fun x hx hlt => ⟨fun hm => ?_, (hheap x (by omega) (by omega)).trans (e2.block hlt)⟩, h.fr.move fun x hlt hx => ⟨fun hm => ?_, hheap0 x hlt ?_⟩⟩, by rw [ptrs_cons]; exact hr, rfl⟩, fun wv L hR => hR.mono fun x hx hlt => ⟨fun hm => ?_, hheap0 x hlt fun e => hx (by simp [e])⟩⟩
  · simp only [List.map_cons, List.nodup_cons, List.mem_cons, not_or]
    refine ⟨⟨by omega, ?_⟩, ?_, hnd.2⟩
    · rcases hat' with rfl | rfl
      · exact hnd.1
      · intro hm; have := hfl _ hm; omega
    · intro hm; have := hfl _ hm; omega
  · simp only [List.map_cons, List.mem_cons]
    rintro x (rfl | hx)
    · omega
    · exact h.old x hx
  · simp only [List.map_cons, List.mem_cons] at hm
    rcases hm with hm | hm | hm
    · omega
    · exact hm
    · have := hfl _ hm; omega
  · simp only [List.map_cons, List.mem_cons] at hm ⊢
    rcases hm with hm | hm | hm
    · left; omega
    · omega
    · exact .inr hm
  · intro e
    subst e
    rcases hx with hx | hx
    · exact hnd.1 hx
    · exact hx (by simp)
  · simp only [List.map_cons, List.mem_cons] at hm hx
    rcases hm with hm | hm | hm
    · exact hx (.inl (by omega))
    · omega
    · exact hx (.inr hm)

/-- A frame is left. -/
theorem FStk.pop {w0 w : World} {g c : Nat} {x y : Nat × List Slot} {r : List (Nat × List Slot)} {p : Option Addr} (h : FStk w0 w g (x :: y :: r) p (.slice (some ⟨g, 0, none⟩) (x :: y :: r).length c)) :
    FStk w0 w g (y :: r) (some ⟨y.1, 0, none⟩) (.slice (some ⟨g, 0, none⟩) (r.length + 1) c) ∧ w.cell? ⟨g, r.length, none⟩ = some (.pointer (some ⟨y.1, 0, none⟩)) ∧ ∀ wv L, Rf g (x :: y :: r) w wv L → Rf g (y :: r) w wv L := by
  have hnd := h.nd
  simp only [List.map_cons, List.nodup_cons, List.mem_cons, not_or] at hnd
  have hrow : w.ownsRow w0.heap.size 32 1 (.slice (some ⟨g, 0, none⟩) (r.length + 1) c) (r.length + 1) (ptrs (y :: r)) := by
    rcases h.row.2 with ⟨e, _⟩ | ⟨g', cap, cur, e, hb, hgg, hnc, hcm, hcs, ht⟩
    · simp at e
    · cases e
      refine ⟨by rw [ptrs_len]; simp, .inr ⟨g, c, cur, rfl, hb, hgg, by simp at hnc; omega, hcm, hcs, ?_⟩⟩
      rw [ptrs_cons] at ht
      have h2 := congrArg (List.take ((r.length + 1) * 1)) ht
      rw [List.take_take, List.take_append_of_le_length (by rw [ptrs_len]; simp), List.take_of_length_le (l := ptrs (y :: r)) (by rw [ptrs_len]; simp)] at h2
      rw [← h2]
      congr 1
      simp
  obtain ⟨q, hp, hf, q2, hq2, hf2, hr2⟩ := h.fr
  subst hq2
  refine ⟨⟨h.ext, by simp, h.gb, h.gl, by simp only [List.map_cons, List.nodup_cons, List.mem_cons, not_or]; exact ⟨⟨hnd.1.2.1, hnd.1.2.2⟩, hnd.2.2⟩, fun b hb => h.old b (by simp at hb ⊢; exact .inr hb), ?_, hrow, rfl⟩, ?_, fun wv L hR => hR.mono fun z hz _ => ⟨fun hm => hz ?_, rfl⟩⟩
  · refine IsFrA.move (A := g :: (x :: y :: r).map Prod.fst) (w := w) (fun z hlt hz => ⟨fun hm => ?_, rfl⟩) ⟨q2, rfl, hf2, hr2⟩
    simp only [List.map_cons, List.mem_cons] at hm ⊢
    rcases hm with hm | hm
    · exact .inl hm
    · exact .inr (.inr hm)
  · have := hrow.cells (g := g) rfl r.length (.pointer (some ⟨y.1, 0, none⟩)) (by rw [ptrs_cons, List.getElem?_append_right (by rw [ptrs_len]; exact Nat.le_refl _), ptrs_len]; simp)
    rw [Addr.add_lit, Nat.zero_add] at this
    exact this
  · simp only [List.map_cons, List.mem_cons] at hm ⊢
    rcases hm with hm | hm
    · exact .inl hm
    · exact .inr (.inr hm)

/-- A frame is set: only its block, and new ones, are written. -/
theorem FStk.set {w0 w w' : World} {g b : Nat} {sl sl' : List Slot} {r : List (Nat × List Slot)} {p q : Option Addr} {lv : Value} (h : FStk w0 w g ((b, sl) :: r) p lv) (hp : p = some ⟨b, 0, none⟩) (hr : IsFrA (g :: ((b, sl) :: r).map Prod.fst) w q r)
    (hf : FrAt (fun x => (x ∈ g :: ((b, sl) :: r).map Prod.fst → x = b) ∨ w.heap.size ≤ x) w' b sl' q)
    (hE : Ext w0 w') (hle : w.heap.size ≤ w'.heap.size) (hk : ∀ x, x < w.heap.size → x ≠ b → w'.heap[x]? = w.heap[x]?) : FStk w0 w' g ((b, sl') :: r) p lv ∧ ∀ wv L, Rf g ((b, sl) :: r) w wv L → Rf g ((b, sl') :: r) w' wv L := by
  have hnd := h.nd
  simp only [List.map_cons, List.nodup_cons, List.mem_cons, not_or] at hnd
  have hlt := h.fr.lt
  have hgl := h.gl
  have hgb : g ≠ b := hnd.1.1
  refine ⟨⟨hE, h.pos, h.gb, Nat.lt_of_lt_of_le h.gl hle, h.nd, h.old, ⟨q, hp, hf.mono fun x hx _ => ⟨fun hxa => ?_, rfl⟩, ?_⟩, ownsRow_same h.row fun g' hg => ?_, h.own⟩, fun wv L hR => hR.mono fun x hx hlx => ⟨hx, hk x hlx fun e => hx (by simp [e])⟩⟩
  · rcases hx with hx | hx
    · exact hx hxa
    · exfalso
      have := h.bnd hxa
      omega
  · refine hr.move fun x hlx hx => ⟨id, hk x hlx fun e => ?_⟩
    subst e
    rcases hx with hx | hx
    · exact hnd.2.1 hx
    · exact hx (by simp)
  · have e := h.own
    rw [e] at hg
    cases hg
    exact hk g h.gl hgb
theorem ext_le {w w' : World} {b : Nat} (hk : ∀ x, x < w.heap.size → x ≠ b → w'.heap[x]? = w.heap[x]?) (hb : b < w'.heap.size) : w.heap.size ≤ w'.heap.size := by
  rcases Nat.lt_or_ge w'.heap.size w.heap.size with hlt | hge
  · exfalso
    have h := hk w'.heap.size hlt (by omega)
    rw [Array.getElem?_eq_none (Nat.le_refl _), Array.getElem?_eq_getElem hlt] at h
    cases h
  · exact hge
theorem elemPF : Try.prog.elem 53 = 32 := by kernel_rfl
theorem sizePF : (Try.prog.info? 32).map (·.size) = some 1 := by kernel_rfl
theorem slice_hP (g n c : Nat) (w : World) (k : Nat) (hk : k ≤ c) : (Instr.sliceAt 53 (.slice (some ⟨g, 0, none⟩) n c) none (some (.int .i64 (k : Int))) none).run Try.prog w = .ok (.slice (some ⟨g, 0, none⟩) k c) w := by
  rw [run_sliceAt_slice _ _ _ _ _ _ (by rw [elemPF]; exact Try.underlying53), run_slice_h _ _ _ _ _ (by rw [elemPF]; exact Try.underlying53) .i64 (k : Int) (by omega) (by omega)]
  obtain ⟨i, hi, hs⟩ := Option.map_eq_some_iff.1 sizePF
  simp [elemPF, sizeOf, typeInfo, hi, hs, sliced, Addr.add_lit]
theorem RowC.cellsix {T : TypeId} {w : World} {b : Nat} {c0 c1 c2 c3 c4 c5 : Value} (h : RowC T w b [c0, c1, c2, c3, c4, c5]) : w.cell? ⟨b, 0, none⟩ = some c0 ∧ w.cell? ⟨b, 1, none⟩ = some c1 ∧ w.cell? ⟨b, 2, none⟩ = some c2 ∧ w.cell? ⟨b, 3, none⟩ = some c3 ∧ w.cell? ⟨b, 4, none⟩ = some c4 ∧ w.cell? ⟨b, 5, none⟩ = some c5 :=
  ⟨h.cellQ rfl, h.cellQ rfl, h.cellQ rfl, h.cellQ rfl, h.cellQ rfl, h.cellQ rfl⟩
end Go.Proofs.Ytgkemmdghmklfaa
