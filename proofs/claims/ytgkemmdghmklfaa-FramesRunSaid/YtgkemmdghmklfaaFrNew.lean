/-
  FRAMES IN THE HEAP; frames.New.
-/
import Derived.Test.YtgkemmdghmklfaaCommon
import Derived.Test.YtgkemmdghmklfaaAround
namespace Go.Proofs.Ytgkemmdghmklfaa
set_option linter.unusedSimpArgs false
set_option linter.unusedVariables false
open Go.RowKit

/-- What a slot holds. -/
inductive Slot where
  | no
  | arr (t : Arr)
  | fn
  deriving Inhabited
def Slot.used : Slot → Bool
  | .no => false
  | .arr _ => true
  | .fn => true
def Slot.isFn : Slot → Bool
  | .fn => true
  | _ => false
/-- A field of a function type, nil or not. -/
def FunOk (b : Bool) (v : Value) : Prop := if b = true then ∃ T x, v = .iface T x else v = .nilIface
theorem FunOk.no {v : Value} (h : FunOk false v) : v = .nilIface := h
theorem FunOk.yes {v : Value} (h : FunOk true v) : ∃ T x, v = .iface T x := h
def Slot.tree : Slot → Arr
  | .no => Arr.zero
  | .arr t => t
  | .fn => Arr.zero
theorem infoV : (Try.prog.info? 38).map (fun i => (i.zero, i.size, i.bytes)) = some (some (.agg #[.int .i64 0, .slice none 0 0, .slice none 0 0, .slice none 0 0, .nilIface]), 5, 96) := by kernel_rfl
theorem infoBool : (Try.prog.info? 4).map (fun i => (i.zero, i.size, i.bytes)) = some (some (.bool false), 1, 1) := by kernel_rfl
theorem run_make_vals (n : Nat) (hn : n ≤ 16384) (w : World) : (Instr.makeSlice 76 (.int .i64 (n : Int)) (.int .i64 (n : Int))).run Try.prog w = .ok (.slice (some ⟨w.heap.size, 0, none⟩) n n) (w.alloc (.cells (madeCells #[.int .i64 0, .slice none 0 0, .slice none 0 0, .slice none 0 0, .nilIface] (n * 5)) 38)) := by
  obtain ⟨i0, hi, hz0, hz1, hz2⟩ := info_parts infoV
  have := run_make (P := Try.prog) w 76 38 i0 _ Try.underlying76 hi hz0 .i64 .i64 n n (by omega) (by omega) (by rw [hz2]; omega) (by omega)
  rw [hz1] at this
  simpa [Value.cells] using this
theorem run_make_bools (n : Nat) (hn : n ≤ 16384) (w : World) : (Instr.makeSlice 77 (.int .i64 (n : Int)) (.int .i64 (n : Int))).run Try.prog w = .ok (.slice (some ⟨w.heap.size, 0, none⟩) n n) (w.alloc (.cells (madeCells #[.bool false] n) 4)) := by
  obtain ⟨i0, hi, hz0, hz1, hz2⟩ := info_parts infoBool
  have := run_make (P := Try.prog) w 77 4 i0 _ Try.underlying77 hi hz0 .i64 .i64 n n (by omega) (by omega) (by rw [hz2]; omega) (by omega)
  rw [hz1] at this
  simpa [Value.cells] using this

/-- Block g holds just the cells cs of element type T. -/
def RowC (T : TypeId) (w : World) (g : Nat) (cs : List Value) : Prop := w.heap[g]? = some (.cells cs.toArray T (0, 0))
theorem RowC.cell {T : TypeId} {w : World} {g : Nat} {cs : List Value} (h : RowC T w g cs) {j : Nat} (hj : j < cs.length) : w.cell? ⟨g, j, none⟩ = some cs[j] := by
  unfold RowC at h
  rw [cell_of_row w g j _ _ _ h]
  simp [hj]
theorem RowC.free {T : TypeId} {w : World} {g : Nat} {cs : List Value} (h : RowC T w g cs) (o : Nat) : w.frozen? ⟨g, o, none⟩ = false := frozen_of_row w g o _ _ h
theorem RowC.lt {T : TypeId} {w : World} {g : Nat} {cs : List Value} (h : RowC T w g cs) : g < w.heap.size := (Array.getElem?_eq_some_iff.1 h).1
theorem RowC.kept {T : TypeId} {w w' : World} {g : Nat} {cs : List Value} (h : RowC T w g cs) (e : w'.heap[g]? = w.heap[g]?) : RowC T w' g cs := by
  unfold RowC at h ⊢
  rw [e]; exact h
theorem RowC.ext {T : TypeId} {w w' : World} {g : Nat} {cs : List Value} (h : RowC T w g cs) (e : Ext w w') : RowC T w' g cs := h.kept (e.block h.lt)
theorem RowC.new (T : TypeId) (w : World) (cs : List Value) : RowC T (w.alloc (.cells cs.toArray T)) w.heap.size cs := heap_alloc_new w _
theorem RowC.set {T : TypeId} {w : World} {g : Nat} {cs : List Value} (h : RowC T w g cs) (j : Nat) (x : Value) : RowC T (w.setCell ⟨g, j, none⟩ x) g (cs.set j x) := by
  unfold RowC at h ⊢
  rw [heap_setCell_at h]
  simp

/-- The five cells of a slot read as what it holds. -/
def SlotAt (F : Nat → Prop) (w : World) (s : Slot) (cs : List Value) (i : Nat) : Prop :=
  ∃ c0 c1 c2 c3 cv, cs[i * 5]? = some c0 ∧ cs[i * 5 + 1]? = some c1 ∧ cs[i * 5 + 2]? = some c2 ∧ cs[i * 5 + 3]? = some c3 ∧ cs[i * 5 + 4]? = some cv ∧ FunOk s.isFn cv ∧ ArrAt F w s.tree c0 c1 c2 c3
/-- Block b is a frame with the slots l, within the frame at q. -/
def FrAt (F : Nat → Prop) (w : World) (b : Nat) (l : List Slot) (q : Option Addr) : Prop :=
  ∃ gv gu cs, RowC 79 w b [.slice (some ⟨gv, 0, none⟩) l.length l.length, .slice (some ⟨gu, 0, none⟩) l.length l.length, .pointer q] ∧ RowC 38 w gv cs ∧ RowC 4 w gu (l.map fun s => Value.bool s.used) ∧
    F b ∧ F gv ∧ F gu ∧ gv ≠ b ∧ gu ≠ b ∧ gv ≠ gu ∧ cs.length = l.length * 5 ∧ l.length ≤ 16384 ∧ ∀ i (h : i < l.length), SlotAt (fun x => F x ∧ x ≠ b) w l[i] cs i
theorem FrAt.mono {F G : Nat → Prop} {w w' : World} {b : Nat} {l : List Slot} {q : Option Addr} (h : FrAt F w b l q) (hF : ∀ x, F x → x < w.heap.size → G x ∧ w'.heap[x]? = w.heap[x]?) : FrAt G w' b l q := by
  obtain ⟨gv, gu, cs, h1, h2, h3, f1, f2, f3, n1, n2, n3, hl, h16, hs⟩ := h
  refine ⟨gv, gu, cs, h1.kept (hF b f1 h1.lt).2, h2.kept (hF gv f2 h2.lt).2, h3.kept (hF gu f3 h3.lt).2, (hF b f1 h1.lt).1, (hF gv f2 h2.lt).1, (hF gu f3 h3.lt).1, n1, n2, n3, hl, h16, fun i hi => ?_⟩
  obtain ⟨c0, c1, c2, c3, cv, k0, k1, k2, k3, k4, hv, ha⟩ := hs i hi
  exact ⟨c0, c1, c2, c3, cv, k0, k1, k2, k3, k4, hv, ArrAt.mono (fun x hx hlt => ⟨⟨(hF x hx.1 hlt).1, hx.2⟩, (hF x hx.1 hlt).2⟩) _ _ _ _ _ ha⟩
theorem FrAt.ext {F : Nat → Prop} {w w' : World} {b : Nat} {l : List Slot} {q : Option Addr} (h : FrAt F w b l q) (e : Ext w w') : FrAt F w' b l q := h.mono fun _ hf hlt => ⟨hf, e.block hlt⟩
theorem FrAt.lt {F : Nat → Prop} {w : World} {b : Nat} {l : List Slot} {q : Option Addr} (h : FrAt F w b l q) : b < w.heap.size := by
  obtain ⟨_, _, _, h1, _⟩ := h
  exact h1.lt
theorem FrAt.next {F : Nat → Prop} {w : World} {b : Nat} {l : List Slot} {q : Option Addr} (h : FrAt F w b l q) : w.cell? ⟨b, 2, none⟩ = some (.pointer q) := by
  obtain ⟨_, _, _, h1, _⟩ := h
  exact h1.cell (j := 2) (by simp)
theorem made_vals (n : Nat) : madeCells #[.int .i64 0, .slice none 0 0, .slice none 0 0, .slice none 0 0, .nilIface] (n * 5) = ((List.range (n * 5)).map fun j => (#[Value.int .i64 0, .slice none 0 0, .slice none 0 0, .slice none 0 0, .nilIface]).getD (j % 5) default).toArray := by
  apply Array.ext
  · simp [madeCells]
  · intro i h1 h2
    simp [madeCells]
theorem made_bools (n : Nat) : madeCells #[.bool false] n = (List.replicate n (Value.bool false)).toArray := by
  apply Array.ext
  · simp [madeCells]
  · intro i h1 h2
    simp [madeCells, Nat.mod_one]
/-- The number of slots that New makes. -/
def slotsN (n : Int) : Nat := (if 16384 < (if n < 0 then 0 else n) then 16384 else (if n < 0 then 0 else n)).toNat
theorem slotsN_le (n : Int) : slotsN n ≤ 16384 := by unfold slotsN; split <;> split <;> omega

theorem slotAt_no (n : Nat) (F : Nat → Prop) (w : World) (i : Nat) (hi : i < n) : SlotAt F w .no ((List.range (n * 5)).map fun j => (#[Value.int .i64 0, .slice none 0 0, .slice none 0 0, .slice none 0 0, .nilIface]).getD (j % 5) default) i := by
  have h : ∀ k, k < 5 → (((List.range (n * 5)).map fun j => (#[Value.int .i64 0, .slice none 0 0, .slice none 0 0, .slice none 0 0, .nilIface]).getD (j % 5) default))[i * 5 + k]? = some ((#[Value.int .i64 0, .slice none 0 0, .slice none 0 0, .slice none 0 0, .nilIface]).getD k default) := fun k hk => by
    rw [List.getElem?_map, List.getElem?_range (by omega), Option.map_some, show (i * 5 + k) % 5 = k by omega]
  exact ⟨_, _, _, _, _, h 0 (by omega), h 1 (by omega), h 2 (by omega), h 3 (by omega), h 4 (by omega), rfl, Arr.zero_at _ _⟩
theorem fr_new (B m : Nat) (q : Option Addr) (w9 : World) (gv gu : Nat) (hle : m ≤ 16384) (h9 : B ≤ w9.heap.size) (h1 : RowC 38 w9 gv ((List.range (m * 5)).map fun j => (#[Value.int .i64 0, .slice none 0 0, .slice none 0 0, .slice none 0 0, .nilIface]).getD (j % 5) default))
    (h2 : RowC 4 w9 gu (List.replicate m (Value.bool false))) (b1 : B ≤ gv) (b2 : B ≤ gu) :
    FrAt (fun x => B ≤ x) (w9.alloc (.cells #[.slice (some ⟨gv, 0, none⟩) m m, .slice (some ⟨gu, 0, none⟩) m m, .pointer q] 79)) w9.heap.size (List.replicate m .no) q := by
  have e : Ext w9 (w9.alloc (.cells #[.slice (some ⟨gv, 0, none⟩) m m, .slice (some ⟨gu, 0, none⟩) m m, .pointer q] 79)) := (Ext.refl _).alloc _
  have l1 := h1.lt
  have l2 := h2.lt
  refine ⟨gv, gu, _, ?_, h1.ext e, ?_, h9, b1, b2, by omega, by omega, fun eq => ?_, by simp, by simpa using hle, fun i hi => ?_⟩
  · rw [List.length_replicate]; exact RowC.new _ _ _
  · have := h2.ext e
    simpa [Slot.used] using this
  · subst eq
    unfold RowC at h1 h2
    rw [h1] at h2
    simp at h2
  · rw [List.getElem_replicate]
    exact slotAt_no m _ _ i (by simpa using hi)
def MProp.rowC (B : Nat) (T : TypeId) (cs : List Value) (n : Nat) : MProp := ⟨fun _ W v => ∃ g, v = .slice (some ⟨g, 0, none⟩) n n ∧ RowC T W g cs ∧ B ≤ g, fun _ _ _ _ _ e _ h => by
  obtain ⟨g, h1, h2, h3⟩ := h
  exact ⟨g, h1, h2.ext e, h3⟩⟩
def MProp.frv (B m : Nat) (q : Option Addr) : MProp := ⟨fun _ W v => ∃ gv gu, v = .agg #[.slice (some ⟨gv, 0, none⟩) m m, .slice (some ⟨gu, 0, none⟩) m m, .pointer q] ∧ RowC 38 W gv ((List.range (m * 5)).map fun j => (#[Value.int .i64 0, .slice none 0 0, .slice none 0 0, .slice none 0 0, .nilIface]).getD (j % 5) default) ∧ RowC 4 W gu (List.replicate m (Value.bool false)) ∧ B ≤ gv ∧ B ≤ gu, fun _ _ _ _ _ e _ h => by
  obtain ⟨gv, gu, h1, h2, h3, h4⟩ := h
  exact ⟨gv, gu, h1, h2.ext e, h3.ext e, h4⟩⟩
def MProp.frp (B m : Nat) (q : Option Addr) : MProp := ⟨fun _ W v => ∃ b, v = .pointer (some ⟨b, 0, none⟩) ∧ FrAt (fun x => B ≤ x) W b (List.replicate m .no) q, fun _ _ _ _ _ e _ h => by
  obtain ⟨b, h1, h2⟩ := h
  exact ⟨b, h1, h2.ext e⟩⟩

set_option maxRecDepth 100000 in
set_option maxHeartbeats 2000000 in
theorem new_any (n : Int) (q : Option Addr) (w : World) (hn : -9223372036854775808 ≤ n ∧ n ≤ 9223372036854775807) :
    Calls Try.prog 21 #[.int .i64 n, .pointer q] w fun e w' => ∃ b, e = .returned (.pointer (some ⟨b, 0, none⟩)) ∧ FrAt (fun x => w.heap.size ≤ x) w' b (List.replicate (slotsN n) .no) q ∧ Ext w w' := by
  have hle := slotsN_le n
  have hsn : (slotsN n : Int) = (if 16384 < (if n < 0 then 0 else n) then 16384 else (if n < 0 then 0 else n)) := by unfold slotsN; split <;> split <;> omega
  generalize slotsN n = m at *
  have HSN := Lib.hid hsn
  clear hsn
  go_enter Try.func21, Try.ntmps21
  go_upto_region 1 with (fail)
  go_cut [5] (fun v wx => v = .int .i64 (m : Int) ∧ wx = w)
  case first =>
    by_cases h1 : n < 0
    · rw [if_pos h1, if_neg (by omega)] at HSN
      go_wp2_with fail
      go_meet
      case rel => exact ⟨by rw [HSN.out], rfl⟩
    · rw [if_neg h1] at HSN
      by_cases h2 : 16384 < n
      · rw [if_pos h2] at HSN
        go_wp2_with fail
        go_meet
        case rel => exact ⟨by rw [HSN.out], rfl⟩
      · rw [if_neg h2] at HSN
        go_wp2_with fail
        go_meet
        case rel => exact ⟨by rw [HSN.out], rfl⟩
  case rest =>
  obtain ⟨rfl, hwc⟩ := hcut
  subst hwc
  obtain ⟨w, rfl⟩ : ∃ wx : World, wx = wc := ⟨_, rfl⟩
  go_wp2_with fail
  refine wp_region_x1 [MProp.is (.int .i64 (m : Int)), MProp.rowC w.heap.size 38 ((List.range (m * 5)).map fun j => (#[Value.int .i64 0, .slice none 0 0, .slice none 0 0, .slice none 0 0, .nilIface]).getD (j % 5) default) m, MProp.is (.int .i64 (m : Int)), MProp.rowC w.heap.size 4 (List.replicate m (Value.bool false)) m, MProp.is (.pointer q), MProp.frv w.heap.size m q, MProp.frp w.heap.size m q] [0, 1, 2, 3, 4, 5, 6] [] [9, 10, 11, 12, 13, 14, 15] 7 (by kernel_rfl) (by kernel_rfl) (by kernel_rfl) rfl ?_ ?_ ?_
  · refine mem_cons_m ?_ (mem_cons_m ?_ (mem_cons_m ?_ (mem_cons_m ?_ (mem_cons_m ?_ (mem_cons_m ?_ (mem_cons_m ?_ (mem_nil_m)))))))
    · refine ⟨_, 9, rfl, by kernel_rfl, ?_⟩
      intro u w9 X hE hX hd K hK
      clear hd
      simp only [overlay, List.setIfInBounds_toArray, List.set] at hK ⊢
      go_wp2_with fail
      exact hK _ _ X (Ext.refl _) kept_m hX rfl
    · refine ⟨_, 10, rfl, by kernel_rfl, ?_⟩
      intro u w9 X hE hX hd K hK
      have d0 : u 9 = .int .i64 (m : Int) := hd 0 (by kernel_rfl)
      clear hd
      simp only [overlay, List.setIfInBounds_toArray, List.set, d0] at hK ⊢
      have hle9 := hE.lt
      have hmk := run_make_vals m hle w9
      go_wp2_with fail
      exact hK _ _ X ((Ext.refl _).alloc _) kept_m (hX.ext ((Ext.refl _).alloc _)) ⟨w9.heap.size, rfl, by rw [made_vals]; exact RowC.new _ _ _, hle9⟩
    · refine ⟨_, 11, rfl, by kernel_rfl, ?_⟩
      intro u w9 X hE hX hd K hK
      clear hd
      simp only [overlay, List.setIfInBounds_toArray, List.set] at hK ⊢
      go_wp2_with fail
      exact hK _ _ X (Ext.refl _) kept_m hX rfl
    · refine ⟨_, 12, rfl, by kernel_rfl, ?_⟩
      intro u w9 X hE hX hd K hK
      have d2 : u 11 = .int .i64 (m : Int) := hd 2 (by kernel_rfl)
      clear hd
      simp only [overlay, List.setIfInBounds_toArray, List.set, d2] at hK ⊢
      have hle9 := hE.lt
      have hmk := run_make_bools m hle w9
      go_wp2_with fail
      exact hK _ _ X ((Ext.refl _).alloc _) kept_m (hX.ext ((Ext.refl _).alloc _)) ⟨w9.heap.size, rfl, by rw [made_bools]; exact RowC.new _ _ _, hle9⟩
    · refine ⟨_, 13, rfl, by kernel_rfl, ?_⟩
      intro u w9 X hE hX hd K hK
      clear hd
      simp only [overlay, List.setIfInBounds_toArray, List.set] at hK ⊢
      go_wp2_with fail
      exact hK _ _ X (Ext.refl _) kept_m hX rfl
    · refine ⟨_, 14, rfl, by kernel_rfl, ?_⟩
      intro u w9 X hE hX hd K hK
      have d1 : ∃ g, u 10 = .slice (some ⟨g, 0, none⟩) m m ∧ RowC 38 w9 g ((List.range (m * 5)).map fun j => (#[Value.int .i64 0, .slice none 0 0, .slice none 0 0, .slice none 0 0, .nilIface]).getD (j % 5) default) ∧ w.heap.size ≤ g := hd 1 (by kernel_rfl)
      have d3 : ∃ g, u 12 = .slice (some ⟨g, 0, none⟩) m m ∧ RowC 4 w9 g (List.replicate m (Value.bool false)) ∧ w.heap.size ≤ g := hd 3 (by kernel_rfl)
      have d4 : u 13 = .pointer q := hd 4 (by kernel_rfl)
      clear hd
      simp only [overlay, List.setIfInBounds_toArray, List.set, d4] at hK ⊢
      obtain ⟨gv, hv1, hr1, hb1⟩ := d1
      obtain ⟨gu, hv3, hr3, hb3⟩ := d3
      simp only [hv1, hv3] at hK ⊢
      go_wp2_with fail
      exact hK _ _ X (Ext.refl _) kept_m hX ⟨gv, gu, rfl, hr1, hr3, hb1, hb3⟩
    · refine ⟨_, 15, rfl, by kernel_rfl, ?_⟩
      intro u w9 X hE hX hd K hK
      have d5 : ∃ gv gu, u 14 = .agg #[.slice (some ⟨gv, 0, none⟩) m m, .slice (some ⟨gu, 0, none⟩) m m, .pointer q] ∧ RowC 38 w9 gv ((List.range (m * 5)).map fun j => (#[Value.int .i64 0, .slice none 0 0, .slice none 0 0, .slice none 0 0, .nilIface]).getD (j % 5) default) ∧ RowC 4 w9 gu (List.replicate m (Value.bool false)) ∧ w.heap.size ≤ gv ∧ w.heap.size ≤ gu := hd 5 (by kernel_rfl)
      clear hd
      simp only [overlay, List.setIfInBounds_toArray, List.set] at hK ⊢
      obtain ⟨gv, gu, hv5, hr1, hr3, hb1, hb3⟩ := d5
      have hle9 := hE.lt
      simp only [hv5] at hK ⊢
      go_wp2_with fail
      exact hK _ _ X ((Ext.refl _).alloc _) kept_m (hX.ext ((Ext.refl _).alloc _)) ⟨w9.heap.size, rfl, fr_new w.heap.size m q w9 gv gu hle hle9 hr1 hr3 hb1 hb3⟩
  · exact mem_nil_m
  intro u w9 X hE hX hd
  have d0 : u 9 = .int .i64 (m : Int) := hd 0 (by decide)
  have d1 : ∃ g, u 10 = .slice (some ⟨g, 0, none⟩) m m ∧ RowC 38 w9 g ((List.range (m * 5)).map fun j => (#[Value.int .i64 0, .slice none 0 0, .slice none 0 0, .slice none 0 0, .nilIface]).getD (j % 5) default) ∧ w.heap.size ≤ g := hd 1 (by decide)
  have d2 : u 11 = .int .i64 (m : Int) := hd 2 (by decide)
  have d3 : ∃ g, u 12 = .slice (some ⟨g, 0, none⟩) m m ∧ RowC 4 w9 g (List.replicate m (Value.bool false)) ∧ w.heap.size ≤ g := hd 3 (by decide)
  have d4 : u 13 = .pointer q := hd 4 (by decide)
  have d5 : ∃ gv gu, u 14 = .agg #[.slice (some ⟨gv, 0, none⟩) m m, .slice (some ⟨gu, 0, none⟩) m m, .pointer q] ∧ RowC 38 w9 gv ((List.range (m * 5)).map fun j => (#[Value.int .i64 0, .slice none 0 0, .slice none 0 0, .slice none 0 0, .nilIface]).getD (j % 5) default) ∧ RowC 4 w9 gu (List.replicate m (Value.bool false)) ∧ w.heap.size ≤ gv ∧ w.heap.size ≤ gu := hd 5 (by decide)
  have d6 : ∃ b, u 15 = .pointer (some ⟨b, 0, none⟩) ∧ FrAt (fun x => w.heap.size ≤ x) w9 b (List.replicate m .no) q := hd 6 (by decide)
  clear hd
  simp only [overlay, List.setIfInBounds_toArray, List.set, d0, d2, d4]
  obtain ⟨b, hvb, hfr⟩ := d6
  simp only [hvb]
  have e9 := (Ext.refl _).drew.trans hE
  clear d0 d1 d2 d3 d4 d5 hX hE
  generalize u 10 = z10 at *
  generalize u 12 = z12 at *
  generalize u 14 = z14 at *
  clear hvb u
  go_wp2_with fail
  refine OnlyN.mk ?_
  go_wp2_with fail
  go_ret
  exact ⟨b, rfl, hfr, e9⟩
end Go.Proofs.Ytgkemmdghmklfaa

