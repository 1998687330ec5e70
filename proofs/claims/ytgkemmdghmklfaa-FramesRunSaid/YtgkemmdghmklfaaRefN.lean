/-
  THE WALK of law39.heavy; primitive.Fun.
-/
import Derived.Test.YtgkemmdghmklfaaRefM
import Derived.Test.YtgkemmdghmklfaaMkR
import Derived.Test.YtgkemmdghmklfaaFSetL
import Derived.Test.YtgkemmdghmklfaaRRight
import Derived.Test.YtgkemmdghmklfaaR3Few
namespace Go.Proofs.Ytgkemmdghmklfaa
set_option linter.unusedSimpArgs false
set_option linter.unusedVariables false
open Go.RowKit

theorem slotArrs_len (s : List Slot) : (slotArrs s).length ≤ s.length := by
  unfold slotArrs
  induction s with
  | nil => simp
  | cons x r ih =>
    rw [List.flatMap_cons, List.length_append, List.length_cons]
    cases x <;> simp only [List.length_cons, List.length_nil] <;> omega
theorem rfArrs_snoc {l : List (List Slot)} {j : Nat} (h : j < l.length) : rfArrs (l.take (j + 1)) = rfArrs (l.take j) ++ slotArrs l[j] := by
  unfold rfArrs
  rw [List.take_succ_eq_append_getElem h, List.flatMap_append]
  simp only [List.flatMap_cons, List.flatMap_nil, List.append_nil]
theorem rfArrs_len : ∀ (l : List (List Slot)), (∀ s ∈ l, s.length ≤ 16384) → (rfArrs l).length ≤ l.length * 16384
  | [], _ => by simp [rfArrs]
  | x :: r, h => by
    have h1 := rfArrs_len r fun s hs => h s (by simp [hs])
    have h2 := slotArrs_len x
    have h3 := h x (by simp)
    have e : rfArrs (x :: r) = slotArrs x ++ rfArrs r := by simp [rfArrs]
    rw [e, List.length_append, List.length_cons]
    omega
theorem FrsR.row {F : Nat → Prop} {w : World} {p : Option Addr} {n c : Nat} {l : List (List Slot)} (h : FrsR F w (.slice p n c) l) {j : Nat} (hj : j < l.length) : ∃ g o p1 c1, p = some ⟨g, o, none⟩ ∧ w.cell? ⟨g, o + j, none⟩ = some (.slice p1 l[j].length c1) ∧ l[j].length ≤ 16384 ∧ RowR F w (.slice p1 l[j].length c1) l[j] := by
  obtain ⟨p', c', e, h6, hs⟩ := h
  simp only [Value.slice.injEq] at e
  obtain ⟨rfl, rfl, rfl⟩ := e
  obtain ⟨g, o, rv, hp, hf, hc, hr⟩ := hs j hj
  obtain ⟨p1, c1, rfl, h16, _⟩ := id hr
  exact ⟨g, o, p1, c1, hp, hc, h16, hr⟩
theorem RowR.slot {F : Nat → Prop} {w : World} {p : Option Addr} {n c : Nat} {l : List Slot} (h : RowR F w (.slice p n c) l) {j : Nat} (hj : j < l.length) : ∃ g o, p = some ⟨g, o, none⟩ ∧ RSlotAt F w l[j] g (o + j * 6) := by
  obtain ⟨p', c', e, h6, hs⟩ := h
  simp only [Value.slice.injEq] at e
  obtain ⟨rfl, rfl, rfl⟩ := e
  obtain ⟨g, o, hp, _, hr⟩ := hs j hj
  exact ⟨g, o, hp, hr⟩

theorem RowR.ext {F : Nat → Prop} {w w' : World} {v : Value} {l : List Slot} (h : RowR F w v l) (e : Ext w w') : RowR F w' v l := h.mono fun _ hf hlt => ⟨hf, e.block hlt⟩

set_option maxRecDepth 100000 in
set_option maxHeartbeats 4000000 in
theorem rarrs_any (F : Nat → Prop) (v : Value) (l : List (List Slot)) (hl : l.length ≤ 1000) (w : World) (hR : FrsR F w v l) :
    Calls Try.prog 76 #[v] w fun e w' => ∃ p c, e = .returned (.slice p (rfArrs l).length c) ∧ ItOk (rfArrs l).length c ∧ ItemsAt (fun b => F b ∨ w.heap.size ≤ b) w' p 0 (rfArrs l) ∧ Ext w w' := by
  obtain ⟨p, c, rfl⟩ := hR.form
  replace hR : FrsR (fun y => F y ∧ y < w.heap.size) w (.slice p l.length c) l := hR.mono fun y hy hlt => ⟨⟨hy, hlt⟩, rfl⟩
  have h16 : ∀ s ∈ l, s.length ≤ 16384 := fun s hs => by
    obtain ⟨i, hi, rfl⟩ := List.getElem_of_mem hs
    obtain ⟨_, _, _, _, _, _, h, _⟩ := hR.row hi
    exact h
  have HLEN := Lib.hid (rfArrs_len l h16)
  have HLT := Lib.hid (fun j => rfArrs_len (l.take j) fun s hs => h16 s (List.mem_of_mem_take hs))
  clear h16
  obtain ⟨n, hn⟩ : ∃ n, l.length = n := ⟨_, rfl⟩
  rw [hn] at hR hl ⊢
  have HN := Lib.hid hn
  have HR := Lib.hid hR
  have HOWN : Hid (OwnR w.heap.size (fun y => (F y ∧ y < w.heap.size) ∨ w.heap.size ≤ y) (fun _ => False) w (.slice none 0 0) (rfArrs (l.take 0)).length (rfArrs (l.take 0))) := Lib.hid (OwnR.nil _ _ _ _)
  clear hn hR
  go_enter Try.func76, Try.ntmps76
  go_wp2_with fail
  go_loopw [3, 4] (fun out i wr => ∃ (ov : Value) (j : Nat), ov = out ∧ j ≤ n ∧ i = .int .i64 j ∧ Ext w wr ∧ Hid (OwnR w.heap.size (fun y => (F y ∧ y < w.heap.size) ∨ w.heap.size ≤ y) (fun _ => False) wr out (rfArrs (l.take j)).length (rfArrs (l.take j)))) (fun _ i _ => n - (intOf i).toNat)
  case atStart => exact ⟨_, 0, rfl, Nat.zero_le _, rfl, Ext.refl _, HOWN⟩
  case round =>
  obtain ⟨out, j, rfl, hj, rfl, hE, HO⟩ := hrel
  obtain ⟨wo, rfl⟩ : ∃ wo : World, wo = wr := ⟨_, rfl⟩
  clear HOWN
  by_cases hlt : j < n
  · have hjl : j < l.length := by rw [HN.out]; exact hlt
    obtain ⟨g, o, p1, c1, rfl, hc, h16, hrow⟩ := HR.out.row hjl
    have hsn := rfArrs_snoc hjl
    have hll := HLT.out j
    generalize l[j] = row at hc h16 hrow hsn
    obtain ⟨n1, hn1⟩ : ∃ n1, row.length = n1 := ⟨_, rfl⟩
    rw [hn1] at hc h16 hrow
    have HN1 := Lib.hid hn1
    have HROW := Lib.hid hrow
    have HSN := Lib.hid hsn
    have HLL := Lib.hid (show (rfArrs (l.take j)).length ≤ 1000 * 16384 from Nat.le_trans hll (by
      have := List.length_take_le j l
      omega))
    have HE := Lib.hid hE
    clear hn1 hrow hsn hjl hll hE
    have HO2 : Hid (OwnR w.heap.size (fun y => (F y ∧ y < w.heap.size) ∨ w.heap.size ≤ y) (fun _ => False) wo out (rfArrs (l.take j) ++ slotArrs (row.take 0)).length (rfArrs (l.take j) ++ slotArrs (row.take 0))) := Lib.hid (by simpa [slotArrs] using HO.out)
    clear HO
    have hc1 := HE.out.cell hc
    go_wp2_with fail
    clear hc1
    go_loopw [3, 5] (fun out k wr => ∃ (ov : Value) (m : Nat), ov = out ∧ m ≤ n1 ∧ k = .int .i64 m ∧ Ext w wr ∧ Hid (OwnR w.heap.size (fun y => (F y ∧ y < w.heap.size) ∨ w.heap.size ≤ y) (fun _ => False) wr out (rfArrs (l.take j) ++ slotArrs (row.take m)).length (rfArrs (l.take j) ++ slotArrs (row.take m)))) (fun _ k _ => n1 - (intOf k).toNat)
    case atStart => exact ⟨_, 0, rfl, Nat.zero_le _, rfl, HE.out, HO2⟩
    case round =>
    obtain ⟨out, m, rfl, hm, rfl, hE2, HO⟩ := hrel
    clear HO2
    have hc2 := hE2.cell hc
    by_cases hlt2 : m < n1
    · have hml : m < row.length := by rw [HN1.out]; exact hlt2
      obtain ⟨g1, o1, rfl, x0, x1, x2, x3, k0, k1, k2, k3, k4, k5, ha⟩ := (HROW.out.ext hE2).slot hml
      have hsn2 := slotArrs_snoc hml
      obtain ⟨z, q1, m1, a1, q2, m2, a2, q3, m3, a3, rfl, rfl, rfl, rfl⟩ := ha.form
      generalize row[m] = x at k0 k1 ha hsn2
      have HSN2 := Lib.hid hsn2
      clear hsn2
      cases x with
      | no =>
        simp only [Slot.used] at k0
        clear k1 k2 k3 k4 k5 ha
        go_wp2_with fail
        go_roundw
        case rel => exact ⟨_, m + 1, rfl, by omega, by go_num, hE2, Lib.hid (by rw [HSN2.out]; simpa using HO.out)⟩
        case measure => simp [intOf]; omega
      | fn =>
        simp only [Slot.used, Slot.isFn] at k0 k1
        clear k2 k3 k4 k5 ha
        go_wp2_with fail
        go_roundw
        case rel => exact ⟨_, m + 1, rfl, by omega, by go_num, hE2, Lib.hid (by rw [HSN2.out]; simpa using HO.out)⟩
        case measure => simp [intOf]; omega
      | arr t =>
        simp only [Slot.used, Slot.isFn] at k0 k1
        have HA := Lib.hid ha
        have hlr : (rfArrs (l.take j) ++ slotArrs (row.take m)).length ≤ 1000 * 16384 + 16384 := by
          rw [List.length_append]
          have h1 := HLL.out
          have h2 := slotArrs_len (row.take m)
          have h3 := List.length_take_le m row
          omega
        have HLR := Lib.hid hlr
        clear ha hlr
        have hown : ∀ y, (F y ∧ y < w.heap.size) → out.ownBlock ≠ some y := fun y hy e => by
          obtain ⟨_, _, cells, h3, _⟩ := HO.out
          have := (h3.lt y e).1
          omega
        have HOW := Lib.hid hown
        have hlw := hE2.lt
        clear hown
        go_wp2_with (at_builtin; refine wpList_append_arrR rfl _ _ rfl w.heap.size (fun y => (F y ∧ y < w.heap.size) ∨ w.heap.size ≤ y) (fun _ => False) out _ _ t _ _ _ _ rfl (HO.out.ext (fun y hy => .inr hy) ((Ext.refl wr).alloc _)) wr.heap.size 1 rfl (box_new wr _ _ _ _) (fun _ h => h.elim) (ArrAt.mono (fun y hy hlt => ⟨⟨.inl hy, fun h => h, HOW.out y hy⟩, ((Ext.refl wr).alloc _).block hlt⟩) _ _ _ _ _ HA.out) (by have := HLR.out; omega) (by simp; omega) ?_; intro g9 cap9 w9 hv9 hg9 hat9 hlt9 hb9)
        go_roundw
        case rel =>
          refine ⟨_, m + 1, rfl, by omega, by go_num, Below.grown (hE2.alloc _) hg9 (by simp; omega) (fun q e => ?_), Lib.hid ?_⟩
          · obtain ⟨_, _, cells, h3, _⟩ := HO.out
            exact (h3.lt q e).1
          · have h9 := hv9
            rw [HSN2.out]
            simp only [← List.append_assoc]
            have e1 : (rfArrs (l.take j) ++ slotArrs (row.take m) ++ [t]).length = (rfArrs (l.take j) ++ slotArrs (row.take m)).length + 1 := by rw [List.length_append (bs := [t])]; rfl
            rw [e1]
            have h9 := hv9
            rw [List.length_append (bs := slotArrs _)] at h9 ⊢
            exact h9
        case measure => simp [intOf]; omega
    obtain rfl : m = n1 := by omega
    have hall : rfArrs (l.take j) ++ slotArrs (row.take m) = rfArrs (l.take (j + 1)) := by
      rw [HSN.out, ← HN1.out, List.take_length]
    rw [hall] at HO
    clear hall
    have hc2 := hE2.cell hc
    go_wp2_with fail
    go_roundw
    case rel => exact ⟨_, j + 1, rfl, by omega, by go_num, hE2, HO⟩
    case measure => simp [intOf]; omega
  obtain rfl : j = n := by omega
  have hall : l.take j = l := by rw [← HN.out, List.take_length]
  rw [hall] at HO
  obtain ⟨p9, c9, rfl, hk9, hi9⟩ := HO.out.items (fun y hy => .inr hy) (by
    have := HLEN.out
    have := HN.out
    omega)
  have HI := Lib.hid hi9
  have HK := Lib.hid hk9
  clear hall hi9 hk9
  go_wp2_with fail
  go_ret
  exact ⟨_, _, rfl, HK.out, ItemsAt.mono (fun y hy _ => ⟨hy.1.imp (fun h => h.1) id, rfl⟩) _ _ _ HI.out, hE⟩
end Go.Proofs.Ytgkemmdghmklfaa

namespace Go.Proofs.Ytgkemmdghmklfaa
set_option linter.unusedSimpArgs false
set_option linter.unusedVariables false
open Go.RowKit

/-- Whether the reference's Set stores, and what. -/
def rsOk (sl : List Slot) (s : Int) (b : Bool) (t : Arr) : Bool := decide (0 ≤ s) && decide (s < sl.length) && (b || decide (rightV t = 0))
def rsX (b : Bool) (t : Arr) : Slot := if b = true then .fn else .arr t
def rsV (sl : List Slot) (s : Int) (b : Bool) (t : Arr) : List Slot := if rsOk sl s b t = true then sl.set s.toNat (rsX b t) else sl
theorem rsOk_arr (sl : List Slot) (s : Int) (t : Arr) : rsOk sl s false t = setOk sl s t := by unfold rsOk setOk; simp
theorem rsOk_fn (sl : List Slot) (s : Int) (t : Arr) : rsOk sl s true t = setOkF sl s := by unfold rsOk setOkF; simp
theorem rsV_arr (sl : List Slot) (s : Int) (t : Arr) : rsV sl s false t = setV sl s t := by unfold rsV setV; rw [rsOk_arr]; rfl
theorem rsV_fn (sl : List Slot) (s : Int) (t : Arr) : rsV sl s true t = setVF sl s := by unfold rsV setVF; rw [rsOk_fn]; rfl

/-- The last step: the frames with a new first one. -/
theorem rset_end {F H : Nat → Prop} {w w3 w4 w5 : World} {q cap k c5 : Nat} {l : List Slot} {x : Slot} {cs cs' : List Value} {v : Value} {r : List (List Slot)}
    (hE3 : Ext w w3) (hq : w.heap.size ≤ q) (hrow : RowC 86 w4 q cs') (hne : ∀ m, m / 6 ≠ k → cs'[m]? = cs[m]?) (hat : RSlotL (fun y => (F y ∨ H y ∨ w.heap.size ≤ y) ∧ y ≠ c5) w4 x cs' k)
    (hold : ∀ i (h : i < l.length), RSlotL (fun y => F y ∧ y < w.heap.size) w3 l[i] cs i) (h4 : ∀ y, y ≠ q → w4.heap[y]? = w3.heap[y]?) (hl : l.length ≤ 16384) (hc5 : w3.heap.size ≤ c5) (hqc : q ≠ c5) :
    RowR (fun y => (F y ∨ H y ∨ w.heap.size ≤ y) ∧ y ≠ c5) w4 (.slice (some ⟨q, 0, none⟩) l.length cap) (l.set k x) := by
  have hlt := hE3.lt
  have := RowR.of_row (F := fun y => (F y ∨ H y ∨ w.heap.size ≤ y) ∧ y ≠ c5) (c := cap) hrow (rslots_set hne hat hold fun y hy hlt' => ⟨⟨.inl hy.1, by omega⟩, h4 y (by omega)⟩) ⟨.inr (.inr hq), hqc⟩ (by rw [List.length_set]; exact hl)
  rwa [List.length_set] at this

set_option maxRecDepth 100000 in
set_option maxHeartbeats 4000000 in
theorem rset_any (F H : Nat → Prop) (w : World) (v : Value) (sl : List Slot) (r : List (List Slot)) (s : Int) (b : Bool) (t : Arr) (c0 c1 c2 c3 : Value) (hR : FrsR F w v (sl :: r)) (hr : r.length ≤ 90) (ha : ArrAt H w t c0 c1 c2 c3) (hs : -9223372036854775808 ≤ s ∧ s ≤ 9223372036854775807) :
    Calls Try.prog 31 #[v, .int .i64 s, .bool b, .agg #[c0, c1, c2, c3]] w fun e w' => ∃ v', e = .returned (.tuple #[v', .bool (rsOk sl s b t)]) ∧ FrsR (fun y => F y ∨ H y ∨ w.heap.size ≤ y) w' v' (rsV sl s b t :: r) ∧ Ext w w' := by
  obtain ⟨p, c, rfl⟩ := hR.form
  replace hR : FrsR (fun y => F y ∧ y < w.heap.size) w (.slice p (sl :: r).length c) (sl :: r) := hR.mono fun y hy hlt => ⟨⟨hy, hlt⟩, rfl⟩
  replace ha : ArrAt (fun y => H y ∧ y < w.heap.size) w t c0 c1 c2 c3 := ArrAt.mono (fun y hy hlt => ⟨⟨hy, hlt⟩, rfl⟩) _ _ _ _ _ ha
  obtain ⟨kk, p1, l1, n1', p2, l2, n2', p3, l3, n3', rfl, rfl, rfl, rfl⟩ := ha.form
  obtain ⟨pf, cf, hpf, ⟨_, hcf⟩, hrows⟩ := id hR
  simp only [Value.slice.injEq] at hpf
  obtain ⟨rfl, _, rfl⟩ := hpf
  obtain ⟨g, o, rv, rfl, hg, hc, pr, cr, rfl, h16, hrow⟩ := hrows 0 (by simp)
  simp only [List.getElem_cons_zero, Nat.add_zero] at hc h16 hrow
  have hRW : RowR (fun y => F y ∧ y < w.heap.size) w (.slice pr sl.length cr) sl := ⟨_, _, rfl, h16, hrow⟩
  obtain ⟨m, hm⟩ : ∃ m, (sl :: r).length = m := ⟨_, rfl⟩
  have hm1 : m = r.length + 1 := by rw [← hm]; simp
  rw [hm] at hR
  have HM := Lib.hid hm
  have HM1 := Lib.hid hm1
  have hm0 : ((m : Int) == 0) = false := by simp; omega
  have hm9 : m ≤ 91 := by omega
  have hmp : 0 < m := by omega
  clear hrow hrows hcf
  have HR := Lib.hid hR
  have HRW := Lib.hid hRW
  have HA := Lib.hid ha
  rw [hm]
  clear hR hRW ha hm hm1
  obtain ⟨n, hn⟩ : ∃ n, sl.length = n := ⟨_, rfl⟩
  rw [hn] at hc h16
  have HN := Lib.hid hn
  obtain ⟨ok, hok⟩ : ∃ ok, rsOk sl s b t = ok := ⟨_, rfl⟩
  have hok2 : ok = (decide (0 ≤ s) && decide (s < (n : Int)) && (b || decide (rightV t = 0))) := by rw [← hok, ← hn]; rfl
  have HOK := Lib.hid hok
  rw [hok]
  obtain ⟨sv, hsv⟩ : ∃ sv, rsV sl s b t = sv := ⟨_, rfl⟩
  rw [hsv]
  have HSV := Lib.hid hsv
  clear hok hn hsv
  have hnm : n ≤ 16384 := h16
  go_enter Try.func31, Try.ntmps31
  go_upto_region 1 with (fail)
  have hE0 : Ext w (w.alloc (.cells #[.int .i64 kk, .slice p1 l1 n1', .slice p2 l2 n2', .slice p3 l3 n3'] 26)) := (Ext.refl _).alloc _
  have hB := box_new w (.int .i64 kk) (.slice p1 l1 n1') (.slice p2 l2 n2') (.slice p3 l3 n3')
  generalize w.alloc (.cells #[.int .i64 kk, .slice p1 l1 n1', .slice p2 l2 n2', .slice p3 l3 n3'] 26) = w1 at hE0 hB ⊢
  generalize hbx : w.heap.size = bx at hB ⊢
  have HBX := Lib.hid hbx
  clear hbx
  have HB := Lib.hid hB
  have HE := Lib.hid hE0
  have hc1 := hE0.cell hc
  clear hB hE0 hc
  go_cut [34] (fun v wx => v = .bool (!ok) ∧ Ext w1 wx)
  case first =>
    obtain ⟨s0, s1, s2, s3⟩ := HB.out.cell
    by_cases h1 : s < 0
    · have hokf : ok = false := by rw [hok2]; simp; omega
      have HK := Lib.hid hokf
      clear hok2 hokf
      go_wp2_with fail
      go_meet
      case rel => exact ⟨by rw [HK.out]; rfl, Ext.refl _⟩
    · obtain ⟨j, rfl⟩ : ∃ j : Nat, s = (j : Int) := ⟨s.toNat, by omega⟩
      by_cases h2 : n ≤ j
      · have hokf : ok = false := by rw [hok2]; simp; omega
        have HK := Lib.hid hokf
        clear hok2 hokf
        go_wp2_with fail
        go_meet
        case rel => exact ⟨by rw [HK.out]; rfl, Ext.refl _⟩
      · cases b
        · have hokf : ok = decide (rightV t = 0) := by rw [hok2]; simp; omega
          have HK := Lib.hid hokf
          clear hok2 hokf
          go_wp2_with fail
          refine (rright6_any _ t _ _ _ _ w1 (HA.out.ext HE.out)).mono ?_
          rintro e w5 ⟨rfl, hE5⟩
          go_wp2_with fail
          go_meet
          case rel => exact ⟨by first | (rw [HK.out]; done) | (rw [HK.out]; congr 1; done) | (rw [HK.out]; congr 1; by_cases h0 : rightV t = 0 <;> simp [h0]; done), hE5⟩
        · have hokf : ok = true := by rw [hok2]; simp; omega
          have HK := Lib.hid hokf
          clear hok2 hokf
          go_wp2_with fail
          go_meet
          case rel => exact ⟨by rw [HK.out]; rfl, Ext.refl _⟩
  case rest =>
  obtain ⟨rfl, hE2⟩ := hcut
  obtain ⟨w2, rfl⟩ : ∃ wx : World, wx = wc := ⟨_, rfl⟩
  replace HB := Lib.hid (HB.out.ext hE2)
  replace HE := Lib.hid (HE.out.trans hE2)
  have hc2 := hE2.cell hc1
  clear hc1 hE2
  cases ok
  · have hv : sv = sl := by rw [← HSV.out]; unfold rsV; rw [HOK.out]; rfl
    clear hok2
    go_wp2_with fail
    go_ret2
    subst hv
    exact ⟨_, rfl, (HR.out.ext HE.out).mono fun y hy _ => ⟨.inl hy.1, rfl⟩, HE.out⟩
  · obtain ⟨j, rfl⟩ : ∃ j : Nat, s = (j : Int) := ⟨s.toNat, by simp at hok2; omega⟩
    have hjn : j < n := by simp at hok2; omega
    have hbt : b = true ∨ rightV t = 0 := by simp at hok2; exact hok2.2
    have HV := Lib.hid (show sv = sl.set j (rsX b t) by rw [← HSV.out]; unfold rsV; rw [HOK.out]; rfl)
    clear hok2
    have hne : sl ≠ [] := by
      intro e
      have := HN.out
      rw [e] at this
      simp at this
      omega
    obtain ⟨i0, hi, hz0, hz1, hz2⟩ := info_parts infoRS
    obtain ⟨_, gr, og, news, rfl, hnl, hnews, hone, hnrows⟩ := (HRW.out.mono (w' := w2) fun y hy hlt => ⟨hy, HE.out.block hlt⟩).news hne
    rw [HN.out] at hnl
    have hn0 : 0 < n := by omega
    have hpos9 : (0 : Int) ≤ (j : Int) := by omega
    have HNEWS := Lib.hid hnrows
    clear hnrows
    have HI := Lib.hid hi
    have HZ := Lib.hid (And.intro hz0 (And.intro hz1 hz2))
    clear hi hz0 hz1 hz2
    have hown0 : w2.ownsRow w2.heap.size 86 6 (.slice none 0 0) 0 [] := World.ownsRow_nil _ _ _ _
    have HNW := Lib.hid (And.intro hnl (And.intro hnews hone))
    have HOW := Lib.hid hown0
    clear hnl hnews hone hown0
    go_upto_region 4 with (at_builtin; refine wpList_append_lies w2 rfl _ _ 84 rfl w2.heap.size 86 i0 _ 6 88 Try.underlying84 HI.out HZ.out.1 HZ.out.2.1 HZ.out.2.2 rfl (by decide) (.slice none 0 0) 0 [] rfl HOW.out ⟨gr, og, none⟩ n cr news rfl HNW.out.1 (fun j u hj => by rw [Addr.add_lit]; exact HNW.out.2.1 j u hj) HNW.out.2.2 hn0 (by unfold maxLen; omega) (by omega) (Nat.le_refl _) w2.heap.size rfl ?_; intro q cap w3 h1 hgrow hat hlt3; simp only [Nat.zero_add, List.nil_append] at h1 ⊢)
    have hE3 : Ext w2 w3 := Below.grown (Below.refl _ _) hgrow (Nat.le_refl _) (fun k e => by simp [Value.ownBlock] at e)
    have hqb := (h1.lt q rfl).1
    obtain ⟨cs, hq3, htake⟩ : ∃ cs : List Value, RowC 86 w3 q cs ∧ cs.take (n * 6) = news := by
      rcases h1.2 with ⟨e, _⟩ | ⟨g', cap', cur, e, _, hg', _, _, _, ht⟩
      · simp at e
      · cases e
        exact ⟨cur.toList, by unfold RowC; rw [Array.toArray_toList]; exact hg', ht⟩
    have hold : ∀ i (hi : i < sl.length), RSlotL (fun y => F y ∧ y < w.heap.size) w3 sl[i] cs i := fun i hi => (HNEWS.out i hi).mono (fun m hm => by
      have := HN.out
      rw [← htake, List.getElem?_take, if_pos (by omega)]) (fun y hy hlt => ⟨hy, hE3.block hlt⟩)
    have hjl : j < sl.length := by rw [HN.out]; exact hjn
    obtain ⟨d0, d1, d2, d3, m0, m1, m2, m3, m4, m5, m6⟩ := hold j hjl
    obtain ⟨xj, hxj⟩ : ∃ xj, sl[j] = xj := ⟨_, rfl⟩
    rw [hxj] at m0 m1
    have hlen6 : j * 6 + 5 < cs.length := (List.getElem?_eq_some_iff.1 m5).1
    have n0 := hq3.cellQ m0
    have n1 := hq3.cellQ m1
    have n2 := hq3.cellQ m2
    have n3 := hq3.cellQ m3
    have n4 := hq3.cellQ m4
    have n5 := hq3.cellQ m5
    have y0 := hq3.free (j * 6)
    have y1 := hq3.free (j * 6 + 1)
    have y2 := hq3.free (j * 6 + 2)
    have y3 := hq3.free (j * 6 + 3)
    have y4 := hq3.free (j * 6 + 4)
    have y5 := hq3.free (j * 6 + 5)
    have hqw : w.heap.size ≤ q := Nat.le_trans HE.out.lt hqb
    have hqbx : bx < q := by have := HB.out.lt; omega
    have HQ := Lib.hid (And.intro hqw hqbx)
    have HB3 := Lib.hid (HB.out.ext hE3)
    have HE3 := Lib.hid (HE.out.trans hE3)
    have HQ3 := Lib.hid hq3
    have HOLD := Lib.hid hold
    have HL6 := Lib.hid hlen6
    clear m6 hxj h1 hgrow hat hlt3 hqb hE3 hq3 htake hold hlen6 m0 m1 m2 m3 m4 m5 hqw hqbx HNEWS HI HZ HOW HNW hc2 HB HE hne hjl
    go_cut [10] (fun v wx => v = .slice (some ⟨q, 0, none⟩) n cap ∧ RowC 86 wx q (setS6 cs j (.bool true) (.bool b) (.int .i64 0) (.slice none 0 0) (.slice none 0 0) (.slice none 0 0)) ∧ Ext w wx ∧ ∀ y, y ≠ q → wx.heap[y]? = w3.heap[y]?)
    case first =>
      go_wp2_with fail
      go_meet
      case rel => exact ⟨rfl, ((((((HQ3.out.set (j * 6) _).set (j * 6 + 1) _).set (j * 6 + 2) _).set (j * 6 + 3) _).set (j * 6 + 4) _).set (j * 6 + 5) _),
        ((((((HE3.out).setCell (p := ⟨q, j * 6, none⟩) HQ.out.1 _).setCell (p := ⟨q, j * 6 + 1, none⟩) HQ.out.1 _).setCell (p := ⟨q, j * 6 + 2, none⟩) HQ.out.1 _).setCell (p := ⟨q, j * 6 + 3, none⟩) HQ.out.1 _).setCell (p := ⟨q, j * 6 + 4, none⟩) HQ.out.1 _).setCell (p := ⟨q, j * 6 + 5, none⟩) HQ.out.1 _,
        fun y hy => (Below.heap_setCell _ _ _ _ hy).trans ((Below.heap_setCell _ _ _ _ hy).trans ((Below.heap_setCell _ _ _ _ hy).trans ((Below.heap_setCell _ _ _ _ hy).trans ((Below.heap_setCell _ _ _ _ hy).trans (Below.heap_setCell _ _ _ _ hy)))))⟩
    case rest =>
    obtain ⟨rfl, hrow4, hE4, h4⟩ := hcut
    obtain ⟨w4, rfl⟩ : ∃ wx : World, wx = wc := ⟨_, rfl⟩
    clear n0 n1 n2 n3 n4 n5 y0 y1 y2 y3 y4 y5
    have HB4 : Hid (Box4 w4 bx (.int .i64 kk) (.slice p1 l1 n1') (.slice p2 l2 n2') (.slice p3 l3 n3')) := Lib.hid (HB3.out.kept (h4 bx (by have := HQ.out; omega)))
    have HROW4 := Lib.hid hrow4
    have HE4 := Lib.hid hE4
    have HH4 := Lib.hid h4
    have hz := setS6_at (cs := cs) (j := j) (.bool true) (.bool b) (.int .i64 0) (.slice none 0 0) (.slice none 0 0) (.slice none 0 0) HL6.out
    have HZ := Lib.hid hz
    clear hrow4 hE4 h4 hz
    go_upto_if 46 with (fail)
    go_cut [10] (fun v wx => v = .slice (some ⟨q, 0, none⟩) n cap ∧ Ext w wx ∧ (∀ y, y ≠ q → wx.heap[y]? = w3.heap[y]?) ∧ ∃ cs', RowC 86 wx q cs' ∧ (∀ m, m / 6 ≠ j → cs'[m]? = cs[m]?) ∧ RSlotL (fun y => H y ∧ y < w.heap.size) wx (rsX b t) cs' j)
    case first =>
      cases b
      · have n2 := HROW4.out.cellQ HZ.out.2.2.1
        have n3 := HROW4.out.cellQ HZ.out.2.2.2.1
        have n4 := HROW4.out.cellQ HZ.out.2.2.2.2.1
        have n5 := HROW4.out.cellQ HZ.out.2.2.2.2.2
        have y2 := HROW4.out.free (j * 6 + 2)
        have y3 := HROW4.out.free (j * 6 + 3)
        have y4 := HROW4.out.free (j * 6 + 4)
        have y5 := HROW4.out.free (j * 6 + 5)
        obtain ⟨s0, s1, s2, s3⟩ := HB4.out.cell
        go_wp2_with fail
        go_meet
        case rel =>
          have hrow := (((HROW4.out.set (j * 6 + 2) (.int .i64 kk)).set (j * 6 + 3) (.slice p1 l1 n1')).set (j * 6 + 4) (.slice p2 l2 n2')).set (j * 6 + 5) (.slice p3 l3 n3')
          have hfar : ∀ y, y ≠ q → ((((w4.setCell ⟨q, j * 6 + 2, none⟩ (.int .i64 kk)).setCell ⟨q, j * 6 + 3, none⟩ (.slice p1 l1 n1')).setCell ⟨q, j * 6 + 4, none⟩ (.slice p2 l2 n2')).setCell ⟨q, j * 6 + 5, none⟩ (.slice p3 l3 n3')).heap[y]? = w4.heap[y]? := fun y hy => (Below.heap_setCell _ _ _ _ hy).trans ((Below.heap_setCell _ _ _ _ hy).trans ((Below.heap_setCell _ _ _ _ hy).trans (Below.heap_setCell _ _ _ _ hy)))
          refine ⟨rfl, ((((HE4.out).setCell (p := ⟨q, j * 6 + 2, none⟩) HQ.out.1 _).setCell (p := ⟨q, j * 6 + 3, none⟩) HQ.out.1 _).setCell (p := ⟨q, j * 6 + 4, none⟩) HQ.out.1 _).setCell (p := ⟨q, j * 6 + 5, none⟩) HQ.out.1 _, fun y hy => (hfar y hy).trans (HH4.out y hy), _, hrow, fun m hm => ?_, ?_⟩
          · rw [List.getElem?_set_ne (by omega), List.getElem?_set_ne (by omega), List.getElem?_set_ne (by omega), List.getElem?_set_ne (by omega)]
            exact setS6_ne _ _ _ _ _ _ hm
          · have hl6 := HL6.out
            have hlz := setS6_len cs j (.bool true) (.bool false) (.int .i64 0) (.slice none 0 0) (.slice none 0 0) (.slice none 0 0)
            refine ⟨_, _, _, _, ?_, ?_, ?_, ?_, ?_, ?_, ArrAt.mono (fun y hy hlt => ⟨hy, ?_⟩) _ _ _ _ _ (HA.out.ext HE4.out)⟩
            · rw [List.getElem?_set_ne (by omega), List.getElem?_set_ne (by omega), List.getElem?_set_ne (by omega), List.getElem?_set_ne (by omega)]
              exact HZ.out.1
            · rw [List.getElem?_set_ne (by omega), List.getElem?_set_ne (by omega), List.getElem?_set_ne (by omega), List.getElem?_set_ne (by omega)]
              exact HZ.out.2.1
            · rw [List.getElem?_set_ne (by omega), List.getElem?_set_ne (by omega), List.getElem?_set_ne (by omega), List.getElem?_set_self (by omega)]
            · rw [List.getElem?_set_ne (by omega), List.getElem?_set_ne (by omega), List.getElem?_set_self (by simp only [List.length_set]; omega)]
            · rw [List.getElem?_set_ne (by omega), List.getElem?_set_self (by simp only [List.length_set]; omega)]
            · rw [List.getElem?_set_self (by simp only [List.length_set]; omega)]
            · have := HQ.out
              exact hfar y (by omega)
      · go_wp2_with fail
        go_meet
        case rel => exact ⟨rfl, HE4.out, HH4.out, _, HROW4.out, fun m hm => setS6_ne _ _ _ _ _ _ hm, _, _, _, _, HZ.out.1, HZ.out.2.1, HZ.out.2.2.1, HZ.out.2.2.2.1, HZ.out.2.2.2.2.1, HZ.out.2.2.2.2.2, Arr.zero_at _ _⟩
    case rest =>
    obtain ⟨rfl, hE5, h5, cs', hrow5, hne5, hat5⟩ := hcut
    obtain ⟨w5, rfl⟩ : ∃ wx : World, wx = wc := ⟨_, rfl⟩
    have hq5 := hrow5.lt
    have hle35 : w3.heap.size ≤ w5.heap.size := by
      rcases Nat.lt_or_ge w5.heap.size w3.heap.size with hlt | hge
      · exfalso
        have hb := h5 w5.heap.size (by omega)
        rw [Array.getElem?_eq_none (Nat.le_refl _), Array.getElem?_eq_getElem hlt] at hb
        cases hb
      · exact hge
    have hrow : RowR (fun y => (F y ∨ H y ∨ w.heap.size ≤ y) ∧ y ≠ w5.heap.size) w5 (.slice (some ⟨q, 0, none⟩) n cap) (sl.set j (rsX b t)) := by
      have hlw := hE5.lt
      have := rset_end (F := F) (H := H) (cap := cap) (v := .nilIface) (r := r) (w5 := w5) HE3.out HQ.out.1 hrow5 hne5 (hat5.mono (w' := w5) (fun _ _ => rfl) fun y hy _ => ⟨⟨.inr (.inl hy.1), by omega⟩, rfl⟩) HOLD.out h5 (by rw [HN.out]; omega) hle35 (by omega)
      rwa [HN.out] at this
    have htl := ((HR.out.ext hE5)).tail
    have hrd := fun w => slice_lF (some ⟨g, o, none⟩) m c w (by omega)
    generalize cutAt (some ⟨g, o, none⟩) 1 c 1 = pd at *
    have hm1 : m - 1 = r.length := by rw [HM1.out]; omega
    rw [hm1] at hrd
    have HROW := Lib.hid hrow
    have HTL := Lib.hid htl
    have HE5 := Lib.hid hE5
    have HW5 := Lib.hid hE5.lt
    clear hrow htl hE5 h5 hrow5 hne5 hat5 hq5 hle35 hm1
    go_wp2_with (at_builtin; refine wpList_append_frs rfl _ _ rfl w (fun y => (F y ∨ H y ∨ w.heap.size ≤ y) ∧ y ≠ w5.heap.size) w5.heap.size (.slice (some ⟨q, 0, none⟩) n cap) (sl.set j (rsX b t)) pd (c - 1) r rfl (RowC.new _ _ [_]) rfl (HROW.out.mono fun y hy hlt => ⟨hy, ((Ext.refl w5).alloc _).block hlt⟩) ((HTL.out.ext ((Ext.refl w5).alloc _)).mono fun y hy _ => ⟨⟨.inl hy.1, by have := HW5.out; omega⟩, rfl⟩) (HE5.out.alloc _) HW5.out (fun y hy => hy.2) (by omega) ?_; intro v9 w9 hv9 hE9)
    go_ret2
    refine ⟨_, rfl, ?_, hE9⟩
    rw [HV.out]
    exact hv9.mono fun y hy _ => ⟨by rcases hy with hy | hy <;> first | exact hy.1 | exact .inr (.inr hy), rfl⟩
end Go.Proofs.Ytgkemmdghmklfaa

namespace Go.Proofs.Ytgkemmdghmklfaa
set_option linter.unusedSimpArgs false
set_option linter.unusedVariables false
open Go.RowKit

theorem primfun_any (a b : Int) (w : World) : Calls Try.prog 32 #[.int .i64 a, .int .i64 b] w fun e w' => e = .returned (.iface 88 (.agg #[.int .i64 a, .int .i64 b])) ∧ w = w' := by
  go_enter Try.func32, Try.ntmps32
  go_wp2_with fail
  go_ret
  exact ⟨rfl, rfl⟩

set_option maxRecDepth 100000 in
set_option maxHeartbeats 4000000 in
theorem heavy_any (F : Nat → Prop) (p : Option Addr) (c : Nat) (l : List ActD) (w : World) (hl : l.length ≤ 9223372036854775807) (hA : ActsAt F w p l) :
    Calls Try.prog 29 #[.slice p l.length c] w fun e w' => (∃ b : Bool, e = .returned (.bool b) ∧ (b = false → l.length ≤ 30)) ∧ Ext w w' := by
  obtain ⟨n, hn⟩ : ∃ n, l.length = n := ⟨_, rfl⟩
  rw [hn] at hl ⊢
  have HN := Lib.hid hn
  have HA := Lib.hid hA
  clear hn hA
  go_enter Try.func29, Try.ntmps29
  go_wp2_with fail
  go_loopw [3, 4] (fun most i wr => ∃ (z : Int) (j : Nat), most = .int .i64 z ∧ (-9223372036854775808 ≤ z ∧ z ≤ 9223372036854775807) ∧ j ≤ n ∧ i = .int .i64 j ∧ Ext w wr) (fun _ i _ => n - (intOf i).toNat)
  case atStart => exact ⟨3000, 0, rfl, by decide, Nat.zero_le _, rfl, Ext.refl _⟩
  case round =>
  obtain ⟨z, j, rfl, hz, hj, rfl, hE⟩ := hrel
  by_cases hlt : j < n
  · by_cases h31 : j < 31
    · have hjl : j < l.length := by rw [HN.out]; exact hlt
      obtain ⟨g, o, x0, x1, x2, x3, rfl, _, k0, k1, k2, k3, k4, k5, r0, r1, ha⟩ := HA.out j hjl
      obtain ⟨kk, q1, m1, a1, q2, m2, a2, q3, m3, a3, rfl, rfl, rfl, rfl⟩ := ha.form
      generalize l[j] = x at k0 k1 r0 r1 ha
      obtain ⟨kd, nn, t⟩ := x
      simp only at k0 k1 r0 r1 ha
      unfold IntR at r0 r1
      have HT := Lib.hid (ha.ext hE)
      replace k0 := hE.cell k0
      replace k1 := hE.cell k1
      replace k2 := hE.cell k2
      replace k3 := hE.cell k3
      replace k4 := hE.cell k4
      replace k5 := hE.cell k5
      clear ha
      go_wp2_with fail
      refine (few3_any F _ t _ _ _ _ wr z (Nat.lt_succ_self _) hz HT.out).mono ?_
      rintro e w5 ⟨z5, rfl, hz5, hE5⟩
      replace k0 := hE5.cell k0
      replace k1 := hE5.cell k1
      have HE5 := Lib.hid (hE.trans hE5)
      clear HT k2 k3 k4 k5 hE hE5 hz
      by_cases hz0 : z5 < 0
      · go_wp2_with fail
        go_ret
        exact ⟨⟨true, rfl, fun h => by cases h⟩, HE5.out⟩
      · by_cases hk0 : kd = 0
        · subst hk0
          by_cases hn20 : 20 < nn
          · go_wp2_with fail
            go_ret
            exact ⟨⟨true, rfl, fun h => by cases h⟩, HE5.out⟩
          · go_wp2_with fail
            go_roundw
            case rel => exact ⟨z5, j + 1, rfl, hz5, by omega, by go_num, HE5.out⟩
            case measure => simp [intOf]; omega
        · go_wp2_with fail
          go_roundw
          case rel => exact ⟨z5, j + 1, rfl, hz5, by omega, by go_num, HE5.out⟩
          case measure => simp [intOf]; omega
    · go_wp2_with fail
      go_ret
      exact ⟨⟨_, rfl, fun h => by simp at h; omega⟩, hE⟩
  · go_wp2_with fail
    go_ret
    exact ⟨⟨_, rfl, fun h => by simp at h; omega⟩, hE⟩
end Go.Proofs.Ytgkemmdghmklfaa
