/-
  THE WALK of the function inside array.Right, which calls itself, and of array.Right.
-/
import Derived.Test.YtgkemmdghmklfaaForm
import Derived.Laws.EntriesVeiled
namespace Go.Proofs.Ytgkemmdghmklfaa
set_option linter.unusedSimpArgs false
set_option linter.unusedVariables false
open Go.RowKit

def badNum (k d : Int) : Bool := (k == 1 && !isNum d) || (k == 2 && !isChr d)

mutual
/-- The closure of array.Right: the error, the depth, the weight. -/
def visitV : Arr → Int × Int × Int
  | .mk k s n it => if formV (.mk k s n it) ≠ 0 then (formV (.mk k s n it), 0, 0) else if n.any (badNum k) = true then (17, 0, 0) else
      match itemsV it 0 ((n.length : Int) + it.length) with
      | none => (17, 0, 0)
      | some (d, wt) => if 16 < d ∨ 262144 < wt then (21, 0, 0) else (0, d, wt)
def itemsV : List Arr → Int → Int → Option (Int × Int)
  | [], d, wt => some (d, wt)
  | x :: r, d, wt => if (visitV x).1 ≠ 0 then none else itemsV r (max d ((visitV x).2.1 + 1)) (min (wt + (visitV x).2.2) 262145)
end
def rightV (t : Arr) : Int := (visitV t).1

theorem itemsV_nn : ∀ (l : List Arr) (d wt d' wt' : Int), 0 ≤ d → 0 ≤ wt → (∀ x ∈ l, 0 ≤ (visitV x).2.1 ∧ 0 ≤ (visitV x).2.2) → itemsV l d wt = some (d', wt') → 0 ≤ d' ∧ 0 ≤ wt'
  | [], d, wt, d', wt', h1, h2, _, h => by
    rw [itemsV] at h
    cases h
    exact ⟨h1, h2⟩
  | x :: r, d, wt, d', wt', h1, h2, hx, h => by
    rw [itemsV] at h
    split at h
    · cases h
    · have := hx x (by simp)
      exact itemsV_nn r _ _ _ _ (by omega) (by omega) (fun y hy => hx y (by simp [hy])) h

theorem visitV_bd : ∀ (m : Nat) (t : Arr), SizeOf.sizeOf t < m → 0 ≤ (visitV t).2.1 ∧ (visitV t).2.1 ≤ 16 ∧ 0 ≤ (visitV t).2.2 ∧ (visitV t).2.2 ≤ 262144
  | 0, _, h => by omega
  | m + 1, .mk k s n it, h => by
    rw [visitV]
    split
    · simp
    · split
      · simp
      · split
        · simp
        · rename_i d wt he
          have hn := itemsV_nn it 0 _ d wt (by omega) (by omega) (fun x hx => by
            have := List.sizeOf_lt_of_mem hx
            have := visitV_bd m x (by simp at h; omega)
            omega) he
          split
          · simp
          · simp; omega

theorem visitV_0 {t : Arr} (h : (visitV t).1 ≠ 0) : (visitV t).2.1 = 0 ∧ (visitV t).2.2 = 0 := by
  obtain ⟨k, s, n, it⟩ := t
  rw [visitV] at h ⊢
  split at h
  · rename_i h1; rw [if_pos h1]; exact ⟨rfl, rfl⟩
  · rename_i h1
    rw [if_neg h1]
    split at h
    · rename_i h2; rw [if_pos h2]; exact ⟨rfl, rfl⟩
    · rename_i h2
      rw [if_neg h2]
      split at h
      · exact ⟨rfl, rfl⟩
      · rename_i d wt he
        split at h
        · rename_i h3; simp only [if_pos h3]; exact ⟨trivial, trivial⟩
        · exact absurd rfl h

theorem drop_getA {l : List Arr} {k : Nat} (h : k < l.length) : l.drop k = l[k] :: l.drop (k + 1) := List.drop_eq_getElem_cons h

set_option maxHeartbeats 2000000 in
theorem visit_any (F : Nat → Prop) (bv : Nat) : ∀ (m : Nat) (t : Arr) (c0 c1 c2 c3 : Value) (w : World), SizeOf.sizeOf t < m → ArrAt F w t c0 c1 c2 c3 →
    w.cell? ⟨bv, 0, none⟩ = some (.func (.func 124) #[] #[.pointer (some ⟨bv, 0, none⟩)]) →
    Calls Try.prog 124 #[.agg #[c0, c1, c2, c3], .pointer (some ⟨bv, 0, none⟩)] w fun e w' =>
      e = .returned (.tuple #[.int .i64 (visitV t).1, .int .i64 (visitV t).2.1, .int .i64 (visitV t).2.2]) ∧ Ext w w' := by
  intro m
  induction m with
  | zero => intro t c0 c1 c2 c3 w hm; omega
  | succ m ih =>
    intro t c0 c1 c2 c3 w hm h hv
    obtain ⟨k, s, n, it⟩ := t
    have hform := form_any F (.mk k s n it) c0 c1 c2 c3
    have h' := h
    unfold ArrAt at h
    obtain ⟨rfl, hk, ⟨p1, k1, rfl, ⟨o1, o1', o1''⟩, i1⟩, ⟨p2, k2, rfl, ⟨o2, o2', o2''⟩, i2⟩, ⟨p3, k3, rfl, ⟨o3, o3', o3''⟩, i3⟩⟩ := h
    have IH := Lib.hid ih
    have HFO := Lib.hid hform
    have HV := Lib.hid hv
    clear ih hform hv
    generalize hans : visitV (.mk k s n it) = ans
    rw [visitV] at hans
    by_cases hf : formV (.mk k s n it) ≠ 0
    · rw [if_pos hf] at hans
      obtain ⟨fv, hfv⟩ : ∃ fv, formV (.mk k s n it) = fv := ⟨_, rfl⟩
      rw [hfv] at hans hf
      have HFV := Lib.hid hfv
      have h0 : (fv != 0) = true := by simpa using hf
      subst hans
      clear hfv hf
      go_enter Try.func124, Try.ntmps124
      go_wp2_with fail
      refine (HFO.out _ ?_).mono ?_
      · exact h'.ext ((Ext.refl _).alloc _)
      rintro e w1 ⟨rfl, hE⟩
      rw [HFV.out]
      go_wp2_with fail
      go_ret3
      exact ⟨rfl, Ext.trans ((Ext.refl _).alloc _) hE⟩
    · rw [if_neg hf] at hans
      have HFV : Hid (formV (.mk k s n it) = 0) := by
        show _ = _
        omega
      clear hf
      go_enter Try.func124, Try.ntmps124
      go_wp2_with fail
      refine (HFO.out _ ?_).mono ?_
      · exact h'.ext ((Ext.refl _).alloc _)
      rintro e w1 ⟨rfl, hE⟩
      rw [HFV.out]
      have hEw : Ext w w1 := Ext.trans ((Ext.refl _).alloc _) hE
      have hb0 : w1.cell? ⟨w.heap.size, 0, none⟩ = some (.int .i64 k) := hE.cell (by simp)
      have hb2 : w1.cell? ⟨w.heap.size, 2, none⟩ = some (.slice p2 n.length k2) := hE.cell (by simp)
      have hb3 : w1.cell? ⟨w.heap.size, 3, none⟩ = some (.slice p3 it.length k3) := hE.cell (by simp)
      have I2 := i2.ext hEw
      have I3 := i3.ext hEw
      have HV := Lib.hid (hEw.cell HV.out)
      clear i1 i2 i3 h' HFO HFV
      have hnl : n.length ≤ 17592186044416 := by omega
      have hil : it.length ≤ 17592186044416 := by omega
      generalize hbad : n.any (badNum k) = bad
      have HB := Lib.hid hbad
      have HA : Hid (if bad = true then ans = (17, 0, 0) else (match itemsV it 0 ((n.length : Int) + it.length) with
          | none => (17, 0, 0)
          | some (d, wt) => if 16 < d ∨ 262144 < wt then (21, 0, 0) else (0, d, wt)) = ans) := by
        show if bad = true then _ else _
        rw [hbad] at hans
        split at hans <;> rename_i hb
        · rw [if_pos hb]; exact hans.symm
        · rw [if_neg hb]; exact hans
      clear hans hbad
      go_wp2_with fail
      go_loop [24] (fun i => ∃ (j : Nat), j ≤ n.length ∧ i = .int .i64 j ∧ Hid ((n.drop j).any (badNum k) = bad)) (fun i => n.length - (intOf i).toNat)
      case atStart => exact ⟨0, Nat.zero_le _, rfl, HB.out⟩
      case round =>
        obtain ⟨j, hj, rfl, HR⟩ := hrel
        clear HB
        by_cases hlt : j < n.length
        · obtain ⟨b, off, rfl, hc, _, _⟩ := I2.get hlt
          have HD := hid_intro (drop_getD hlt)
          clear I2 I3
          generalize n.getD j 0 = d at *
          have HR2 : Hid ((badNum k d || (n.drop (j + 1)).any (badNum k)) = bad) := by
            have := HR.out
            rw [HD.out, List.any_cons] at this
            exact this
          clear HR HD
          rcases (show k = 1 ∨ k = 2 ∨ (k ≠ 1 ∧ k ≠ 2) from by omega) with rfl | rfl | ⟨k1', k2'⟩
          · cases hi : isNum d with
            | true =>
              have HI := Lib.hid hi
              have HF : Hid ((n.drop (j + 1)).any (badNum 1) = bad) := by
                have := HR2.out
                simp only [badNum, hi] at this
                show _ = bad
                simpa using this
              clear HR2 hi
              go_wp2_with (go_at_call 126; refine (number_any _ _).mono ?_; rintro e w' ⟨rfl, rfl⟩; rw [HI.out])
              go_round
              case rel => exact ⟨j + 1, by omega, by go_num, HF⟩
              case measure => simp [intOf]; omega
            | false =>
              have HI := Lib.hid hi
              have HF : Hid (ans = (17, 0, 0)) := by
                have h1 : bad = true := by
                  have := HR2.out
                  simp only [badNum, hi] at this
                  simpa using this.symm
                have := HA.out
                rw [if_pos h1] at this
                exact this
              clear HR2 hi HA
              go_wp2_with (go_at_call 126; refine (number_any _ _).mono ?_; rintro e w' ⟨rfl, rfl⟩; rw [HI.out])
              go_ret3
              rw [HF.out]
              exact ⟨rfl, hEw⟩
          · cases hi : isChr d with
            | true =>
              have HI := Lib.hid hi
              have HF : Hid ((n.drop (j + 1)).any (badNum 2) = bad) := by
                have := HR2.out
                simp only [badNum, hi] at this
                show _ = bad
                simpa using this
              clear HR2 hi
              go_wp2_with (go_at_call 127; refine (character_any _ _).mono ?_; rintro e w' ⟨rfl, rfl⟩; rw [HI.out])
              go_round
              case rel => exact ⟨j + 1, by omega, by go_num, HF⟩
              case measure => simp [intOf]; omega
            | false =>
              have HI := Lib.hid hi
              have HF : Hid (ans = (17, 0, 0)) := by
                have h1 : bad = true := by
                  have := HR2.out
                  simp only [badNum, hi] at this
                  simpa using this.symm
                have := HA.out
                rw [if_pos h1] at this
                exact this
              clear HR2 hi HA
              go_wp2_with (go_at_call 127; refine (character_any _ _).mono ?_; rintro e w' ⟨rfl, rfl⟩; rw [HI.out])
              go_ret3
              rw [HF.out]
              exact ⟨rfl, hEw⟩
          · have e1 : (k == 1) = false := by simpa using k1'
            have e2 : (k == 2) = false := by simpa using k2'
            have HF : Hid ((n.drop (j + 1)).any (badNum k) = bad) := by
              have := HR2.out
              simp only [badNum, e1, e2] at this
              show _ = bad
              simpa using this
            clear HR2
            go_wp2
            go_round
            case rel => exact ⟨j + 1, by omega, by go_num, HF⟩
            case measure => simp [intOf]; omega
        · have HA2 : Hid ((match itemsV it 0 ((n.length : Int) + it.length) with
              | none => (17, 0, 0)
              | some (d, wt) => if 16 < d ∨ 262144 < wt then (21, 0, 0) else (0, d, wt)) = ans) := by
            have h1 : bad ≠ true := by
              have := HR.out
              rw [List.drop_of_length_le (by omega)] at this
              rw [← this]; simp
            have := HA.out
            rw [if_neg h1] at this
            exact this
          clear HA HR I2
          go_wp2_with fail
          go_quiet (fail)
          have hE2 : Ext w1 (w1.drewN nq) := (Ext.refl _).drewN _
          generalize w1.drewN nq = w2 at hE2 ⊢
          have hb3' := hE2.cell hb3
          have I3' := I3.ext hE2
          have HV2 := Lib.hid (hE2.cell HV.out)
          have hEw2 : Ext w w2 := hEw.trans hE2
          clear hb0 hb2 hb3 I3 hE hE2 HV
          go_wp2_with fail
          go_loopw [9, 10, 57] (fun d wt i wr => ∃ (j : Nat) (dv wv : Int), j ≤ it.length ∧ i = .int .i64 j ∧ d = .int .i64 dv ∧ wt = .int .i64 wv ∧ 0 ≤ dv ∧ dv ≤ 17 ∧ 0 ≤ wv ∧ wv ≤ 35184372088832 ∧ Ext w2 wr ∧
              Hid ((match itemsV (it.drop j) dv wv with
              | none => (17, 0, 0)
              | some (d, wt) => if 16 < d ∨ 262144 < wt then (21, 0, 0) else (0, d, wt)) = ans)) (fun _ _ i _ => it.length - (intOf i).toNat)
          case atStart => exact ⟨0, 0, _, Nat.zero_le _, rfl, rfl, rfl, by omega, by omega, by omega, by omega, Ext.refl _, HA2.out⟩
          case round =>
            obtain ⟨j', dv, wv, hj', rfl, rfl, rfl, hd0, hd1, hw0, hw1, hE3, HR⟩ := hrel
            clear HA2
            by_cases hlt' : j' < it.length
            · obtain ⟨b, off, x0, x1, x2, x3, rfl, _, g0, g1, g2, g3, hx⟩ := ItemsAt.get it _ 0 j' I3' hlt'
              rw [Nat.zero_add] at g0 g1 g2 g3
              have G0 := hE3.cell g0
              have G1 := hE3.cell g1
              have G2 := hE3.cell g2
              have G3 := hE3.cell g3
              have GV := hE3.cell HV2.out
              have hbv := World.block_lt_of_cell? _ _ GV
              have hx' := hx.ext hE3
              have hsz : SizeOf.sizeOf it[j'] < m := by
                have := List.sizeOf_lt_of_mem (List.getElem_mem hlt')
                simp at hm
                omega
              have hbd := visitV_bd _ it[j'] (Nat.lt_succ_self _)
              have hv0 := @visitV_0 it[j']
              have HD := hid_intro (drop_getA hlt')
              clear I3' g0 g1 g2 g3 hx
              generalize it[j'] = x at *
              have HB2 : Hid (0 ≤ (visitV x).2.1 ∧ (visitV x).2.1 ≤ 16 ∧ 0 ≤ (visitV x).2.2 ∧ (visitV x).2.2 ≤ 262144) := hbd
              have HSZ := Lib.hid hsz
              have HV0 : Hid ((visitV x).1 ≠ 0 → (visitV x).2.1 = 0 ∧ (visitV x).2.2 = 0) := hv0
              clear hbd hsz hv0
              obtain ⟨y0, q1, l1, m1, q2, l2, m2, q3, l3, m3, rfl, rfl, rfl, rfl⟩ := hx'.form
              go_wp2_with fail
              refine (IH.out x _ _ _ _ _ HSZ.out ?_ ?_).mono ?_
              · exact hx'.ext (by repeat (first | exact Ext.refl _ | apply Ext.drewN | apply Ext.alloc | apply Ext.drew))
              · exact Ext.cell (by repeat (first | exact Ext.refl _ | apply Ext.drewN | apply Ext.alloc | apply Ext.drew)) GV
              rintro e w4 ⟨rfl, hE4⟩
              have hE5 : Ext w2 w4 := hE3.trans (Ext.trans ((Ext.refl _).alloc _) hE4)
              have hE6 : Ext w w4 := hEw2.trans hE5
              clear hE4 hx' GV G0 G1 G2 G3 hE3 IH HSZ
              by_cases he : (visitV x).1 = 0
              · have HE := Lib.hid he
                have HN : Hid ((match itemsV (it.drop (j' + 1)) (max dv ((visitV x).2.1 + 1)) (min (wv + (visitV x).2.2) 262145) with
                    | none => (17, 0, 0)
                    | some (d, wt) => if 16 < d ∨ 262144 < wt then (21, 0, 0) else (0, d, wt)) = ans) := by
                  have := HR.out
                  rw [HD.out, itemsV, if_neg (by omega)] at this
                  exact this
                rw [HE.out]
                obtain ⟨b1, b2, b3, b4⟩ := HB2.out
                clear he HR HD HV0 HB2
                generalize (visitV x).2.1 = dx at *
                generalize (visitV x).2.2 = wx at *
                go_wp2_with fail
                go_roundw
                case rel => exact ⟨j' + 1, max dv (dx + 1), min (wv + wx) 262145, by omega, by go_num, by rw [max_spelt], by rw [min_spelt, Int.min_comm], by omega, by omega, by omega, by omega, hE5, HN⟩
                case measure => simp [intOf]; omega
              · have HF : Hid (ans = (17, 0, 0)) := by
                  have := HR.out
                  rw [HD.out, itemsV, if_pos he] at this
                  exact this.symm
                have he' : ((visitV x).1 != 0) = true := by simpa using he
                obtain ⟨z1, z2⟩ := HV0.out he
                rw [z1, z2]
                clear HR HD HV0 HB2 he z1 z2
                generalize (visitV x).1 = ex at *
                go_wp2_with fail
                go_ret3
                rw [HF.out]
                exact ⟨rfl, hE6⟩
            · have HR2 : Hid ((if 16 < dv ∨ 262144 < wv then (21, 0, 0) else (0, dv, wv)) = ans) := by
                have := HR.out
                rw [List.drop_of_length_le (by omega), itemsV] at this
                exact this
              have hE6 : Ext w wr := hEw2.trans hE3
              clear HR I3' HV2 IH
              by_cases h1 : 16 < dv
              · have HF : Hid (ans = (21, 0, 0)) := by
                  have := HR2.out
                  rw [if_pos (by omega)] at this
                  exact this.symm
                clear HR2
                go_wp2_with fail
                go_ret3
                rw [HF.out]
                exact ⟨rfl, hE6⟩
              by_cases h2 : 262144 < wv
              · have HF : Hid (ans = (21, 0, 0)) := by
                  have := HR2.out
                  rw [if_pos (by omega)] at this
                  exact this.symm
                clear HR2
                go_wp2_with fail
                go_ret3
                rw [HF.out]
                exact ⟨rfl, hE6⟩
              · have HF : Hid (ans = (0, dv, wv)) := by
                  have := HR2.out
                  rw [if_neg (by omega)] at this
                  exact this.symm
                clear HR2
                go_wp2_with fail
                go_ret3
                rw [HF.out]
                exact ⟨rfl, hE6⟩

/-- array.Right. -/
theorem right_any (F : Nat → Prop) (t : Arr) (c0 c1 c2 c3 : Value) (w : World) (h : ArrAt F w t c0 c1 c2 c3) :
    Calls Try.prog 70 #[.agg #[c0, c1, c2, c3]] w fun e w' => e = .returned (.int .i64 (rightV t)) ∧ Ext w w' := by
  obtain ⟨y0, q1, l1, m1, q2, l2, m2, q3, l3, m3, rfl, rfl, rfl, rfl⟩ := h.form
  go_enter Try.func70, Try.ntmps70
  go_wp2_with fail
  refine (visit_any F _ _ t _ _ _ _ _ (Nat.lt_succ_self _) ?_ ?_).mono ?_
  · exact h.ext (by repeat (first | exact Ext.refl _ | apply Ext.drewN | apply Ext.alloc | apply Ext.drew))
  · simp
  rintro e w1 ⟨rfl, hE⟩
  have hE2 : Ext w w1 := Ext.trans (by repeat (first | exact Ext.refl _ | apply Ext.drewN | apply Ext.alloc | apply Ext.drew)) hE
  clear hE h
  go_wp2_with fail
  go_ret
  exact ⟨rfl, hE2⟩
end Go.Proofs.Ytgkemmdghmklfaa
