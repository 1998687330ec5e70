/-
  THE WALKS of array.form and array.Right.
-/
import Derived.Test.YtgkemmdghmklfaaShape
namespace Go.Proofs.Ytgkemmdghmklfaa
set_option linter.unusedSimpArgs false
set_option linter.unusedVariables false
open Go.RowKit

/-- array.form, as a function of the parts. -/
def formOf (k : Int) (s : List Int) (used other : Nat) : Int :=
  if k ≠ 1 ∧ k ≠ 2 ∧ k ≠ 3 then 14 else if 8 < s.length then 15 else if s.any isNeg = true then 16 else if shapeRight s = false then 21 else if ((used : Int) != shapeSize s) = true then 16 else if other ≠ 0 then 16 else 0
def formV : Arr → Int
  | .mk k s n it => if k = 3 then formOf k s it.length n.length else formOf k s n.length it.length

set_option maxHeartbeats 1000000 in
theorem form_any (F : Nat → Prop) (t : Arr) (c0 c1 c2 c3 : Value) (w : World) (h : ArrAt F w t c0 c1 c2 c3) :
    Calls Try.prog 125 #[.agg #[c0, c1, c2, c3]] w fun e w' => e = .returned (.int .i64 (formV t)) ∧ Ext w w' := by
  obtain ⟨k, s, n, it⟩ := t
  unfold ArrAt at h
  obtain ⟨rfl, hk, ⟨p1, k1, rfl, ⟨o1, o1', o1''⟩, i1⟩, ⟨p2, k2, rfl, ⟨o2, o2', o2''⟩, i2⟩, ⟨p3, k3, rfl, ⟨o3, o3', o3''⟩, i3⟩⟩ := h
  have hn : s.length ≤ lenMax := by unfold lenMax; omega
  clear i2 i3
  generalize hans : formV (.mk k s n it) = ans
  by_cases hkk : k ≠ 1 ∧ k ≠ 2 ∧ k ≠ 3
  · obtain ⟨h1, h2, h3⟩ := hkk
    have HF : Hid ((14 : Int) = ans) := by
      show _ = _
      rw [← hans, formV, if_neg h3, formOf, if_pos ⟨h1, h2, h3⟩]
    clear hans
    go_enter Try.func125, Try.ntmps125
    go_wp2
    go_quiet (fail)
    go_wp2
    go_ret
    exact ⟨ret_int HF.out, ((Ext.refl _).alloc _).drewN _⟩
  · have hk3 : (k = 1 ∨ k = 2) ∨ k = 3 := by omega
    obtain ⟨used, hused⟩ : ∃ u, u = (if k = 3 then it.length else n.length) := ⟨_, rfl⟩
    obtain ⟨other, hother⟩ : ∃ u, u = (if k = 3 then n.length else it.length) := ⟨_, rfl⟩
    have hfo : formOf k s used other = ans := by
      rw [← hans, formV, hused, hother]
      split <;> rfl
    clear hans
    rw [formOf, if_neg hkk] at hfo
    have HW := Lib.hid hfo
    clear hfo hkk
    by_cases h8 : 8 < s.length
    · have HF : Hid ((15 : Int) = ans) := by
        have := HW.out
        rw [if_pos h8] at this
        exact this
      clear HW hused hother
      rcases hk3 with (rfl | rfl) | rfl
      all_goals
        go_enter Try.func125, Try.ntmps125
        go_wp2
        go_quiet (fail)
        go_wp2
        go_ret
        exact ⟨ret_int HF.out, ((Ext.refl _).alloc _).drewN _⟩
    by_cases hneg : s.any isNeg = true
    · have HF : Hid ((16 : Int) = ans) := by
        have := HW.out
        rw [if_neg h8, if_pos hneg] at this
        exact this
      have HN := Lib.hid hneg
      clear HW hused hother hneg
      rcases hk3 with (rfl | rfl) | rfl
      all_goals
        go_enter Try.func125, Try.ntmps125
        go_wp2_with fail
        go_quiet (fail)
        go_wp2_with (first
        | (go_at_call 80; refine (containsFunc_neg F p1 k1 s _ ?_ hn).mono ?_; (exact i1.ext (by repeat (first | exact Ext.refl _ | apply Ext.drewN | apply Ext.alloc | apply Ext.drew))); rintro e w' ⟨rfl, rfl⟩; rw [HN.out])
        | (go_at_call 83; refine (shapeRight_any F p1 k1 s _ ?_ hn).mono ?_; (exact i1.ext (by repeat (first | exact Ext.refl _ | apply Ext.drewN | apply Ext.alloc | apply Ext.drew))); rintro e w' ⟨rfl, rfl⟩; rw [HR.out])
        | (go_at_call 129; refine (size_any F p1 k1 s _ ?_ hn).mono ?_; (exact i1.ext (by repeat (first | exact Ext.refl _ | apply Ext.drewN | apply Ext.alloc | apply Ext.drew))); rintro e w' ⟨rfl, rfl⟩))
        go_ret
        exact ⟨ret_int HF.out, ((Ext.refl _).alloc _).drewN _⟩
    have HN : Hid (s.any isNeg = false) := by
      show _ = false
      exact Bool.eq_false_iff.2 hneg
    by_cases hr : shapeRight s = false
    · have HF : Hid ((21 : Int) = ans) := by
        have := HW.out
        rw [if_neg h8, if_neg hneg, if_pos hr] at this
        exact this
      have HR := Lib.hid hr
      clear HW hused hother hneg hr
      rcases hk3 with (rfl | rfl) | rfl
      all_goals
        go_enter Try.func125, Try.ntmps125
        go_wp2_with fail
        go_quiet (fail)
        go_wp2_with (first
        | (go_at_call 80; refine (containsFunc_neg F p1 k1 s _ ?_ hn).mono ?_; (exact i1.ext (by repeat (first | exact Ext.refl _ | apply Ext.drewN | apply Ext.alloc | apply Ext.drew))); rintro e w' ⟨rfl, rfl⟩; rw [HN.out])
        | (go_at_call 83; refine (shapeRight_any F p1 k1 s _ ?_ hn).mono ?_; (exact i1.ext (by repeat (first | exact Ext.refl _ | apply Ext.drewN | apply Ext.alloc | apply Ext.drew))); rintro e w' ⟨rfl, rfl⟩; rw [HR.out])
        | (go_at_call 129; refine (size_any F p1 k1 s _ ?_ hn).mono ?_; (exact i1.ext (by repeat (first | exact Ext.refl _ | apply Ext.drewN | apply Ext.alloc | apply Ext.drew))); rintro e w' ⟨rfl, rfl⟩))
        go_ret
        exact ⟨ret_int HF.out, ((Ext.refl _).alloc _).drewN _⟩
    have HR : Hid (shapeRight s = true) := by
      show _ = true
      simpa using hr
    have HW2 := HW.out
    rw [if_neg h8, if_neg hneg, if_neg hr] at HW2
    have HW2 := Lib.hid HW2
    clear HW hneg hr
    by_cases hu : ((used : Int) != shapeSize s) = true
    · have HF : Hid ((16 : Int) = ans) := by
        have := HW2.out
        rw [if_pos hu] at this
        exact this
      clear HW2 hother
      rcases hk3 with (rfl | rfl) | rfl
      all_goals
        simp only [Int.reduceEq, if_true, if_false] at hused
        subst hused
        go_enter Try.func125, Try.ntmps125
        go_wp2_with fail
        go_quiet (fail)
        go_wp2_with (first
        | (go_at_call 80; refine (containsFunc_neg F p1 k1 s _ ?_ hn).mono ?_; (exact i1.ext (by repeat (first | exact Ext.refl _ | apply Ext.drewN | apply Ext.alloc | apply Ext.drew))); rintro e w' ⟨rfl, rfl⟩; rw [HN.out])
        | (go_at_call 83; refine (shapeRight_any F p1 k1 s _ ?_ hn).mono ?_; (exact i1.ext (by repeat (first | exact Ext.refl _ | apply Ext.drewN | apply Ext.alloc | apply Ext.drew))); rintro e w' ⟨rfl, rfl⟩; rw [HR.out])
        | (go_at_call 129; refine (size_any F p1 k1 s _ ?_ hn).mono ?_; (exact i1.ext (by repeat (first | exact Ext.refl _ | apply Ext.drewN | apply Ext.alloc | apply Ext.drew))); rintro e w' ⟨rfl, rfl⟩))
        go_ret
        exact ⟨ret_int HF.out, ((Ext.refl _).alloc _).drewN _⟩
    have hu' : ((used : Int) != shapeSize s) = false := Bool.eq_false_iff.2 hu
    by_cases ho : other = 0
    · have HF : Hid ((0 : Int) = ans) := by
        have := HW2.out
        rw [if_neg hu, if_neg (by omega)] at this
        exact this
      clear HW2 hu
      rcases hk3 with (rfl | rfl) | rfl
      all_goals
        simp only [Int.reduceEq, if_true, if_false] at hused hother
        have ho2 := hother.symm.trans ho
        clear hother ho
        subst hused
        have ho3 : Hid (it.length = 0 ∨ n.length = 0) := by
          show _ ∨ _
          omega
        go_enter Try.func125, Try.ntmps125
        go_wp2_with fail
        go_quiet (fail)
        go_wp2_with (first
        | (go_at_call 80; refine (containsFunc_neg F p1 k1 s _ ?_ hn).mono ?_; (exact i1.ext (by repeat (first | exact Ext.refl _ | apply Ext.drewN | apply Ext.alloc | apply Ext.drew))); rintro e w' ⟨rfl, rfl⟩; rw [HN.out])
        | (go_at_call 83; refine (shapeRight_any F p1 k1 s _ ?_ hn).mono ?_; (exact i1.ext (by repeat (first | exact Ext.refl _ | apply Ext.drewN | apply Ext.alloc | apply Ext.drew))); rintro e w' ⟨rfl, rfl⟩; rw [HR.out])
        | (go_at_call 129; refine (size_any F p1 k1 s _ ?_ hn).mono ?_; (exact i1.ext (by repeat (first | exact Ext.refl _ | apply Ext.drewN | apply Ext.alloc | apply Ext.drew))); rintro e w' ⟨rfl, rfl⟩))
        go_ret
        exact ⟨ret_int HF.out, ((Ext.refl _).alloc _).drewN _⟩
    · have HF : Hid ((16 : Int) = ans) := by
        have := HW2.out
        rw [if_neg hu, if_pos ho] at this
        exact this
      clear HW2 hu
      rcases hk3 with (rfl | rfl) | rfl
      all_goals
        simp only [Int.reduceEq, if_true, if_false] at hused hother
        subst hused
        subst hother
        have ho2 := Nat.pos_of_ne_zero ho
        go_enter Try.func125, Try.ntmps125
        go_wp2_with fail
        go_quiet (fail)
        go_wp2_with (first
        | (go_at_call 80; refine (containsFunc_neg F p1 k1 s _ ?_ hn).mono ?_; (exact i1.ext (by repeat (first | exact Ext.refl _ | apply Ext.drewN | apply Ext.alloc | apply Ext.drew))); rintro e w' ⟨rfl, rfl⟩; rw [HN.out])
        | (go_at_call 83; refine (shapeRight_any F p1 k1 s _ ?_ hn).mono ?_; (exact i1.ext (by repeat (first | exact Ext.refl _ | apply Ext.drewN | apply Ext.alloc | apply Ext.drew))); rintro e w' ⟨rfl, rfl⟩; rw [HR.out])
        | (go_at_call 129; refine (size_any F p1 k1 s _ ?_ hn).mono ?_; (exact i1.ext (by repeat (first | exact Ext.refl _ | apply Ext.drewN | apply Ext.alloc | apply Ext.drew))); rintro e w' ⟨rfl, rfl⟩))
        go_ret
        exact ⟨ret_int HF.out, ((Ext.refl _).alloc _).drewN _⟩
end Go.Proofs.Ytgkemmdghmklfaa
