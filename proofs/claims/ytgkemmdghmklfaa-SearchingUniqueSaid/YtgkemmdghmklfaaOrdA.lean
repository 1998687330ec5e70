/-
  THE WALKS of cmp.Compare (int, Kind), cmp.Or, slices.Compare; ref06.sign, shapes.
-/
import Derived.Test.YtgkemmdghmklfaaCommon
import Derived.Test.YtgkemmdghmklfaaSlice
namespace Go.Proofs.Ytgkemmdghmklfaa
set_option linter.unusedSimpArgs false
set_option linter.unusedVariables false
open Go.RowKit

def sgn (a b : Int) : Int := if a < b then -1 else if b < a then 1 else 0
theorem sgn_lt {a b : Int} (h : a < b) : sgn a b = -1 := by unfold sgn; rw [if_pos h]
theorem sgn_gt {a b : Int} (h : b < a) : sgn a b = 1 := by unfold sgn; rw [if_neg (by omega), if_pos h]
theorem sgn_eq (a : Int) : sgn a a = 0 := by unfold sgn; rw [if_neg (by omega), if_neg (by omega)]
theorem sgn_zero {a b : Int} : sgn a b = 0 ↔ a = b := by unfold sgn; split; omega; split <;> omega
theorem sgn_bd (a b : Int) : -1 ≤ sgn a b ∧ sgn a b ≤ 1 := by unfold sgn; split; omega; split <;> omega
theorem sgn_swap (a b : Int) : sgn b a = -sgn a b := by
  rcases Int.lt_trichotomy a b with h | h | h
  · rw [sgn_lt h, sgn_gt h]; rfl
  · rw [h, sgn_eq]; rfl
  · rw [sgn_lt h, sgn_gt h]
def orV : List Int → Int
  | [] => 0
  | a :: l => if a ≠ 0 then a else orV l
def lexV : List Int → List Int → Int
  | [], [] => 0
  | [], _ :: _ => -1
  | _ :: _, [] => 1
  | a :: s, b :: t => if sgn a b ≠ 0 then sgn a b else lexV s t

theorem isnan_any (a : Int) (w : World) : Calls Try.prog 161 #[.int .i64 a] w fun e w' => e = .returned (.bool false) ∧ w = w' := by
  go_enter Try.func161, Try.ntmps161
  go_wp2_with fail
  go_ret
  exact ⟨ret_bool (by simp), rfl⟩
theorem isnank_any (a : Int) (w : World) : Calls Try.prog 160 #[.int .i64 a] w fun e w' => e = .returned (.bool false) ∧ w = w' := by
  go_enter Try.func160, Try.ntmps160
  go_wp2_with fail
  go_ret
  exact ⟨ret_bool (by simp), rfl⟩
theorem quiet_mine {P : Program} {f : FuncId} {args : Array Value} {w : World} {n : Nat} {v : Value}
    (h : Calls P f args (w.drewN n) fun e w' => e = .returned v ∧ w.drewN n = w') : Calls P f args (w.drewN n) fun e w'' => e = .returned v ∧ ∃ m, w'' = w.drewN m :=
  h.mono fun _ _ ⟨he, hm⟩ => ⟨he, n, hm.symm⟩
set_option maxRecDepth 100000 in
theorem ccmp_any (a b : Int) (w : World) : Calls Try.prog 143 #[.int .i64 a, .int .i64 b] w fun e w' => e = .returned (.int .i64 (sgn a b)) ∧ w = w' := by
  have key : ∀ z, Hid (sgn a b = z) → (a < b ∧ z = -1 ∨ ¬ a < b ∧ b < a ∧ z = 1 ∨ ¬ a < b ∧ ¬ b < a ∧ z = 0) := fun z h => by
    have h := h.out
    unfold sgn at h
    split at h
    · omega
    · split at h <;> omega
  generalize hz : sgn a b = z
  have HZ := Lib.hid hz
  clear hz
  rcases key z HZ with ⟨h1, rfl⟩ | ⟨h1, h2, rfl⟩ | ⟨h1, h2, rfl⟩
  all_goals
    clear key
    go_enter Try.func143, Try.ntmps143
    go_wp2_with (first | (refine (isnan_any a w).mono ?_; rintro e w' ⟨rfl, rfl⟩) | (refine (isnan_any b w).mono ?_; rintro e w' ⟨rfl, rfl⟩))
    go_ret
    exact ⟨rfl, rfl⟩
set_option maxRecDepth 100000 in
theorem ccmpk_any (a b : Int) (w : World) : Calls Try.prog 142 #[.int .i64 a, .int .i64 b] w fun e w' => e = .returned (.int .i64 (sgn a b)) ∧ w = w' := by
  have key : ∀ z, Hid (sgn a b = z) → (a < b ∧ z = -1 ∨ ¬ a < b ∧ b < a ∧ z = 1 ∨ ¬ a < b ∧ ¬ b < a ∧ z = 0) := fun z h => by
    have h := h.out
    unfold sgn at h
    split at h
    · omega
    · split at h <;> omega
  generalize hz : sgn a b = z
  have HZ := Lib.hid hz
  clear hz
  rcases key z HZ with ⟨h1, rfl⟩ | ⟨h1, h2, rfl⟩ | ⟨h1, h2, rfl⟩
  all_goals
    clear key
    go_enter Try.func142, Try.ntmps142
    go_wp2_with (first | (refine (isnank_any a w).mono ?_; rintro e w' ⟨rfl, rfl⟩) | (refine (isnank_any b w).mono ?_; rintro e w' ⟨rfl, rfl⟩))
    go_ret
    exact ⟨rfl, rfl⟩
theorem r6sign_any (a b : Int) (w : World) : Calls Try.prog 138 #[.int .i64 a, .int .i64 b] w fun e w' => e = .returned (.int .i64 (sgn a b)) ∧ w = w' := by
  have key : ∀ z, Hid (sgn a b = z) → (a < b ∧ z = -1 ∨ ¬ a < b ∧ b < a ∧ z = 1 ∨ ¬ a < b ∧ ¬ b < a ∧ z = 0) := fun z h => by
    have h := h.out
    unfold sgn at h
    split at h
    · omega
    · split at h <;> omega
  generalize hz : sgn a b = z
  have HZ := Lib.hid hz
  clear hz
  rcases key z HZ with ⟨h1, rfl⟩ | ⟨h1, h2, rfl⟩ | ⟨h1, h2, rfl⟩
  all_goals
    clear key
    go_enter Try.func138, Try.ntmps138
    go_wp2_with fail
    go_ret
    exact ⟨rfl, rfl⟩

theorem orV_at {l : List Int} {k : Nat} (h : k < l.length) : orV (l.drop k) = if l.getD k 0 ≠ 0 then l.getD k 0 else orV (l.drop (k + 1)) := by rw [drop_getD h, orV]
set_option maxRecDepth 100000 in
theorem or_any (F : Nat → Prop) (p : Option Addr) (c : Nat) (l : List Int) (w : World) (h : IntsAt F w p l) (hl : l.length ≤ lenMax) :
    Calls Try.prog 141 #[.slice p l.length c] w fun e w' => e = .returned (.int .i64 (orV l)) ∧ w = w' := by
  unfold lenMax at hl
  have HL := Lib.hid h
  clear h
  generalize hans : orV l = ans
  have HANS := Lib.hid (show orV (l.drop 0) = ans by rw [List.drop_zero]; exact hans)
  clear hans
  go_enter Try.func141, Try.ntmps141
  go_wp2_with fail
  go_loop [8] (fun iv => ∃ k : Nat, k ≤ l.length ∧ iv = .int .i64 k ∧ Hid (orV (l.drop k) = ans)) (fun iv => l.length - (intOf iv).toNat)
  case atStart => exact ⟨0, Nat.zero_le _, rfl, HANS⟩
  case round =>
    obtain ⟨k, hk, rfl, HR⟩ := hrel
    clear HANS
    by_cases hlt : k < l.length
    · obtain ⟨b1, o1, rfl, a1, _, _⟩ := HL.out.get hlt
      have hr := HR.out
      rw [orV_at hlt] at hr
      generalize l.getD k 0 = d at *
      by_cases hd : d = 0
      · subst hd
        have HR2 := Lib.hid (show orV (l.drop (k + 1)) = ans by simpa using hr)
        clear hr HR
        go_wp2_with fail
        go_round
        case rel => exact ⟨k + 1, by omega, by go_num, HR2⟩
        case measure => simp [intOf]; omega
      · have hr2 : d = ans := by simpa [hd] using hr
        have hd2 : (d != 0) = true := by simpa using hd
        have HR2 := Lib.hid hr2
        clear hr hr2 HR hd
        go_wp2_with fail
        go_ret
        exact ⟨ret_int HR2.out, rfl⟩
    · have hr := HR.out
      rw [List.drop_of_length_le (by omega), orV] at hr
      subst hr
      clear HR
      go_wp2_with fail
      go_ret
      exact ⟨rfl, rfl⟩

theorem lexV_at {s t : List Int} {k : Nat} (h : k < s.length) (h2 : k < t.length) : lexV (s.drop k) (t.drop k) = if sgn (s.getD k 0) (t.getD k 0) ≠ 0 then sgn (s.getD k 0) (t.getD k 0) else lexV (s.drop (k + 1)) (t.drop (k + 1)) := by
  rw [drop_getD h, drop_getD h2, lexV]
set_option maxRecDepth 100000 in
set_option maxHeartbeats 1000000 in
/-- slices.Compare. -/
theorem scompare_any (F G : Nat → Prop) (p q : Option Addr) (c d : Nat) (s t : List Int) (w : World) (h1 : IntsAt F w p s) (h2 : IntsAt G w q t) (hl : s.length ≤ lenMax) (hl2 : t.length ≤ lenMax) :
    Calls Try.prog 145 #[.slice p s.length c, .slice q t.length d] w fun e w' => e = .returned (.int .i64 (lexV s t)) ∧ w = w' := by
  unfold lenMax at hl hl2
  have H1 := Lib.hid h1
  have H2 := Lib.hid h2
  clear h1 h2
  generalize hans : lexV s t = ans
  have HANS := Lib.hid (show lexV (s.drop 0) (t.drop 0) = ans by rw [List.drop_zero, List.drop_zero]; exact hans)
  clear hans
  go_enter Try.func145, Try.ntmps145
  go_wp2_with fail
  go_loop [11] (fun iv => ∃ k : Nat, k ≤ s.length ∧ k ≤ t.length ∧ iv = .int .i64 k ∧ Hid (lexV (s.drop k) (t.drop k) = ans)) (fun iv => s.length - (intOf iv).toNat)
  case atStart => exact ⟨0, Nat.zero_le _, Nat.zero_le _, rfl, HANS⟩
  case round =>
    obtain ⟨k, hk, hk2, rfl, HR⟩ := hrel
    clear HANS
    by_cases hlt : k < s.length
    · obtain ⟨b1, o1, rfl, a1, _, _⟩ := H1.out.get hlt
      by_cases hlt2 : k < t.length
      · obtain ⟨b2, o2, rfl, a2, _, _⟩ := H2.out.get hlt2
        have hr := HR.out
        rw [lexV_at hlt hlt2] at hr
        generalize s.getD k 0 = x at *
        generalize t.getD k 0 = y at *
        have HRR := Lib.hid hr
        clear hr HR
        go_wp2_with fail
        refine (ccmp_any x y w).mono ?_
        rintro e w' ⟨rfl, rfl⟩
        have hr := HRR.out
        generalize sgn x y = d at *
        by_cases hd : d = 0
        · subst hd
          have HR2 := Lib.hid (show lexV (s.drop (k + 1)) (t.drop (k + 1)) = ans by simpa using hr)
          clear hr HRR
          go_wp2_with fail
          go_round
          case rel => exact ⟨k + 1, by omega, by omega, by go_num, HR2⟩
          case measure => simp [intOf]; omega
        · have hr2 : d = ans := by simpa [hd] using hr
          have hd2 : (d != 0) = true := by simpa using hd
          have HR2 := Lib.hid hr2
          clear hr hr2 HRR hd
          go_wp2_with fail
          go_ret
          exact ⟨ret_int HR2.out, rfl⟩
      · have hr := HR.out
        rw [drop_getD hlt, List.drop_of_length_le (show t.length ≤ k by omega), lexV] at hr
        have HR2 := Lib.hid hr
        clear hr HR
        go_wp2_with fail
        go_ret
        exact ⟨ret_int HR2.out, rfl⟩
    · have hr := HR.out
      have hke : k = s.length := by omega
      subst hke
      rw [List.drop_length] at hr
      by_cases hlt2 : s.length < t.length
      · rw [drop_getD hlt2, lexV] at hr
        have HR2 := Lib.hid hr
        clear hr HR
        go_wp2_with fail
        go_ret
        exact ⟨ret_int HR2.out, rfl⟩
      · rw [List.drop_of_length_le (by omega), lexV] at hr
        have HR2 := Lib.hid hr
        clear hr HR
        go_wp2_with fail
        go_ret
        exact ⟨ret_int HR2.out, rfl⟩
theorem same_ext {P : Program} {f : FuncId} {args : Array Value} {w : World} {v : Value} (h : Calls P f args w fun e w' => e = .returned v ∧ w = w') : Calls P f args w fun e w' => e = .returned v ∧ Ext w w' :=
  h.mono fun _ _ ⟨h1, h2⟩ => ⟨h1, by subst h2; exact Ext.refl _⟩
set_option maxRecDepth 100000 in
set_option maxHeartbeats 1000000 in
theorem r6shapes_any (F G : Nat → Prop) (p q : Option Addr) (c d : Nat) (s t : List Int) (w : World) (h1 : IntsAt F w p s) (h2 : IntsAt G w q t) (hl : s.length ≤ lenMax) (he : s.length = t.length) :
    Calls Try.prog 140 #[.slice p s.length c, .slice q t.length d] w fun e w' => e = .returned (.int .i64 (lexV s t)) ∧ Ext w w' := by
  unfold lenMax at hl
  have H1 := Lib.hid h1
  have H2 := Lib.hid h2
  clear h1 h2
  generalize hans : lexV s t = ans
  have HANS := Lib.hid (show lexV (s.drop 0) (t.drop 0) = ans by rw [List.drop_zero, List.drop_zero]; exact hans)
  have HEQ := Lib.hid he
  obtain ⟨n, hn⟩ : ∃ n, n = s.length := ⟨_, rfl⟩
  rw [← he, ← hn]
  have HN := Lib.hid hn
  have hnl : n ≤ 17592186044416 := by omega
  clear hans he hn hl
  go_enter Try.func140, Try.ntmps140
  go_wp2_with fail
  go_loopw [5] (fun iv wr => ∃ k : Nat, k ≤ n ∧ iv = .int .i64 k ∧ Hid (lexV (s.drop k) (t.drop k) = ans) ∧ Ext w wr) (fun iv _ => n - (intOf iv).toNat)
  case atStart => exact ⟨0, Nat.zero_le _, rfl, HANS, Ext.refl _⟩
  case round =>
    obtain ⟨k, hk, rfl, HR, hE⟩ := hrel
    have HE := Lib.hid hE
    clear HANS hE
    by_cases hlt : k < n
    · obtain ⟨b1, o1, rfl, a1, _, _⟩ := (H1.out.ext HE.out).get (show k < s.length by rw [← HN.out]; exact hlt)
      obtain ⟨b2, o2, rfl, a2, _, _⟩ := (H2.out.ext HE.out).get (show k < t.length by rw [← HEQ.out, ← HN.out]; exact hlt)
      have hr := HR.out
      rw [lexV_at (by rw [← HN.out]; exact hlt) (by rw [← HEQ.out, ← HN.out]; exact hlt)] at hr
      generalize s.getD k 0 = x at *
      generalize t.getD k 0 = y at *
      by_cases hd : x = y
      · subst hd
        have HR2 := Lib.hid (show lexV (s.drop (k + 1)) (t.drop (k + 1)) = ans by simpa [sgn_eq] using hr)
        clear hr HR
        go_wp2_with fail
        go_quiet (fail)
        have hE2 := HE.out.trans ((Ext.refl wr).drewN nq)
        clear a1 a2 HE
        go_wp2_with fail
        go_roundw
        case rel => exact ⟨k + 1, by omega, by go_num, HR2, hE2⟩
        case measure => simp [intOf]; omega
      · have hd2 : (x != y) = true := by simpa using hd
        have hr2 : sgn x y = ans := by simpa [sgn_zero, hd] using hr
        have HR2 := Lib.hid hr2
        clear hr hr2 HR hd
        go_wp2_with fail
        go_quiet (fail)
        have hE2 := HE.out.trans ((Ext.refl wr).drewN nq)
        replace a1 := ((Ext.refl wr).drewN nq).cell a1
        replace a2 := ((Ext.refl wr).drewN nq).cell a2
        clear HE
        generalize wr.drewN nq = wq at *
        go_wp2_with fail
        go_quiet ((go_at_call 138; exact quiet_mine (r6sign_any x y _)))
        have hE3 := hE2.trans ((Ext.refl wq).drewN nq)
        clear a1 a2 hE2
        go_wp2_with fail
        go_ret
        exact ⟨ret_int HR2.out, hE3⟩
    · have hr := HR.out
      rw [List.drop_of_length_le (by rw [← HN.out]; omega), List.drop_of_length_le (by rw [← HEQ.out, ← HN.out]; omega), lexV] at hr
      subst hr
      clear HR
      go_wp2_with fail
      go_ret
      exact ⟨rfl, HE.out⟩
end Go.Proofs.Ytgkemmdghmklfaa
