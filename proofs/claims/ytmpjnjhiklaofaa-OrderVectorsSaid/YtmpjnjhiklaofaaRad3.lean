/-
  THE VALUE of digits: plain (valGo) and walked (radix.value). (Printed by gen_rad3.py.)
-/
import Derived.Test.YtmpjnjhiklaofaaRad2
namespace Go.Proofs.Ytmpjnjhiklaofaa
set_option linter.unusedSimpArgs false
set_option linter.unusedVariables false
open Go.RowKit

/-- The value from digit i on, with v so far. -/
def valGo (nx ny : List Int) (at_ step : Nat) : Nat → Nat → Int → Int × Int
  | 0, _, v => (v, 0)
  | m + 1, i, v =>
    if isNum (v * nx.getD (min i (nx.length - 1)) 0) = true then
      if isNum (v * nx.getD (min i (nx.length - 1)) 0 + ny.getD (at_ + i * step) 0) = true then valGo nx ny at_ step m (i + 1) (v * nx.getD (min i (nx.length - 1)) 0 + ny.getD (at_ + i * step) 0)
      else (0, 19)
    else (0, 19)
theorem valGo_num (nx ny : List Int) (at_ step : Nat) : ∀ (m i : Nat) (v : Int), NumB v → NumB (valGo nx ny at_ step m i v).1
  | 0, _, v, h => h
  | m + 1, i, v, h => by
    rw [valGo]
    split
    · split
      · rename_i h2; exact valGo_num nx ny at_ step m _ _ (NumB.of h2)
      · exact ⟨by decide, by decide⟩
    · exact ⟨by decide, by decide⟩

set_option maxRecDepth 1000000 in
set_option maxHeartbeats 8000000 in
/-- radix.value. -/
theorem value_any (F G : Nat → Prop) (p1 p2 : Option Addr) (c1 c2 : Nat) (nx ny : List Int) (at_ step count : Nat) (w : World) (h1 : IntsAt F w p1 nx) (h2 : IntsAt G w p2 ny) (hl1 : nx.length ≤ lenMax) (hl2 : ny.length ≤ lenMax)
    (hx : ∀ x ∈ nx, NumB x) (hy : ∀ x ∈ ny, NumB x) (hin : ∀ i, i < count → at_ + i * step < ny.length) (hc : 0 < count → 0 < nx.length) (hb1 : at_ ≤ lenMax) (hb2 : step ≤ lenMax) (hb3 : count ≤ lenMax) :
    Calls Try.prog 63 #[.slice p1 nx.length c1, .slice p2 ny.length c2, .int .i64 at_, .int .i64 step, .int .i64 count] w fun e w' =>
      e = .returned (.tuple #[.int .i64 (valGo nx ny at_ step count 0 0).1, .int .i64 (valGo nx ny at_ step count 0 0).2]) ∧ w = w' := by
  unfold lenMax at *
  generalize hans : valGo nx ny at_ step count 0 0 = ans
  have HANS := Lib.hid hans
  have H1 := Lib.hid h1
  have H2 := Lib.hid h2
  have HX := Lib.hid hx
  have HY := Lib.hid hy
  have HIN := Lib.hid hin
  have HC := Lib.hid hc
  clear hans h1 h2 hx hy hin hc
  go_enter Try.func63, Try.ntmps63
  go_wp2_with fail
  go_loop [12, 18] (fun vv iv => ∃ (k : Nat) (v : Int), k ≤ count ∧ vv = .int .i64 v ∧ iv = .int .i64 k ∧ Hid (NumB v) ∧ Hid (valGo nx ny at_ step (count - k) k v = ans)) (fun _ iv => count - (intOf iv).toNat)
  case atStart => exact ⟨0, 0, Nat.zero_le _, rfl, rfl, ⟨by decide, by decide⟩, HANS.out⟩
  case round =>
    obtain ⟨k, v, hk, rfl, rfl, HV, HR⟩ := hrel
    clear HANS
    by_cases hlt : k < count
    · have hkl := HIN.out k hlt
      have hnx := HC.out (by omega)
      have hr := HR.out
      obtain ⟨j, hj⟩ : ∃ j, min k (nx.length - 1) = j := ⟨_, rfl⟩
      obtain ⟨q, hq⟩ : ∃ q, at_ + k * step = q := ⟨_, rfl⟩
      rw [show count - k = (count - (k + 1)) + 1 by omega, valGo, hj, hq] at hr
      rw [hq] at hkl
      have hjl : j < nx.length := by omega
      obtain ⟨b1, o1, e1, a1, _, _⟩ := H1.out.get hjl
      obtain ⟨b2, o2, e2, a2, _, _⟩ := H2.out.get hkl
      have hm1 := HX.out (nx.getD j 0) (by simp [List.getD, hjl])
      have hm2 := HY.out (ny.getD q 0) (by simp [List.getD, hkl])
      generalize nx.getD j 0 = r at *
      generalize ny.getD q 0 = d at *
      obtain ⟨z, hz⟩ : ∃ z, k * step = z := ⟨_, rfl⟩
      have hz' : (k : Int) * (step : Int) = (z : Int) := by rw [← hz]; simp
      have hzq : (at_ : Int) + (z : Int) = (q : Int) := by omega
      have hzb : z ≤ 17592186044416 := by omega
      have hqb : q < 17592186044416 := by omega
      have HRR := Lib.hid hr
      have HM1 := Lib.hid hm1
      have HM2 := Lib.hid hm2
      clear hr hm1 hm2 HR hq hz
      subst e1 e2
      have hjc : ((nx.length : Int) - 1 < (k : Int) ∧ (nx.length : Int) - 1 = (j : Int)) ∨ (¬ (nx.length : Int) - 1 < (k : Int) ∧ j = k) := by omega
      have hnl : (nx.length : Int) ≤ 17592186044416 := by omega
      clear hj
      have HJ : (k = j ∧ ¬ (nx.length : Int) - 1 < (k : Int)) ∨ ((nx.length : Int) - 1 < (k : Int) ∧ (nx.length : Int) - 1 = (j : Int)) := by omega
      clear hjc
      have hite : (if (nx.length : Int) - 1 < (k : Int) then (nx.length : Int) - 1 else (k : Int)) = (j : Int) := by
        rcases HJ with ⟨h, h'⟩ | ⟨h, h'⟩
        · rw [if_neg h']; omega
        · rw [if_pos h, h']
      clear HJ
      go_wp2_with fail
      refine (nmul_any v r w HV.out HM1.out).mono ?_
      rintro e w' ⟨rfl, rfl⟩
      by_cases hf : isNum (v * r) = true
      · have HF : Hid (fitV (v * r) = (v * r, 0)) := by
          show _ = _
          unfold fitV; rw [if_pos hf]
        rw [HF.out]
        have hr := HRR.out
        rw [if_pos hf] at hr
        have HPN := Lib.hid (NumB.of hf)
        clear hf HF HRR
        generalize v * r = pz at *
        go_wp2_with fail
        refine (nadd_any pz d w HPN.out HM2.out).mono ?_
        rintro e w' ⟨rfl, rfl⟩
        by_cases hf : isNum (pz + d) = true
        · have HF : Hid (fitV (pz + d) = (pz + d, 0)) := by
            show _ = _
            unfold fitV; rw [if_pos hf]
          rw [HF.out]
          rw [if_pos hf] at hr
          have HR2 := Lib.hid hr
          have HQN := Lib.hid (NumB.of hf)
          clear hf HF hr
          generalize pz + d = v2 at *
          go_wp2_with fail
          go_round
          case rel => exact ⟨k + 1, v2, by omega, rfl, by go_num, HQN, HR2⟩
          case measure => simp [intOf]; omega
        · have HF : Hid (fitV (pz + d) = (0, 19)) := by
            show _ = _
            unfold fitV; rw [if_neg hf]
          rw [HF.out]
          rw [if_neg hf] at hr
          subst hr
          clear hf HF
          go_wp2_with fail
          go_ret2
          exact ⟨rfl, rfl⟩
      · have HF : Hid (fitV (v * r) = (0, 19)) := by
          show _ = _
          unfold fitV; rw [if_neg hf]
        rw [HF.out]
        have hr := HRR.out
        rw [if_neg hf] at hr
        subst hr
        clear hf HF HRR
        go_wp2_with fail
        go_ret2
        exact ⟨rfl, rfl⟩
    · have hr := HR.out
      rw [show count - k = 0 by omega, valGo] at hr
      subst hr
      clear HR
      go_wp2_with fail
      go_ret2
      exact ⟨rfl, rfl⟩

end Go.Proofs.Ytmpjnjhiklaofaa
