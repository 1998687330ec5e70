/-
  PLAIN LAW for CellKeeps: an array padded with more rows.
-/
import Derived.Test.YtmpjnjhiklaofaaBackP
import Derived.Test.YtmpjnjhiklaofaaCPadR
namespace Go.Proofs.Ytmpjnjhiklaofaa
set_option linter.unusedSimpArgs false
set_option linter.unusedVariables false
open Go.RowKit

theorem padR_self {x : Arr} (h : rightV x = 0) : padR x x.sh = (x, 0) := by
  unfold padR
  rw [padV_self h, if_pos h]
def m1 (d : Int) : Int := if d = 0 then 1 else d
theorem m1_bd {d : Int} (h : 0 ≤ d) : 1 ≤ m1 d ∧ (d ≤ m1 d) ∧ (m1 d ≤ d ∨ m1 d = 1) := by unfold m1; split <;> omega
theorem rg_cons {p d : Int} {r : List Int} (hp : 1 ≤ p) (hd : 0 ≤ d) (h : p * m1 d ≤ 65536) (hr : rightGo (p * m1 d) r = true) : rightGo p (d :: r) = true := by
  rw [rightGo]
  unfold m1 at h hr
  by_cases h0 : d = 0
  · rw [if_pos h0, Int.mul_one] at h hr
    rw [if_neg (by omega), if_pos h0]; exact hr
  · rw [if_neg h0] at h hr
    have : 1 * d ≤ p * d := Int.mul_le_mul_of_nonneg_right hp hd
    rw [if_neg (by omega), if_neg h0, if_neg (by omega)]; exact hr
theorem mul_bd {a b A B : Int} (h0 : 0 ≤ a) (h1 : a ≤ A) (h2 : 0 ≤ b) (h3 : b ≤ B) : a * b ≤ A * B := Int.mul_le_mul h1 h3 h2 (by omega)
/-- The greater shape is in order. -/
theorem rows_right {d m : Int} {r : List Int} {n : Nat} (hr : rightGo 1 (d :: r) = true) (hl : (d :: r).length ≤ 3) (h40 : ∀ x ∈ d :: r, x ≤ 40) (hn : (n : Int) = shapeSize (d :: r)) (hn3 : n ≤ 300) (hm : 0 ≤ m ∧ m ≤ 19) : shapeRight ((d + m) :: r) = true := by
  have hd := rightGo_nonneg _ 1 hr
  have d0 := (hd d (by simp)).1
  have d4 := h40 d (by simp)
  obtain ⟨a1, a2, a3⟩ := m1_bd (show 0 ≤ d + m by omega)
  have hs := size_prodA hr (by omega)
  rw [← hn] at hs
  have key : rightGo 1 ((d + m) :: r) = true := by
    match r, hl, hd, h40, hs with
    | [], _, _, _, _ => exact rg_cons (by omega) (by omega) (by rw [Int.one_mul]; omega) rfl
    | [b], _, hd, h40, _ =>
      have b0 := (hd b (by simp)).1
      have b4 := h40 b (by simp)
      obtain ⟨c1, c2, c3⟩ := m1_bd b0
      have hb : m1 (d + m) * m1 b ≤ 59 * 40 := mul_bd (by omega) (by omega) (by omega) (by omega)
      refine rg_cons (by omega) (by omega) (by rw [Int.one_mul]; omega) ?_
      rw [Int.one_mul]
      exact rg_cons (by omega) b0 (by omega) rfl
    | [b, c], _, hd, h40, hs =>
      have b0 := (hd b (by simp)).1
      have b4 := h40 b (by simp)
      have e0 := (hd c (by simp)).1
      have e4 := h40 c (by simp)
      obtain ⟨c1, c2, c3⟩ := m1_bd b0
      obtain ⟨g1, g2, g3⟩ := m1_bd e0
      have hb : m1 (d + m) * m1 b ≤ 59 * 40 := mul_bd (by omega) (by omega) (by omega) (by omega)
      have hpos : 1 * 1 ≤ m1 (d + m) * m1 b := Int.mul_le_mul a1 c1 (by omega) (by omega)
      have hall : m1 (d + m) * m1 b * m1 c ≤ 65536 := by
        by_cases hc0 : c = 0
        · have : m1 c = 1 := by rw [hc0]; rfl
          rw [this]; omega
        · by_cases hb0 : b = 0
          · have h1 : m1 b = 1 := by rw [hb0]; rfl
            rw [h1, Int.mul_one]
            have := mul_bd (a := m1 (d + m)) (b := m1 c) (A := 59) (B := 40) (by omega) (by omega) (by omega) (by omega)
            omega
          · by_cases hd0 : d = 0
            · have h1 : m1 (d + m) ≤ 19 := by unfold m1; split <;> omega
              have h2 : m1 (d + m) * m1 b ≤ 19 * 40 := mul_bd (by omega) h1 (by omega) (by omega)
              have h3 := mul_bd (a := m1 (d + m) * m1 b) (b := m1 c) (A := 19 * 40) (B := 40) (by omega) h2 (by omega) (by omega)
              omega
            · have e1 : m1 b = b := by unfold m1; rw [if_neg hb0]
              have e2 : m1 c = c := by unfold m1; rw [if_neg hc0]
              have e3 : m1 (d + m) = d + m := by unfold m1; rw [if_neg (by omega)]
              rw [e1, e2, e3]
              simp only [prodA, hd0, hb0, hc0, if_false, Int.one_mul] at hs
              rw [Int.mul_assoc] at hs ⊢
              have he : 1 * 1 ≤ b * c := Int.mul_le_mul (by omega) (by omega) (by omega) (by omega)
              generalize b * c = e at *
              have h5 : 1 * e ≤ d * e := Int.mul_le_mul_of_nonneg_right (by omega) (by omega)
              have h6 : m * e ≤ 19 * 300 := mul_bd hm.1 hm.2 (by omega) (by omega)
              rw [Int.add_mul]
              omega
      refine rg_cons (by omega) (by omega) (by rw [Int.one_mul]; omega) ?_
      rw [Int.one_mul]
      refine rg_cons (by omega) b0 (by omega) ?_
      exact rg_cons (by omega) e0 hall rfl
    | _ :: _ :: _ :: _, hl, _, _, _ => simp at hl
  simp only [shapeRight, Bool.and_eq_true, decide_eq_true_eq]
  exact ⟨by simp only [List.length_cons] at hl ⊢; omega, key⟩
theorem rows_fr {d m : Int} {r : List Int} (hr : rightGo 1 (d :: r) = true) (hm : 0 ≤ m) : FrOk (leadV (d :: r) ((d + m) :: r).length) ((d + m) :: r) := by
  have e : leadV (d :: r) ((d + m) :: r).length = d :: r := by
    have : ((d + m) :: r).length = (d :: r).length := by simp
    rw [this, leadV_self]
  rw [e]
  refine ⟨by simp, fun j hj => ?_⟩
  have hd := rightGo_nonneg _ 1 hr
  cases j with
  | zero => have := hd d (by simp); simp only [List.getD_cons_zero]; omega
  | succ j =>
    have hj' : j < r.length := by simpa using hj
    have := (hd (r.getD j 0) (by simp [List.getD, hj'])).1
    simp only [List.getD_cons_succ]
    omega
theorem keeps_rows {kx d m : Int} {r nx : List Int} (h : rightV (.mk kx (d :: r) nx []) = 0) (hk3 : kx ≠ 3) (ht : shapeRight ((d + m) :: r) = true) (hm : 0 ≤ m) :
    ∃ q, padR (.mk kx (d :: r) nx []) ((d + m) :: r) = (.mk kx ((d + m) :: r) (nx ++ List.replicate q (padN kx)) [], 0) ∧ nx.length + q ≤ 65536 := by
  obtain ⟨hk, h8, hr, hn3, _⟩ := right_parts h
  obtain ⟨hb, _⟩ := right_inv h
  have hd := (rightGo_nonneg _ 1 hr d (by simp)).1
  have hnl := (hn3 hk3).2
  have hP := padL_rows (fun i => nx.getD i 0) (padN kx) d (d + m) r ht hd (by omega)
  rw [← hnl, Int.toNat_natCast, range_getD] at hP
  obtain ⟨q, hq⟩ : ∃ q, (shapeSize ((d + m) :: r)).toNat - nx.length = q := ⟨_, rfl⟩
  rw [hq] at hP
  have hlen := padL_len (fun i => nx.getD i 0) (padN kx) (d :: r) ((d + m) :: r)
  rw [hP, List.length_append, List.length_replicate] at hlen
  have hsz := shapeSize_hi ((d + m) :: r)
  have hg := shapeRight_go ht
  have h0 : 0 ≤ shapeSize ((d + m) :: r) := by rw [size_prodA hg.1 hg.2]; exact prodA_nonneg _ 1 (by omega) hg.1
  have hpv : padV (.mk kx (d :: r) nx []) ((d + m) :: r) = .mk kx ((d + m) :: r) (nx ++ List.replicate q (padN kx)) [] := by
    simp only [padV, if_neg hk3]
    have e : leadV (d :: r) ((d + m) :: r).length = d :: r := by
      have : ((d + m) :: r).length = (d :: r).length := by simp
      rw [this, leadV_self]
    rw [e, hP]
  have hrv : rightV (.mk kx ((d + m) :: r) (nx ++ List.replicate q (padN kx)) []) = 0 := by
    refine right_mk hk ht (fun _ => ⟨rfl, ?_⟩) (fun h => absurd h hk3) ?_ (d := 0) (w := ((nx ++ List.replicate q (padN kx)).length : Int) + (([] : List Arr).length : Int)) (by rw [itemsV]) (by omega) ?_
    · rw [List.length_append, List.length_replicate]; omega
    · rw [List.any_append, hb, Bool.false_or, List.any_eq_false]
      intro x hx
      rw [List.eq_of_mem_replicate hx]
      rcases hk with rfl | rfl | rfl
      · simp [badNum, padN, isNum]
      · simp [badNum, padN, isChr]
      · exact absurd rfl hk3
    · rw [List.length_append, List.length_replicate, List.length_nil]; omega
  refine ⟨q, ?_, by omega⟩
  unfold padR
  rw [hpv, if_pos hrv]
theorem few_len {kx : Int} {s nx : List Int} {m : Int} (h : fewV (.mk kx s nx []) m = true) (hl : nx.length ≤ 65536) : (nx.length : Int) ≤ m := by
  simp only [fewV, Bool.and_eq_true, decide_eq_true_eq] at h
  have := h.2
  rw [cntV, cntGo] at this
  rw [IntWalk.i64_in _ (by simp; omega)] at this
  simpa using this
end Go.Proofs.Ytmpjnjhiklaofaa
