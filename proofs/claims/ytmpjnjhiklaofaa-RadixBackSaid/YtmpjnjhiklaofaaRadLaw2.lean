/-
  PLAIN LAWS of law27 at vectors and numbers: what the statements meet.
-/
import Derived.Test.YtmpjnjhiklaofaaRadLaw
namespace Go.Proofs.Ytmpjnjhiklaofaa
set_option linter.unusedSimpArgs false
set_option linter.unusedVariables false
open Go.RowKit

theorem shape1 {n : Nat} (h : n ≤ 65536) : shapeRight [(n : Int)] = true ∧ shapeSize [(n : Int)] = n := by
  have hg : rightGo 1 [(n : Int)] = true := by
    simp only [rightGo]
    rw [if_neg (by omega)]
    split
    · rfl
    · rw [if_neg (by omega)]
  refine ⟨by simp [shapeRight, hg], ?_⟩
  unfold shapeSize
  rw [if_pos (by simp [shapeRight, hg]), ← prodA_volOf]
  simp only [prodA]
  split <;> omega
theorem shape0 : shapeSize [] = 1 := by decide
theorem num_right {n : Int} (h : NumB n) : rightV (numV n) = 0 := by
  unfold rightV numV
  rw [visitV]
  have hf : formV (.mk 1 [] [n] []) = 0 := by
    unfold formV formOf
    simp [shape0, isNeg, shapeRight, rightGo]
  rw [if_neg (by rw [hf]; simp)]
  have hb : ¬ [n].any (badNum 1) = true := by
    simp [badNum, h.is]
  rw [if_neg hb, itemsV]
  simp
theorem vec_num {l : List Int} (h8 : l.length ≤ 65536) (hl : ∀ a ∈ l, NumB a) : rightV (vecV l) = 0 := vec_right2 h8 hl
theorem err_num {l : List Int} {n : Int} (h8 : l.length ≤ 65536) (hl : ∀ a ∈ l, NumB a) (hn : NumB n) : radErr (vecV l) (numV n) = 0 := by
  have h1 := vec_num h8 hl
  have h2 := num_right hn
  unfold vecV numV at *
  rw [radErr, if_neg (by rw [h1, h2]; simp), if_neg (by simp), if_neg (by simp)]
theorem err_vec {l t : List Int} (h8 : l.length ≤ 65536) (hl : ∀ a ∈ l, NumB a) (h9 : t.length ≤ 65536) (ht : ∀ a ∈ t, NumB a) : radErr (vecV l) (vecV t) = 0 := by
  have h1 := vec_num h8 hl
  have h2 := vec_num h9 ht
  unfold vecV at *
  rw [radErr, if_neg (by rw [h1, h2]; simp), if_neg (by simp), if_neg (by simp)]
theorem noneg {l : List Int} (h : ∀ a ∈ l, 0 ≤ a) : ¬ l.any isNeg = true := by
  rw [Bool.not_eq_true, List.any_eq_false]
  intro x hx
  have := h x hx
  simp [isNeg]; omega
theorem enc_num {l : List Int} {n : Int} (h8 : l.length ≤ 65536) (hl : RadOk l) (hn : NumB n) : encV (vecV l) (numV n) = (vecV (dig l n).1, 0) := by
  have he := err_num h8 (fun a ha => ⟨by have := (hl a ha).1; omega, (hl a ha).2⟩) hn
  unfold encV
  rw [if_neg (by rw [he]; simp)]
  unfold vecV numV
  show (if l.any isNeg = true then _ else if shapeRight ([(l.length : Int)] ++ []) = true then _ else _) = _
  rw [if_neg (noneg fun a ha => (hl a ha).1), List.append_nil, if_pos (shape1 h8).1, encN_one, dig_len]
theorem enc_vec {l t : List Int} (h8 : l.length ≤ 20) (hl : RadOk l) (h9 : t.length ≤ 40) (ht : ∀ a ∈ t, NumB a) : encV (vecV l) (vecV t) = (.mk 1 [(l.length : Int), (t.length : Int)] (encN l t) [], 0) := by
  have he := err_vec (by omega) (fun a ha => ⟨by have := (hl a ha).1; omega, (hl a ha).2⟩) (show t.length ≤ 65536 by omega) ht
  unfold encV
  rw [if_neg (by rw [he]; simp)]
  unfold vecV
  show (if l.any isNeg = true then _ else if shapeRight ([(l.length : Int)] ++ [(t.length : Int)]) = true then _ else _) = _
  have hs : shapeRight ([(l.length : Int)] ++ [(t.length : Int)]) = true := by
    have hm : (l.length : Int) * (t.length : Int) ≤ 20 * 40 := Int.mul_le_mul (by omega) (by omega) (by omega) (by omega)
    simp only [shapeRight, List.cons_append, List.nil_append, List.length_cons, List.length_nil, rightGo]
    rw [if_neg (by omega)]
    split
    · rw [if_neg (by omega)]
      split
      · rfl
      · rw [if_neg (by omega)]; rfl
    · rw [if_neg (by omega), if_neg (by omega)]
      split
      · rfl
      · rw [if_neg (by rw [Int.one_mul]; omega)]; rfl
  rw [if_neg (noneg fun a ha => (hl a ha).1), if_pos hs]
  rfl
/-- One value. -/
theorem dec_one {l t : List Int} {v : Int} (h8 : l.length ≤ 65536) (hl : ∀ a ∈ l, NumB a) (ht : ∀ a ∈ t, NumB a) (he : l.length = t.length) (hv : valGo l t 0 1 t.length 0 0 = (v, 0)) : decV (vecV l) (vecV t) = (numV v, 0) := by
  have hE := err_vec h8 hl (show t.length ≤ 65536 by omega) ht
  unfold decV
  rw [if_neg (by rw [hE]; simp)]
  unfold vecV
  have hS : decS [(t.length : Int)] = [(t.length : Int)] := rfl
  simp only [hS, List.tail_cons, List.getD_cons_zero, shape0, Int.toNat_natCast]
  rw [if_neg (by omega)]
  have hd : decGo l t 1 t.length 1 0 [] = ([v], 0) := by
    rw [decGo, hv]; simp [decGo]
  show (if (decGo l t 1 t.length 1 0 []).2 ≠ 0 then _ else _) = _
  rw [hd]
  simp [numV]
  exact congrArg Prod.fst hd
theorem dig_ok {l : List Int} {n : Int} (hl : RadOk l) (hn : NumB n) : ∀ a ∈ (dig l n).1, NumB a := (dig_num l n hl hn).2
/-- Decoding the digits of n: n modulo the product. -/
theorem dec_enc {l : List Int} {n : Int} (h8 : l.length ≤ 65536) (h1 : ∀ r ∈ l, 1 ≤ r) (hl : RadOk l) (hp : prodL l ≤ 4611686018427387903) (hn : NumB n) : decV (vecV l) (vecV (dig l n).1) = (numV (n % prodL l), 0) := by
  have hpos := prodL_pos l h1
  have hm := Int.emod_lt_of_pos n (show 0 < prodL l by omega)
  refine dec_one h8 (fun a ha => ⟨by have := (hl a ha).1; omega, (hl a ha).2⟩) (dig_ok hl hn) (dig_len l n).symm ?_
  rw [valGo_ls l _ (dig_len l n).symm _ 0 0 (by rw [dig_len]; omega), List.drop_zero, List.drop_zero, valLs_dig l n 0 h1 (by omega) (by omega)]
  simp
/-- With a leading zero: n itself. -/
theorem dec_enc0 {l : List Int} {n : Int} (h8 : l.length + 1 ≤ 65536) (h1 : ∀ r ∈ l, 1 ≤ r) (hl : RadOk l) (hn : NumB n) (h0 : 0 ≤ n) : decV (vecV (0 :: l)) (vecV (dig (0 :: l) n).1) = (numV n, 0) := by
  have hpos := prodL_pos l h1
  have hl0 : RadOk (0 :: l) := fun r hr => by
    rcases List.mem_cons.1 hr with rfl | hr
    · omega
    · exact hl r hr
  refine dec_one (by simpa using h8) (fun a ha => ⟨by have := (hl0 a ha).1; omega, (hl0 a ha).2⟩) (dig_ok hl0 hn) (dig_len _ n).symm ?_
  rw [valGo_ls _ _ (dig_len _ n).symm _ 0 0 (by rw [dig_len]; omega), List.drop_zero, List.drop_zero, dig, if_pos rfl]
  have hq := dig_quot l n h1
  have hm0 : 0 ≤ n / prodL l := Int.ediv_nonneg h0 (by omega)
  have hme := Int.mul_ediv_add_emod n (prodL l)
  have hmb := Int.emod_nonneg n (show prodL l ≠ 0 by omega)
  have hme' : n / prodL l * prodL l + n % prodL l = n := by rw [Int.mul_comm]; exact hme
  have hle : n / prodL l ≤ n := Int.ediv_le_self _ h0
  obtain ⟨n1, n2⟩ := hn
  show valLs (0 :: l) ((dig l n).2 :: (dig l n).1) 0 = _
  rw [hq, valLs, Int.zero_mul, if_pos (by decide), Int.zero_add, if_pos (isNum_of ⟨by omega, by omega⟩), valLs_dig l n _ h1 hm0 (by omega), hme']
end Go.Proofs.Ytmpjnjhiklaofaa
