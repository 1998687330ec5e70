/-
  PLAIN LAWS of law27: what Encode and Decode compute; there and back; columns.
-/
import Derived.Test.YtmpjnjhiklaofaaRad3
namespace Go.Proofs.Ytmpjnjhiklaofaa
set_option linter.unusedSimpArgs false
set_option linter.unusedVariables false
open Go.RowKit

def encN (nx ny : List Int) : List Int := (List.range nx.length).flatMap fun i => ny.map fun n => (dig nx n).1.getD i 0
def encV (x y : Arr) : Arr × Int :=
  if radErr x y ≠ 0 then (Arr.zero, radErr x y) else
  match x, y with
  | .mk _ sx nx _, .mk _ sy ny _ => if nx.any isNeg = true then (Arr.zero, 17) else if shapeRight (sx ++ sy) = true then (.mk 1 (sx ++ sy) (encN nx ny) [], 0) else (Arr.zero, 21)
def decS (s : List Int) : List Int := if s.length = 0 then [1] else s
/-- The values from place a on, with out so far. -/
def decGo (nx ny : List Int) (step count : Nat) : Nat → Nat → List Int → List Int × Int
  | 0, _, out => (out, 0)
  | m + 1, a, out => if (valGo nx ny a step count 0 0).2 ≠ 0 then ([], (valGo nx ny a step count 0 0).2) else decGo nx ny step count m (a + 1) (out ++ [(valGo nx ny a step count 0 0).1])
def decV (x y : Arr) : Arr × Int :=
  if radErr x y ≠ 0 then (Arr.zero, radErr x y) else
  match x, y with
  | .mk _ sx nx _, .mk _ sy ny _ =>
    if sx.length = 1 ∧ nx.length ≠ 1 ∧ (nx.length : Int) ≠ (decS sy).getD 0 0 then (Arr.zero, 16) else
    if (decGo nx ny (shapeSize (decS sy).tail).toNat ((decS sy).getD 0 0).toNat (shapeSize (decS sy).tail).toNat 0 []).2 ≠ 0 then (Arr.zero, (decGo nx ny (shapeSize (decS sy).tail).toNat ((decS sy).getD 0 0).toNat (shapeSize (decS sy).tail).toNat 0 []).2)
    else (.mk 1 (decS sy).tail (decGo nx ny (shapeSize (decS sy).tail).toNat ((decS sy).getD 0 0).toNat (shapeSize (decS sy).tail).toNat 0 []).1 [], 0)

/-! ### There and back -/
def prodL : List Int → Int
  | [] => 1
  | r :: l => r * prodL l
theorem prodL_pos : ∀ (l : List Int), (∀ r ∈ l, 1 ≤ r) → 1 ≤ prodL l
  | [], _ => by simp [prodL]
  | r :: l, h => by
    have h1 := h r (by simp)
    have h2 := prodL_pos l fun x hx => h x (by simp [hx])
    rw [prodL]
    have := Int.mul_le_mul h1 h2 (by omega) (by omega)
    omega
theorem dig_quot : ∀ (l : List Int) (n : Int), (∀ r ∈ l, 1 ≤ r) → (dig l n).2 = n / prodL l
  | [], n, _ => by simp [dig, prodL]
  | r :: l, n, h => by
    have h1 := h r (by simp)
    have hl : ∀ x ∈ l, 1 ≤ x := fun x hx => h x (by simp [hx])
    have h2 := prodL_pos l hl
    rw [dig, if_neg (by omega), prodL, dig_quot l n hl]
    show n / prodL l / r = _
    rw [Int.ediv_ediv_of_nonneg (by omega), Int.mul_comm]
theorem mod_two (n p r : Int) (hp : 0 < p) (hr : 0 < r) : n % (r * p) = (n / p % r) * p + n % p := by
  have e1 := Int.mul_ediv_add_emod n p
  have e2 := Int.mul_ediv_add_emod (n / p) r
  have b1 := Int.emod_nonneg n (show p ≠ 0 by omega)
  have b2 := Int.emod_lt_of_pos n hp
  have b3 := Int.emod_nonneg (n / p) (show r ≠ 0 by omega)
  have b4 := Int.emod_lt_of_pos (n / p) hr
  generalize n % p = x at *
  generalize n / p % r = y at *
  generalize hq : n / p / r = q at *
  generalize n / p = m at *
  have hn : n = (r * p) * q + (y * p + x) := by
    rw [← e1, ← e2]
    rw [Int.mul_add, Int.mul_comm p y, ← Int.mul_assoc, Int.mul_comm p r]
    omega
  have hb : y * p + x < r * p := by
    have : (y + 1) * p ≤ r * p := Int.mul_le_mul_of_nonneg_right (by omega) (by omega)
    rw [Int.add_mul] at this
    omega
  have hb0 : 0 ≤ y * p + x := by
    have := Int.mul_nonneg b3 (show 0 ≤ p by omega)
    omega
  exact ((Int.ediv_emod_unique (a := n) (q := q) (r := y * p + x) (Int.mul_pos hr hp)).2 ⟨by omega, hb0, hb⟩).2

/-- The value, digit by digit. -/
def valLs : List Int → List Int → Int → Int × Int
  | r :: l, d :: ds, v => if isNum (v * r) = true then if isNum (v * r + d) = true then valLs l ds (v * r + d) else (0, 19) else (0, 19)
  | _, _, v => (v, 0)
theorem valGo_ls (nx ny : List Int) (hl : nx.length = ny.length) : ∀ (m i : Nat) (v : Int), m + i = nx.length → valGo nx ny 0 1 m i v = valLs (nx.drop i) (ny.drop i) v
  | 0, i, v, h => by
    rw [valGo, List.drop_of_length_le (by omega), valLs]
    simp
  | m + 1, i, v, h => by
    rw [valGo, drop_getD (show i < nx.length by omega), drop_getD (show i < ny.length by omega), valLs, show min i (nx.length - 1) = i by omega, show 0 + i * 1 = i by omega, valGo_ls nx ny hl m (i + 1) _ (by omega)]
theorem isNum_of {n : Int} (h : NumB n) : isNum n = true := h.is
theorem valLs_dig : ∀ (l : List Int) (n v : Int), (∀ r ∈ l, 1 ≤ r) → 0 ≤ v → v * prodL l + n % prodL l ≤ 4611686018427387903 → valLs l (dig l n).1 v = (v * prodL l + n % prodL l, 0)
  | [], n, v, _, _, _ => by simp [dig, valLs, prodL, Int.emod_one]
  | r :: l, n, v, h, hv, hb => by
    have h1 := h r (by simp)
    have hl : ∀ x ∈ l, 1 ≤ x := fun x hx => h x (by simp [hx])
    have h2 := prodL_pos l hl
    have hq := dig_quot l n hl
    rw [prodL] at hb ⊢
    rw [dig, if_neg (by omega), hq]
    have hm := mod_two n (prodL l) r (by omega) (by omega)
    rw [hm] at hb ⊢
    show valLs (r :: l) (n / prodL l % r :: (dig l n).1) v = _
    have b0 := Int.emod_nonneg n (show prodL l ≠ 0 by omega)
    have b3 := Int.emod_nonneg (n / prodL l) (show r ≠ 0 by omega)
    have hvr : 0 ≤ v * r := Int.mul_nonneg hv (by omega)
    generalize n / prodL l % r = d at *
    have e : v * (r * prodL l) + (d * prodL l + n % prodL l) = (v * r + d) * prodL l + n % prodL l := by
      rw [Int.add_mul, Int.mul_assoc]; omega
    rw [e] at hb ⊢
    have hle : v * r + d ≤ (v * r + d) * prodL l := by
      have := Int.mul_le_mul_of_nonneg_left h2 (show 0 ≤ v * r + d by omega)
      omega
    rw [valLs, if_pos (isNum_of ⟨by omega, by omega⟩), if_pos (isNum_of ⟨by omega, by omega⟩)]
    exact valLs_dig l n _ hl (by omega) hb
/-- Each digit is less than its radix. -/
theorem dig_lt : ∀ (l : List Int) (n : Int), (∀ r ∈ l, 1 ≤ r) → ∀ i, i < l.length → 0 ≤ (dig l n).1.getD i 0 ∧ (dig l n).1.getD i 0 < l.getD i 0
  | r :: l, n, h, i, hi => by
    have h1 := h r (by simp)
    rw [dig, if_neg (by omega)]
    cases i with
    | zero => exact ⟨by simpa using Int.emod_nonneg _ (by omega), by simpa using Int.emod_lt_of_pos _ (by omega)⟩
    | succ i => simpa using dig_lt l n (fun x hx => h x (by simp [hx])) i (by simpa using hi)

/-! ### Columns -/
theorem encN_one (nx : List Int) (n : Int) : encN nx [n] = (dig nx n).1 := by
  unfold encN
  have hl := dig_len nx n
  simp only [List.map_cons, List.map_nil]
  rw [← hl]
  generalize (dig nx n).1 = l
  induction l with
  | nil => rfl
  | cons a l ih =>
    rw [List.length_cons, List.range_succ_eq_map, List.flatMap_cons, List.flatMap_map]
    simp only [List.getD_cons_zero, List.getD_cons_succ]
    rw [ih]; rfl
theorem flat_len (k m : Nat) (f : Nat → List Int) (hf : ∀ i, (f i).length = m) : ((List.range k).flatMap f).length = k * m := by
  induction k with
  | zero => simp
  | succ k ih => rw [List.range_succ, List.flatMap_append, List.length_append, ih]; simp [hf, Nat.succ_mul]
theorem encN_len (nx ny : List Int) : (encN nx ny).length = nx.length * ny.length := flat_len _ _ _ fun i => by simp
theorem flat_getD (m : Nat) (f : Nat → List Int) (hf : ∀ i, (f i).length = m) {i j : Nat} (hj : j < m) : ∀ (k : Nat), i < k → ((List.range k).flatMap f).getD (i * m + j) 0 = (f i).getD j 0
  | 0, h => by omega
  | k + 1, hk => by
    have hlen := flat_len k m f hf
    rw [List.range_succ, List.flatMap_append]
    by_cases h : i < k
    · have hlt : i * m + j < k * m := by
        have : (i + 1) * m ≤ k * m := Nat.mul_le_mul_right _ h
        rw [Nat.succ_mul] at this
        omega
      rw [← flat_getD m f hf hj k h]
      simp only [List.getD]
      rw [List.getElem?_append_left (by omega)]
    · have : i = k := by omega
      subst this
      simp only [List.getD]
      rw [List.getElem?_append_right (by omega), hlen, show i * m + j - i * m = j by omega]
      simp
theorem encN_getD (nx ny : List Int) {i j : Nat} (hi : i < nx.length) (hj : j < ny.length) : (encN nx ny).getD (i * ny.length + j) 0 = (dig nx (ny.getD j 0)).1.getD i 0 := by
  have := flat_getD ny.length (fun i => ny.map fun n => (dig nx n).1.getD i 0) (fun i => by simp) hj nx.length hi
  rw [encN, this]
  simp [List.getD, hj]
end Go.Proofs.Ytmpjnjhiklaofaa
