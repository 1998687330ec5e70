/-
  PLAIN LAWS of law06: the order is antisymmetric, transitive, and zero only at equal arrays.
-/
import Derived.Test.YtgkemmdghmklfaaOrdB
namespace Go.Proofs.Ytgkemmdghmklfaa
set_option linter.unusedSimpArgs false
set_option linter.unusedVariables false
open Go.RowKit

/-! ### Exchanged -/
theorem firstNZ_neg {f g : Nat → Int} (h : ∀ k, g k = -f k) : ∀ m k, firstNZ g m k = -firstNZ f m k
  | 0, _ => by simp [firstNZ]
  | m + 1, k => by
    rw [firstNZ, firstNZ, h k]
    by_cases hz : f k = 0
    · rw [if_neg (by omega), if_neg (by omega)]
      exact firstNZ_neg h m (k + 1)
    · rw [if_pos (by omega), if_pos hz]
theorem contG_neg {l1 l2 : Nat → Nat → Int} (h : ∀ i j, l2 j i = -l1 i j) : ∀ (s t : List Int) (i j : Nat), s.length = t.length → contG l2 t s j i = -contG l1 s t i j
  | [], [], i, j, _ => h i j
  | [], _ :: _, _, _, hl => by simp at hl
  | _ :: _, [], _, _, hl => by simp at hl
  | d :: s, e :: t, i, j, hl => by
    rw [contG, contG]
    show (if firstNZ (fun k => contG l2 t s (j + k * volN t) (i + k * volN s)) (min e d).toNat 0 ≠ 0 then firstNZ (fun k => contG l2 t s (j + k * volN t) (i + k * volN s)) (min e d).toNat 0 else sgn e d) =
      -(if firstNZ (fun k => contG l1 s t (i + k * volN s) (j + k * volN t)) (min d e).toNat 0 ≠ 0 then firstNZ (fun k => contG l1 s t (i + k * volN s) (j + k * volN t)) (min d e).toNat 0 else sgn d e)
    rw [show min e d = min d e by omega, firstNZ_neg (f := fun k => contG l1 s t (i + k * volN s) (j + k * volN t)) (fun k => contG_neg h s t _ _ (by simpa using hl)), sgn_swap]
    generalize firstNZ (fun k => contG l1 s t (i + k * volN s) (j + k * volN t)) (min d e).toNat 0 = z
    by_cases hz : z = 0
    · rw [if_neg (by omega), if_neg (by omega)]
    · rw [if_pos (by omega), if_pos hz]
theorem lexV_neg : ∀ (s t : List Int), lexV t s = -lexV s t
  | [], [] => by simp [lexV]
  | [], _ :: _ => by simp [lexV]
  | _ :: _, [] => by simp [lexV]
  | a :: s, b :: t => by
    rw [lexV, lexV, sgn_swap a b, lexV_neg s t]
    generalize sgn a b = z
    by_cases hz : z = 0
    · rw [if_neg (by omega), if_neg (by omega)]
    · rw [if_pos (by omega), if_pos hz]
theorem contA_neg {f : Arr → Arr → Int} (h : ∀ x y, f y x = -f x y) (x y : Arr) : contA f y x = -contA f x y := by
  obtain ⟨k, s, n, it⟩ := x
  obtain ⟨k', s', n', it'⟩ := y
  rw [contA, contA]
  by_cases hc : k ≠ k' ∨ s.length ≠ s'.length
  · rw [if_pos hc, if_pos (by rcases hc with h | h; exact .inl (fun e => h e.symm); exact .inr (fun e => h e.symm))]; rfl
  · rw [if_neg hc, if_neg (by omega)]
    refine contG_neg (fun i j => ?_) s s' 0 0 (by omega)
    have hk : k' = k := by omega
    subst hk
    by_cases h3 : k' = 3
    · rw [if_pos h3, if_pos h3]; exact h _ _
    · rw [if_neg h3, if_neg h3]; exact sgn_swap _ _
theorem cmp_key (a b : Int) (p q : Nat) (c d : Int) : (if a ≠ b then sgn a b else if p ≠ q then sgn (p : Int) (q : Int) else if c ≠ 0 then c else d) = if sgn a b ≠ 0 then sgn a b else if sgn (p : Int) (q : Int) ≠ 0 then sgn (p : Int) (q : Int) else if c ≠ 0 then c else d := by
  by_cases e1 : a = b
  · subst e1
    by_cases e2 : p = q
    · subst e2
      simp only [sgn_eq, ne_eq, not_true_eq_false, if_false]
    · have e3 : ¬ sgn (p : Int) (q : Int) = 0 := fun h => e2 (by have := sgn_zero.1 h; omega)
      simp only [sgn_eq, ne_eq, not_true_eq_false, if_false, e2, e3, not_false_eq_true, if_true]
  · have e3 : ¬ sgn a b = 0 := fun h => e1 (sgn_zero.1 h)
    simp only [ne_eq, e1, e3, not_false_eq_true, if_true]
theorem comb_neg (a b : Int) : (if -a ≠ 0 then -a else -b) = -(if a ≠ 0 then a else b) := by
  by_cases h : a = 0
  · subst h; simp
  · have h2 : ¬ -a = 0 := by omega
    simp only [ne_eq, h, h2, not_false_eq_true, if_true]
theorem cmpF_neg : ∀ (m : Nat) (x y : Arr), cmpF m y x = -cmpF m x y
  | 0, _, _ => by simp [cmpF]
  | m + 1, .mk k s n it, .mk k' s' n' it' => by
    rw [cmpF, cmpF, cmp_key, cmp_key, sgn_swap k k', sgn_swap (s.length : Int) (s'.length : Int), contA_neg (cmpF_neg m) (.mk k s n it) (.mk k' s' n' it'), lexV_neg s s', comb_neg, comb_neg, comb_neg]
theorem cmpF_self (m : Nat) (x : Arr) : cmpF m x x = 0 := by have := cmpF_neg m x x; omega

/-! ### Zero -/
theorem firstNZ_all {f : Nat → Int} : ∀ (m k : Nat), firstNZ f m k = 0 → ∀ q, k ≤ q → q < k + m → f q = 0
  | 0, _, _, q, h1, h2 => by omega
  | m + 1, k, h, q, h1, h2 => by
    rw [firstNZ] at h
    by_cases hz : f k = 0
    · rw [if_neg (by omega)] at h
      by_cases hq : q = k
      · rw [hq]; exact hz
      · exact firstNZ_all m (k + 1) h q (by omega) (by omega)
    · rw [if_pos hz] at h; exact absurd h hz
theorem contG_zero {l : Nat → Nat → Int} : ∀ (s : List Int) (i j : Nat), rightGo 1 s = true → s.length ≤ 8 → contG l s s i j = 0 → ∀ r, r < volN s → l (i + r) (j + r) = 0
  | [], i, j, _, _, h, r, hr => by
    rw [vol_nil] at hr
    have : r = 0 := by omega
    subst this
    exact h
  | d :: s, i, j, hg, h8, h, r, hr => by
    obtain ⟨h1, h2, h3, h4, h5⟩ := size_cons hg h8
    have hv : volN (d :: s) = d.toNat * volN s := by unfold volN; rw [h1, Int.toNat_mul h2 h4]
    rw [hv] at hr
    rw [contG] at h
    have h : (if firstNZ (fun k => contG l s s (i + k * volN s) (j + k * volN s)) (min d d).toNat 0 ≠ 0 then firstNZ (fun k => contG l s s (i + k * volN s) (j + k * volN s)) (min d d).toNat 0 else sgn d d) = 0 := h
    rw [show min d d = d by omega] at h
    by_cases hz : firstNZ (fun k => contG l s s (i + k * volN s) (j + k * volN s)) d.toNat 0 = 0
    · have hp : 0 < volN s := by
        rcases Nat.eq_zero_or_pos (volN s) with h0 | h0
        · rw [h0] at hr; omega
        · exact h0
      have hq : r / volN s < d.toNat := Nat.div_lt_of_lt_mul (by rw [Nat.mul_comm]; exact hr)
      have hc := firstNZ_all _ _ hz (r / volN s) (Nat.zero_le _) (by rw [Nat.zero_add]; exact hq)
      have h9 := contG_zero s _ _ (rightGo_tail hg) (by simp at h8; omega) hc (r % volN s) (Nat.mod_lt _ hp)
      have hd := Nat.div_add_mod r (volN s)
      rw [Nat.mul_comm] at hd
      have e1 : i + r = i + r / volN s * volN s + r % volN s := by
        generalize r / volN s * volN s = z at *
        generalize r % volN s = y at *
        omega
      have e2 : j + r = j + r / volN s * volN s + r % volN s := by
        generalize r / volN s * volN s = z at *
        generalize r % volN s = y at *
        omega
      rw [e1, e2]
      exact h9
    · rw [if_pos hz] at h; exact absurd h hz
theorem lexV_zero : ∀ (s t : List Int), lexV s t = 0 → s = t
  | [], [], _ => rfl
  | [], _ :: _, h => by simp [lexV] at h
  | _ :: _, [], h => by simp [lexV] at h
  | a :: s, b :: t, h => by
    rw [lexV] at h
    by_cases hz : sgn a b = 0
    · rw [if_neg (by omega)] at h
      rw [sgn_zero.1 hz, lexV_zero s t h]
    · rw [if_pos hz] at h; exact absurd h hz
theorem list_eq_getD {l t : List Int} (h : l.length = t.length) (hv : ∀ r, r < l.length → l.getD r 0 = t.getD r 0) : l = t := by
  apply List.ext_getElem h
  intro i h1 h2
  have := hv i h1
  simpa [List.getD, h1, h2] using this
theorem items_eq_getD {l t : List Arr} (h : l.length = t.length) (hv : ∀ r, r < l.length → l.getD r default = t.getD r default) : l = t := by
  apply List.ext_getElem h
  intro i h1 h2
  have := hv i h1
  simpa [List.getD, h1, h2] using this
theorem cmpF_zero : ∀ (m : Nat) (x y : Arr), szA x < m → rightV x = 0 → rightV y = 0 → cmpF m x y = 0 → x = y
  | 0, _, _, h, _, _, _ => by omega
  | m + 1, .mk k s n it, .mk k' s' n' it', hm, hx, hy, h => by
    rw [cmpF] at h
    by_cases h1 : k = k'
    · subst h1
      rw [if_neg (by simp)] at h
      by_cases h2 : s.length = s'.length
      · rw [if_neg (by simp [h2])] at h
        by_cases hz : contA (cmpF m) (.mk k s n it) (.mk k s' n' it') = 0
        · rw [if_neg (by omega)] at h
          have hs := lexV_zero s s' h
          subst hs
          rw [contA, if_neg (by simp)] at hz
          obtain ⟨x1, x2, x3, x4, x5⟩ := right_parts hx
          obtain ⟨y1, y2, y3, y4, y5⟩ := right_parts hy
          have hall := contG_zero s 0 0 x3 x2 hz
          obtain ⟨v1, _⟩ := right_vol hx
          obtain ⟨v2, _⟩ := right_vol hy
          by_cases hk : k = 3
          · rw [if_pos hk] at v1 v2
            have hn := (x5 hk).1
            have hn' := (y5 hk).1
            have hit : it = it' := items_eq_getD (by omega) fun r hr => by
              have h9 := hall r (by omega)
              rw [if_pos hk, Nat.zero_add] at h9
              have m1 : it.getD r default ∈ it := by simp [List.getD, hr]
              have m2 : it'.getD r default ∈ it' := by simp [List.getD, show r < it'.length by omega]
              have hsz := szA_item (k := k) (s := s) (n := n) m1
              exact cmpF_zero m _ _ (by omega) (right_items hx _ m1) (right_items hy _ m2) h9
            rw [hn, hn', hit]
          · rw [if_neg hk] at v1 v2
            have hi := (x4 hk).1
            have hi' := (y4 hk).1
            have hnn : n = n' := list_eq_getD (by omega) fun r hr => by
              have h9 := hall r (by omega)
              rw [if_neg hk, Nat.zero_add] at h9
              exact sgn_zero.1 h9
            rw [hi, hi', hnn]
        · rw [if_pos hz] at h; exact absurd h hz
      · rw [if_pos h2] at h
        have := sgn_zero.1 h
        omega
    · rw [if_pos h1] at h
      exact absurd (sgn_zero.1 h) h1

/-! ### Three -/
def T3 (a b c : Int) : Prop := (a ≤ 0 → b ≤ 0 → c ≤ 0) ∧ (a ≤ 0 → b < 0 → c < 0) ∧ (a < 0 → b ≤ 0 → c < 0) ∧ (0 ≤ a → 0 ≤ b → 0 ≤ c) ∧ (0 ≤ a → 0 < b → 0 < c) ∧ (0 < a → 0 ≤ b → 0 < c)
theorem T3.zero {a b c : Int} (h : T3 a b c) (ha : a = 0) (hb : b = 0) : c = 0 := by unfold T3 at h; omega
theorem T3.comb {a b c a2 b2 c2 : Int} (h : T3 a b c) (h2 : a = 0 → b = 0 → T3 a2 b2 c2) : T3 (if a ≠ 0 then a else a2) (if b ≠ 0 then b else b2) (if c ≠ 0 then c else c2) := by
  by_cases ha : a = 0
  · by_cases hb : b = 0
    · have hc := h.zero ha hb
      rw [if_neg (by omega), if_neg (by omega), if_neg (by omega)]
      exact h2 ha hb
    · rw [if_neg (by omega), if_pos hb]
      unfold T3 at h ⊢
      have hc : c ≠ 0 := by omega
      rw [if_pos hc]
      omega
  · rw [if_pos ha]
    by_cases hb : b = 0
    · rw [if_neg (by omega)]
      unfold T3 at h ⊢
      have hc : c ≠ 0 := by omega
      rw [if_pos hc]
      omega
    · rw [if_pos hb]
      unfold T3 at h ⊢
      by_cases hc : c = 0
      · rw [if_neg (by omega)]; omega
      · rw [if_pos hc]; omega
theorem sgn_t3 (a b c : Int) : T3 (sgn a b) (sgn b c) (sgn a c) := by
  have e : ∀ x y : Int, (x < y ∧ sgn x y = -1) ∨ (x = y ∧ sgn x y = 0) ∨ (y < x ∧ sgn x y = 1) := fun x y => by
    rcases Int.lt_trichotomy x y with h | h | h
    · exact .inl ⟨h, sgn_lt h⟩
    · exact .inr (.inl ⟨h, by rw [h, sgn_eq]⟩)
    · exact .inr (.inr ⟨h, sgn_gt h⟩)
  have h1 := e a b
  have h2 := e b c
  have h3 := e a c
  unfold T3
  omega
theorem lexV_t3 : ∀ (s t u : List Int), T3 (lexV s t) (lexV t u) (lexV s u)
  | [], [], [] => by simp [lexV, T3]
  | [], [], _ :: _ => by simp [lexV, T3]
  | [], _ :: _, [] => by simp [lexV, T3]
  | _ :: _, [], [] => by simp [lexV, T3]
  | _ :: _, [], _ :: _ => by
    simp only [lexV, T3]; omega
  | [], b :: t, c :: u => by
    simp only [lexV, T3]; omega
  | a :: s, b :: t, [] => by
    simp only [lexV, T3]; omega
  | a :: s, b :: t, c :: u => by
    rw [lexV, lexV, lexV]
    exact (sgn_t3 a b c).comb fun _ _ => lexV_t3 s t u
/-- From place k on: the first that differs, then the lengths. -/
def seqV (g : Nat → Int) (d e : Int) (k : Nat) : Int := if firstNZ g ((min d e).toNat - k) k ≠ 0 then firstNZ g ((min d e).toNat - k) k else sgn d e
theorem seqV_in {g : Nat → Int} {d e : Int} {k : Nat} (h1 : (k : Int) < d) (h2 : (k : Int) < e) : seqV g d e k = if g k ≠ 0 then g k else seqV g d e (k + 1) := by
  unfold seqV
  rw [show (min d e).toNat - k = ((min d e).toNat - (k + 1)) + 1 by omega, firstNZ]
  by_cases hz : g k = 0
  · simp only [hz, ne_eq, not_true_eq_false, if_false]
  · simp only [ne_eq, hz, not_false_eq_true, if_true]
theorem seqV_out {g : Nat → Int} {d e : Int} {k : Nat} (h : d ≤ k ∨ e ≤ k) : seqV g d e k = sgn d e := by
  unfold seqV
  rw [show (min d e).toNat - k = 0 by omega, firstNZ, if_neg (by simp)]
theorem seqV_t3 {g1 g2 g3 : Nat → Int} {d e h : Int} (hg : ∀ q, T3 (g1 q) (g2 q) (g3 q)) : ∀ (n k : Nat), (max d (max e h)).toNat - k ≤ n → T3 (seqV g1 d e k) (seqV g2 e h k) (seqV g3 d h k) := by
  intro n
  induction n with
  | zero =>
    intro k hk
    rw [seqV_out (by omega), seqV_out (by omega), seqV_out (by omega)]
    exact sgn_t3 d e h
  | succ n ih =>
    intro k hk
    by_cases c1 : (k : Int) < d
    · by_cases c2 : (k : Int) < e
      · by_cases c3 : (k : Int) < h
        · rw [seqV_in c1 c2, seqV_in c2 c3, seqV_in c1 c3]
          exact (hg k).comb fun _ _ => ih (k + 1) (by omega)
        · rw [seqV_out (g := g2) (by omega), seqV_out (g := g3) (by omega), sgn_gt (show h < e by omega), sgn_gt (show h < d by omega)]
          unfold T3; omega
      · by_cases c3 : (k : Int) < h
        · rw [seqV_out (g := g1) (by omega), seqV_out (g := g2) (by omega), sgn_gt (show e < d by omega), sgn_lt (show e < h by omega)]
          unfold T3; omega
        · rw [seqV_out (g := g1) (by omega), seqV_out (g := g2) (by omega), seqV_out (g := g3) (by omega)]
          exact sgn_t3 d e h
    · by_cases c2 : (k : Int) < e
      · by_cases c3 : (k : Int) < h
        · rw [seqV_out (g := g1) (by omega), seqV_out (g := g3) (by omega), sgn_lt (show d < e by omega), sgn_lt (show d < h by omega)]
          unfold T3; omega
        · rw [seqV_out (g := g1) (by omega), seqV_out (g := g2) (by omega), seqV_out (g := g3) (by omega)]
          exact sgn_t3 d e h
      · rw [seqV_out (g := g1) (by omega), seqV_out (g := g2) (by omega), seqV_out (g := g3) (by omega)]
        exact sgn_t3 d e h
theorem contG_t3 {l1 l2 l3 : Nat → Nat → Int} (h : ∀ i j l, T3 (l1 i j) (l2 j l) (l3 i l)) : ∀ (s t u : List Int) (i j l : Nat), s.length = t.length → t.length = u.length → T3 (contG l1 s t i j) (contG l2 t u j l) (contG l3 s u i l)
  | [], [], [], i, j, l, _, _ => h i j l
  | [], [], _ :: _, _, _, _, _, hl => by simp at hl
  | [], _ :: _, _, _, _, _, hl, _ => by simp at hl
  | _ :: _, [], _, _, _, _, hl, _ => by simp at hl
  | _ :: _, _ :: _, [], _, _, _, _, hl => by simp at hl
  | d :: s, e :: t, f :: u, i, j, l, h1, h2 => by
    have := seqV_t3 (g1 := fun k => contG l1 s t (i + k * volN s) (j + k * volN t)) (g2 := fun k => contG l2 t u (j + k * volN t) (l + k * volN u)) (g3 := fun k => contG l3 s u (i + k * volN s) (l + k * volN u)) (d := d) (e := e) (h := f) (fun q => contG_t3 h s t u _ _ _ (by simpa using h1) (by simpa using h2)) _ 0 (Nat.le_refl _)
    rw [contG, contG, contG]
    unfold seqV at this
    simp only [Nat.sub_zero] at this
    exact this
theorem cmpF_t3 : ∀ (m : Nat) (x y z : Arr), T3 (cmpF m x y) (cmpF m y z) (cmpF m x z)
  | 0, _, _, _ => by simp [cmpF, T3]
  | m + 1, .mk k s n it, .mk k' s' n' it', .mk k2 s2 n2 it2 => by
    rw [cmpF, cmpF, cmpF, cmp_key, cmp_key, cmp_key]
    refine (sgn_t3 k k' k2).comb fun a1 a2 => (sgn_t3 (s.length : Int) s'.length s2.length).comb fun b1 b2 => ?_
    have e1 := sgn_zero.1 a1
    have e2 := sgn_zero.1 a2
    have e3 : s.length = s'.length := by have := sgn_zero.1 b1; omega
    have e4 : s'.length = s2.length := by have := sgn_zero.1 b2; omega
    subst e1 e2
    refine T3.comb ?_ fun _ _ => lexV_t3 s s' s2
    rw [contA, contA, contA, if_neg (by simp [e3]), if_neg (by simp [e4]), if_neg (by simp [e3, e4])]
    refine contG_t3 (fun i j l => ?_) s s' s2 0 0 0 e3 e4
    by_cases h3 : k = 3
    · rw [if_pos h3, if_pos h3, if_pos h3]; exact cmpF_t3 m _ _ _
    · rw [if_neg h3, if_neg h3, if_neg h3]; exact sgn_t3 _ _ _
end Go.Proofs.Ytgkemmdghmklfaa
