/-
  THE WALK of order.Sorted over whatever list of arrays, up to 65536: the stable order, or none if an array is not right.
-/
import Derived.Test.YtgkemmdghmklfaaSymC
import Derived.Test.YtgkemmdghmklfaaSorted
import Derived.Test.YtgkemmdghmklfaaOrdLaw
namespace Go.Proofs.Ytgkemmdghmklfaa
set_option linter.unusedSimpArgs false
set_option linter.unusedVariables false
open Go.RowKit

/-- Where the halves part: all that stands ahead is before all that stands behind. -/
theorem symC_low {cf : Int → Int → Int} (h : POrd cf) {X1 X2 Y1 Y2 : List Int} {x y : Int} (hx : Srt cf (X1 ++ [x])) (hy : Srt cf (y :: Y2)) (hxy : Bef cf id x y) : ∀ a ∈ X1 ++ [x], ∀ b ∈ y :: Y2, Bef cf id a b := by
  intro a ha b hb
  have h1 : a = x ∨ Bef cf id a x := by
    rcases List.mem_append.1 ha with ha | ha
    · exact .inr ((List.pairwise_append.1 hx).2.2 a ha x (by simp))
    · exact .inl (by simpa using ha)
  have h2 : b = y ∨ Bef cf id y b := by
    rcases List.mem_cons.1 hb with rfl | hb
    · exact .inl rfl
    · exact .inr ((List.pairwise_cons.1 hy).1 b hb)
  rcases h1 with rfl | h1 <;> rcases h2 with rfl | h2
  · exact hxy
  · exact hxy.trans h h2
  · exact h1.trans h hxy
  · exact (h1.trans h hxy).trans h h2
theorem split_last {X : List Int} (h : 0 < X.length) : X = X.take (X.length - 1) ++ [X.getD (X.length - 1) 0] := by
  have hne : X ≠ [] := fun e => by rw [e] at h; simp at h
  have e := (List.dropLast_concat_getLast hne).symm
  have e2 : X.getLast hne = X.getD (X.length - 1) 0 := by rw [List.getLast_eq_getElem]; simp [List.getD, show X.length - 1 < X.length by omega]
  rw [e2, List.dropLast_eq_take] at e
  exact e
theorem split_head {X : List Int} (h : 0 < X.length) : X = X.getD 0 0 :: X.drop 1 := by
  cases X with
  | nil => simp at h
  | cons x r => simp [List.getD]
theorem bef_halves {cf : Int → Int → Int} (h : POrd cf) {X1 Y2 : List Int} (hx : Srt cf X1) (hy : Srt cf Y2) (hk : X1 = [] ∨ Y2 = [] ∨ Bef cf id (X1.getD (X1.length - 1) 0) (Y2.getD 0 0)) : ∀ a ∈ X1, ∀ b ∈ Y2, Bef cf id a b := by
  intro a ha b hb
  have l1 : 0 < X1.length := List.length_pos_of_mem ha
  have l2 : 0 < Y2.length := List.length_pos_of_mem hb
  rcases hk with hk | hk | hk
  · rw [hk] at ha; simp at ha
  · rw [hk] at hb; simp at hb
  · have e1 := split_last l1
    have e2 := split_head l2
    exact symC_low h (X1 := X1.take (X1.length - 1)) (X2 := []) (Y1 := []) (Y2 := Y2.drop 1) (by rw [← e1]; exact hx) (by rw [← e2]; exact hy) hk a (by rw [← e1]; exact ha) b (by rw [← e2]; exact hb)

set_option maxHeartbeats 8000000 in
theorem sym_any (cf : Int → Int → Int) (h : POrd cf) (wB : World) (lv : Value) (N : Int)
    (hcmp : ∀ (w' : World) (x y : Int), Ext wB w' → 0 ≤ x → x < N → 0 ≤ y → y < N → Calls Try.prog 102 #[lv, .int .i64 x, .int .i64 y] w' fun e w'' => e = .returned (.int .i64 (cf x y)) ∧ Ext w' w'') (g n c : Nat) (hn : n ≤ 65536) :
    ∀ (k : Nat) (P X Y S : List Int) (a m b : Nat) (w : World), b - a ≤ k → OwnI wB.heap.size (fun _ => False) w (.slice (some ⟨g, 0, none⟩) n c) n (P ++ (X ++ (Y ++ S))) → Ext wB w → (∀ x ∈ P ++ (X ++ (Y ++ S)), 0 ≤ x ∧ x < N) → P.length = a → a + X.length = m → m + Y.length = b → 0 < X.length → 0 < Y.length → Srt cf X → Srt cf Y → Low X Y →
    Calls Try.prog 164 #[.slice (some ⟨g, 0, none⟩) n c, .int .i64 (a : Int), .int .i64 (m : Int), .int .i64 (b : Int), .func (.func 102) #[lv] #[]] w fun e w' => e = .returned (.tuple #[]) ∧ OwnI wB.heap.size (fun _ => False) w' (.slice (some ⟨g, 0, none⟩) n c) n (P ++ (mrg cf X Y ++ S)) ∧ Ext wB w'
  | 0, P, X, Y, S, a, m, b, w, hk, _, _, _, ha, hm, hb, hX, hY, _, _, _ => by omega
  | k + 1, P, X, Y, S, a, m, b, w, hk, hO, hE, hok, ha, hm, hb, hX, hY, hsx, hsy, hl => by
    have hlen := hO.1
    simp only [List.length_append] at hlen
    by_cases hX1 : X.length = 1
    · obtain ⟨x0, rfl⟩ := List.length_eq_one_iff.1 hX1
      exact symA_any cf h wB lv N hcmp P Y S x0 g n c a m b w hO hE hok ha (by simpa using hm) hb hY hsy hl hn
    by_cases hY1 : Y.length = 1
    · obtain ⟨y0, rfl⟩ := List.length_eq_one_iff.1 hY1
      exact symB_any cf h wB lv N hcmp P X S y0 g n c a m b w hO hE hok ha hm (by simpa using hb) (by omega) hsx hl hn
    obtain ⟨mid, hmid⟩ : ∃ mid, mid = (a + b) / 2 := ⟨_, rfl⟩
    obtain ⟨s0, r0, hsr⟩ : ∃ s0 r0, (mid < m ∧ s0 + b = mid + m ∧ r0 = mid) ∨ (m ≤ mid ∧ s0 = a ∧ r0 = m) := by
      by_cases hd : mid < m
      · exact ⟨mid + m - b, mid, .inl ⟨hd, by omega, rfl⟩⟩
      · exact ⟨a, m, .inr ⟨by omega, rfl, rfl⟩⟩
    refine symC_walk cf wB lv N hcmp _ _ g n c a m b mid s0 r0 (mid + m - 1) w hO hE hok (by omega) (by omega) (by omega) hn hmid (by omega) hsr ?_
    intro s hs1 hs2 h3 h4 e he
    have hsa : a ≤ s := by omega
    have hsm : s ≤ m := by omega
    have hem : m ≤ e := by omega
    have heb : e ≤ b := by omega
    have gX : ∀ q, a ≤ q → q < m → (P ++ (X ++ (Y ++ S))).getD q 0 = X.getD (q - a) 0 := fun q q1 q2 => by
      rw [getD_in P (by omega) (by omega), ha]
    have gY : ∀ q, m ≤ q → q < b → (P ++ (X ++ (Y ++ S))).getD q 0 = Y.getD (q - m) 0 := fun q q1 q2 => by
      have e1 : P ++ (X ++ (Y ++ S)) = (P ++ X) ++ (Y ++ S) := by simp
      rw [e1, getD_in (P ++ X) (by simp; omega) (by simp; omega)]
      simp [ha, hm]
    obtain ⟨X1, X2, hXe, hX1l, hX2l⟩ : ∃ X1 X2, X = X1 ++ X2 ∧ X1.length = s - a ∧ X2.length = m - s := ⟨X.take (s - a), X.drop (s - a), (List.take_append_drop _ _).symm, by simp; omega, by simp; omega⟩
    obtain ⟨Y1, Y2, hYe, hY1l, hY2l⟩ : ∃ Y1 Y2, Y = Y1 ++ Y2 ∧ Y1.length = e - m ∧ Y2.length = b - e := ⟨Y.take (e - m), Y.drop (e - m), (List.take_append_drop _ _).symm, by simp; omega, by simp; omega⟩
    have nX1 : s = a → X1 = [] := fun q => List.length_eq_zero_iff.1 (by omega)
    have nX2 : s = m → X2 = [] := fun q => List.length_eq_zero_iff.1 (by omega)
    have nY1 : e = m → Y1 = [] := fun q => List.length_eq_zero_iff.1 (by omega)
    have nY2 : e = b → Y2 = [] := fun q => List.length_eq_zero_iff.1 (by omega)
    have hX1g : ∀ q, q < X1.length → X.getD q 0 = X1.getD q 0 := fun q hq => by rw [hXe]; simp [List.getD, List.getElem?_append, hq]
    have hX2g : ∀ q, X.getD (X1.length + q) 0 = X2.getD q 0 := fun q => by rw [hXe]; simp [List.getD, List.getElem?_append, show ¬ X1.length + q < X1.length by omega]
    have hY1g : ∀ q, q < Y1.length → Y.getD q 0 = Y1.getD q 0 := fun q hq => by rw [hYe]; simp [List.getD, List.getElem?_append, hq]
    have hY2g : ∀ q, Y.getD (Y1.length + q) 0 = Y2.getD q 0 := fun q => by rw [hYe]; simp [List.getD, List.getElem?_append, show ¬ Y1.length + q < Y1.length by omega]
    subst hXe
    subst hYe
    have px := List.pairwise_append.1 hsx
    have py := List.pairwise_append.1 hsy
    have B1 : ∀ x ∈ X1, ∀ y ∈ Y2, Bef cf id x y := by
      refine bef_halves h px.1 py.2.1 ?_
      by_cases q1 : s = a
      · exact .inl (nX1 q1)
      by_cases q2 : e = b
      · exact .inr (.inl (nY2 q2))
      refine .inr (.inr ?_)
      have h3' : 0 ≤ cf ((P ++ (X1 ++ X2 ++ (Y1 ++ Y2 ++ S))).getD (mid + m - 1 - (s - 1)) 0) ((P ++ (X1 ++ X2 ++ (Y1 ++ Y2 ++ S))).getD (s - 1) 0) := by
        rcases h3 with h3 | h3
        · omega
        · exact h3
      rw [show mid + m - 1 - (s - 1) = e by omega, gY e (by omega) (by omega), gX (s - 1) (by omega) (by omega), show e - m = Y1.length + 0 by omega, hY2g, show s - 1 - a = X1.length - 1 by omega, hX1g _ (by omega)] at h3'
      refine bef_of_le (by have := h.neg (Y2.getD 0 0) (X1.getD (X1.length - 1) 0); omega) (hl _ ?_ _ ?_)
      · exact List.mem_append_left _ (by simp [List.getD, show X1.length - 1 < X1.length by omega])
      · exact List.mem_append_right _ (by simp [List.getD, show 0 < Y2.length by omega])
    have B2 : ∀ y ∈ Y1, ∀ x ∈ X2, Bef cf id y x := by
      refine bef_halves h py.1 px.2.1 ?_
      by_cases q1 : e = m
      · exact .inl (nY1 q1)
      by_cases q2 : s = m
      · exact .inr (.inl (nX2 q2))
      refine .inr (.inr ?_)
      have h4' : cf ((P ++ (X1 ++ X2 ++ (Y1 ++ Y2 ++ S))).getD (mid + m - 1 - s) 0) ((P ++ (X1 ++ X2 ++ (Y1 ++ Y2 ++ S))).getD s 0) < 0 := by
        rcases h4 with h4 | h4
        · omega
        · exact h4
      rw [show mid + m - 1 - s = e - 1 by omega, gY (e - 1) (by omega) (by omega), gX s (by omega) (by omega), show s - a = X1.length + 0 by omega, hX2g, show e - 1 - m = Y1.length - 1 by omega, hY1g _ (by omega)] at h4'
      exact .inl h4'
    have hR : mrg cf (X1 ++ X2) (Y1 ++ Y2) = mrg cf X1 Y1 ++ mrg cf X2 Y2 := (mrg_halves h hsx hsy hl B1 B2).symm
    rw [hR]
    clear hR hX1g hX2g hY1g hY2g gX gY h3 h4
    have hok1 : ∀ Z : List Int, Z.Perm (P ++ (X1 ++ X2 ++ (Y1 ++ Y2 ++ S))) → ∀ x ∈ Z, 0 ≤ x ∧ x < N := fun Z hZ x hx => hok x (hZ.mem_iff.1 hx)
    have p1 : (P ++ (X1 ++ (Y1 ++ (X2 ++ (Y2 ++ S))))).Perm (P ++ (X1 ++ X2 ++ (Y1 ++ Y2 ++ S))) := by
      rw [List.append_assoc X1 X2, List.append_assoc Y1 Y2]
      refine List.Perm.append_left P (List.Perm.append_left X1 ?_)
      rw [← List.append_assoc, ← List.append_assoc X2]
      exact List.Perm.append_right _ List.perm_append_comm
    have p2 : (P ++ (mrg cf X1 Y1 ++ (X2 ++ (Y2 ++ S)))).Perm (P ++ (X1 ++ X2 ++ (Y1 ++ Y2 ++ S))) := by
      refine List.Perm.trans ?_ p1
      refine List.Perm.append_left P ?_
      rw [← List.append_assoc X1]
      exact List.Perm.append_right _ (mrg_perm cf _ X1 Y1 (Nat.le_refl _))
    refine ⟨P ++ (X1 ++ (Y1 ++ (X2 ++ (Y2 ++ S)))), P ++ (mrg cf X1 Y1 ++ (X2 ++ (Y2 ++ S))), ⟨?_, ?_⟩, ⟨?_, ?_⟩, ⟨?_, ?_⟩⟩
    · rintro ⟨q1, q2⟩ w' hO' hE'
      have e1 : P ++ (X1 ++ X2 ++ (Y1 ++ Y2 ++ S)) = (P ++ X1) ++ (X2 ++ (Y1 ++ (Y2 ++ S))) := by simp
      have e2 : P ++ (X1 ++ (Y1 ++ (X2 ++ (Y2 ++ S)))) = (P ++ X1) ++ (Y1 ++ (X2 ++ (Y2 ++ S))) := by simp
      rw [e2]
      rw [e1] at hO'
      exact rotate_any wB _ (P ++ X1) X2 Y1 (Y2 ++ S) g n c s m e w' hO' hE' (by simp; omega) (by omega) (by omega) (by omega) (by omega) hn
    · intro q
      by_cases q1 : s = m
      · rw [nX2 q1]; simp
      · rw [nY1 (by omega)]; simp
    · rintro ⟨q1, q2⟩ w' hO' hE'
      exact sym_any cf h wB lv N hcmp g n c hn k P X1 Y1 (X2 ++ (Y2 ++ S)) a s mid w' (by omega) hO' hE' (hok1 _ p1) ha (by omega) (by omega) (by omega) (by omega) px.1 py.1 (fun x hx y hy => hl x (by simp [hx]) y (by simp [hy]))
    · intro q
      by_cases q1 : s = a
      · rw [nX1 q1, mrg_nil_l]; simp
      · rw [nY1 (by omega), mrg_nil_r]; simp
    · rintro ⟨q1, q2⟩ w' hO' hE'
      have e1 : P ++ (mrg cf X1 Y1 ++ (X2 ++ (Y2 ++ S))) = (P ++ mrg cf X1 Y1) ++ (X2 ++ (Y2 ++ S)) := by simp
      have e2 : P ++ (mrg cf X1 Y1 ++ mrg cf X2 Y2 ++ S) = (P ++ mrg cf X1 Y1) ++ (mrg cf X2 Y2 ++ S) := by simp
      rw [e2]
      rw [e1] at hO'
      exact sym_any cf h wB lv N hcmp g n c hn k (P ++ mrg cf X1 Y1) X2 Y2 S mid e b w' (by omega) hO' hE' (by rw [← e1]; exact hok1 _ p2) (by rw [List.length_append, mrg_length]; omega) (by omega) (by omega) (by omega) (by omega) px.2.1 py.2.1 (fun x hx y hy => hl x (by simp [hx]) y (by simp [hy]))
    · intro q
      by_cases q1 : e = b
      · rw [nY2 q1, mrg_nil_r]; simp
      · rw [nX2 (by omega), mrg_nil_l]; simp
end Go.Proofs.Ytgkemmdghmklfaa

namespace Go.Proofs.Ytgkemmdghmklfaa
set_option linter.unusedSimpArgs false
set_option linter.unusedVariables false
open Go.RowKit

theorem blkL_mem {c : Int → Int → Int} {s n : Nat} (hs : 0 < s) {x : Int} : ∀ (k p : Nat), n ≤ p + k → x ∈ blkL c s n p → (p : Int) ≤ x ∧ x < n
  | 0, p, h, hx => by rw [blkL_done c (by omega)] at hx; simp at hx
  | k + 1, p, h, hx => by
    by_cases hp : p < n
    · rw [blkL_step c hs hp] at hx
      rcases List.mem_append.1 hx with hx | hx
      · have := srtR_mem.1 hx; omega
      · have := blkL_mem hs k (p + s) (by omega) hx; omega
    · rw [blkL_done c (by omega)] at hx; simp at hx
theorem rng_self_ge {p q : Nat} (h : q ≤ p) : rng p q = [] := List.length_eq_zero_iff.1 (by rw [rng_length]; omega)
/-- A block more is in order. -/
theorem blk_ins {cf : Int → Int → Int} (h : POrd cf) {P L : List Int} {a n s : Nat} (hs : 0 < s) (hL : L = P ++ rng a n) (hP : P.length = a) (ha : a + s ≤ n) (he : P ++ blkL cf s n a = blkL cf s n 0) :
    insOut cf a (a + s - (a + 1)) (a + 1) L = (P ++ srtR cf a (a + s)) ++ rng (a + s) n ∧ (P ++ srtR cf a (a + s)) ++ blkL cf s n (a + s) = blkL cf s n 0 ∧ (P ++ srtR cf a (a + s)).length = a + s := by
  refine ⟨?_, ?_, ?_⟩
  · rw [hL, rng_split (show a ≤ a + s by omega) ha, ins_block h P (rng (a + s) n) hP (by omega), List.append_assoc]
  · rw [← he, blkL_step cf hs (show a < n by omega), Nat.min_eq_left ha, List.append_assoc]
  · rw [List.length_append, srtR_length]; omega
theorem blk_insL {cf : Int → Int → Int} (h : POrd cf) {P L : List Int} {a n s : Nat} (hs : 0 < s) (hL : L = P ++ rng a n) (hP : P.length = a) (ha : a ≤ n) (ha2 : n < a + s) (he : P ++ blkL cf s n a = blkL cf s n 0) :
    insOut cf a (n - (a + 1)) (a + 1) L = blkL cf s n 0 := by
  have h1 := ins_block h P [] hP ha
  simp only [List.append_nil] at h1
  rw [hL, h1, ← he, blkL_one cf hs (by omega)]

set_option maxRecDepth 1000000 in
set_option maxHeartbeats 16000000 in
theorem stableN_any (cf : Int → Int → Int) (h : POrd cf) (wB : World) (lv : Value)
    (g n c : Nat) (hcmp : ∀ (w' : World) (x y : Int), Ext wB w' → 0 ≤ x → x < n → 0 ≤ y → y < n → Calls Try.prog 102 #[lv, .int .i64 x, .int .i64 y] w' fun e w'' => e = .returned (.int .i64 (cf x y)) ∧ Ext w' w'')
    (w : World) (hO : OwnI wB.heap.size (fun _ => False) w (.slice (some ⟨g, 0, none⟩) n c) n (rng 0 n)) (hE : Ext wB w) (hn : n ≤ 65536) :
    Calls Try.prog 146 #[.slice (some ⟨g, 0, none⟩) n c, .int .i64 (n : Int), .func (.func 102) #[lv] #[]] w fun e w' => e = .returned (.tuple #[]) ∧ OwnI wB.heap.size (fun _ => False) w' (.slice (some ⟨g, 0, none⟩) n c) n (insAll cf n) ∧ Ext wB w' := by
  have HINS := Lib.hid (fun (L : List Int) (a b : Nat) (w' : World) (h1 : OwnI wB.heap.size (fun _ => False) w' (.slice (some ⟨g, 0, none⟩) n c) n L) (h2 : Ext wB w') (h3 : ∀ x ∈ L, 0 ≤ x ∧ x < (n : Int)) (h4 : a ≤ b) (h5 : b ≤ n) => inssort_any cf wB lv n hcmp L g n c a b w' h1 h2 h3 h4 h5 hn)
  have HSYM := Lib.hid (fun (P X Y S : List Int) (a m b : Nat) (w' : World) => sym_any cf h wB lv n hcmp g n c hn (b - a) P X Y S a m b w' (Nat.le_refl _))
  have HRNG : Hid (∀ x ∈ rng 0 n, 0 ≤ x ∧ x < (n : Int)) := fun x hx => by have := rng_mem.1 hx; omega
  have HO := Lib.hid hO
  have HE := Lib.hid hE
  have HP := Lib.hid h
  clear hcmp hO hE h
  go_enter Try.func146, Try.ntmps146
  go_wp2_with fail
  go_loopw [7, 8] (fun av bv wr => ∃ (a b : Nat) (P L : List Int), av = .int .i64 (a : Int) ∧ bv = .int .i64 (b : Int) ∧ b = a + 20 ∧ a ≤ n ∧ Hid (L = P ++ rng a n) ∧ Hid (P.length = a) ∧ Hid (P ++ blkL cf 20 n a = blkL cf 20 n 0) ∧ Hid (∀ x ∈ L, 0 ≤ x ∧ x < (n : Int)) ∧ OwnI wB.heap.size (fun _ => False) wr (.slice (some ⟨g, 0, none⟩) n c) n L ∧ Ext wB wr) (fun av _ _ => n - (intOf av).toNat)
  case atStart => exact ⟨0, 20, [], rng 0 n, rfl, rfl, rfl, Nat.zero_le _, Lib.hid rfl, Lib.hid rfl, Lib.hid rfl, HRNG, HO.out, HE.out⟩
  case round =>
  obtain ⟨a, b, P, L, rfl, rfl, hb, han, HL, HPL, HBL, HOK, hO, hE⟩ := hrel
  have w1 : IntKind.i64.wrap ((b : Int) + 20) = (b : Int) + 20 := IntWalk.i64_in _ (by omega)
  clear HO HE HRNG
  by_cases hbn : b ≤ n
  · have HC := Lib.hid (HINS.out L a b wr hO hE HOK.out (by omega) hbn)
    have HB := blk_ins HP.out (by omega) HL.out HPL.out (by rw [← hb]; exact hbn) HBL.out
    rw [← hb] at HB
    obtain ⟨k1, k2, k3⟩ := HB
    rw [k1] at HC
    have K2 := Lib.hid k2
    have K3 := Lib.hid k3
    have HOK2 : Hid (∀ x ∈ P ++ srtR cf a b ++ rng b n, 0 ≤ x ∧ x < (n : Int)) := fun x hx => by
      rcases List.mem_append.1 hx with hx | hx
      · rcases List.mem_append.1 hx with hx | hx
        · exact HOK.out x (by rw [HL.out]; exact List.mem_append_left _ hx)
        · have := srtR_mem.1 hx; omega
      · have := rng_mem.1 hx; omega
    obtain ⟨L2, hL2e⟩ : ∃ L2, L2 = P ++ srtR cf a b ++ rng b n := ⟨_, rfl⟩
    rw [← hL2e] at HC HOK2
    have HL2 := Lib.hid hL2e
    clear hL2e
    generalize P ++ srtR cf a b = P2 at *
    have HHB := Lib.hid hb
    clear k1 k2 k3 hb hO hE HL HPL HBL HOK
    go_wp2_with fail
    refine HC.out.mono ?_
    rintro e w2 ⟨rfl, hO, hE⟩
    have HO := Lib.hid hO
    have HE := Lib.hid hE
    clear hO hE HC
    go_wp2_with fail
    go_roundw
    case rel => exact ⟨b, b + 20, P2, L2, rfl, by go_num, rfl, hbn, Lib.hid HL2.out, K3, K2, HOK2, HO.out, HE.out⟩
    case measure => have := HHB.out; simp [intOf]; omega
  have HC := Lib.hid (HINS.out L a n wr hO hE HOK.out han (Nat.le_refl _))
  rw [blk_insL HP.out (show 0 < 20 by omega) HL.out HPL.out han (by omega) HBL.out] at HC
  clear hO hE HL HPL HBL HOK hb HINS w1
  go_wp2_with fail
  refine HC.out.mono ?_
  rintro e w2 ⟨rfl, hO, hE⟩
  have HO := Lib.hid hO
  have HE := Lib.hid hE
  clear hO hE HC han hbn
  go_wp2_with fail
  go_loopw [6, 7, 8, 9] (fun sv _ _ _ wr => ∃ (s : Nat), sv = .int .i64 (s : Int) ∧ 0 < s ∧ s ≤ 131072 ∧ OwnI wB.heap.size (fun _ => False) wr (.slice (some ⟨g, 0, none⟩) n c) n (blkL cf s n 0) ∧ Ext wB wr) (fun sv _ _ _ _ => n - (intOf sv).toNat)
  case atStart => exact ⟨20, rfl, by omega, by omega, HO.out, HE.out⟩
  case round =>
  obtain ⟨s, rfl, hs0, hs1, hO, hE⟩ := hrel
  clear HO HE
  by_cases hsn : s < n
  rotate_left
  · have hL : blkL cf s n 0 = insAll cf n := by rw [blkL_one cf hs0 (by omega), srtR_all HP.out]
    rw [hL] at hO
    have HO := Lib.hid hO
    have HE := Lib.hid hE
    clear hO hE hL
    go_wp2_with fail
    go_end0
    exact ⟨rfl, HO.out, HE.out⟩
  obtain ⟨t, ht⟩ : ∃ t, t = 2 * s := ⟨_, rfl⟩
  have m1 : (2 : Int) * (s : Int) = (t : Int) := by omega
  have m2 : (s : Int) * (2 : Int) = (t : Int) := by omega
  have m3 : IntKind.i64.wrap (t : Int) = (t : Int) := IntWalk.i64_in _ (by omega)
  have m4 : IntKind.i64.wrap ((2 : Int) * (s : Int)) = (t : Int) := by rw [m1]; exact m3
  have m5 : IntKind.i64.wrap ((s : Int) * (2 : Int)) = (t : Int) := by rw [m2]; exact m3
  have HT := Lib.hid ht
  have ht1 : t ≤ 131072 := by omega
  have hst : s < t := by omega
  have HO := Lib.hid hO
  have HE := Lib.hid hE
  obtain ⟨wo, rfl⟩ : ∃ wo : World, wo = wr := ⟨_, rfl⟩
  clear hO hE ht hs1
  go_wp2_with fail
  go_loopw [7, 8] (fun av bv wr => ∃ (a b : Nat) (P L : List Int), av = .int .i64 (a : Int) ∧ bv = .int .i64 (b : Int) ∧ b = a + t ∧ a ≤ n ∧ Hid (L = P ++ blkL cf s n a) ∧ Hid (P.length = a) ∧ Hid (P ++ blkL cf t n a = blkL cf t n 0) ∧ Hid (∀ x ∈ L, 0 ≤ x ∧ x < (n : Int)) ∧ OwnI wB.heap.size (fun _ => False) wr (.slice (some ⟨g, 0, none⟩) n c) n L ∧ Ext wB wr) (fun av _ _ => n - (intOf av).toNat)
  case atStart => exact ⟨0, t, [], blkL cf s n 0, rfl, rfl, by omega, Nat.zero_le _, Lib.hid rfl, Lib.hid rfl, Lib.hid rfl, Lib.hid (fun x hx => by have := blkL_mem hs0 n 0 (by omega) hx; omega), HO.out, HE.out⟩
  case round =>
  obtain ⟨a, b, P, L, rfl, rfl, hb, han, HL, HPL, HBL, HOK, hO, hE⟩ := hrel
  clear HO HE
  obtain ⟨m, hm⟩ : ∃ m, m = a + s := ⟨_, rfl⟩
  have v1 : (a : Int) + (s : Int) = (m : Int) := by omega
  have v2 : IntKind.i64.wrap (m : Int) = (m : Int) := IntWalk.i64_in _ (by omega)
  have v3 : IntKind.i64.wrap ((a : Int) + (s : Int)) = (m : Int) := by rw [v1]; exact v2
  have v4 : IntKind.i64.wrap ((b : Int) + (t : Int)) = (b : Int) + (t : Int) := IntWalk.i64_in _ (by omega)
  have ham : a ≤ m := by omega
  by_cases hbn : b ≤ n
  · have e2 := blkL_two cf (s := s) (n := n) (p := a) hs0 (by have := HT.out; omega)
    have hb2 : a + 2 * s = b := by have := HT.out; omega
    rw [hb2, ← hm, List.append_assoc] at e2
    have hL2 := HL.out
    rw [e2] at hL2
    have hO2 := hO
    rw [hL2] at hO2
    have hok2 := HOK.out
    rw [hL2] at hok2
    have HC := Lib.hid (HSYM.out P (srtR cf a m) (srtR cf m b) (blkL cf s n b) a m b wr hO2 hE hok2 HPL.out (by rw [srtR_length]; omega) (by rw [srtR_length]; omega) (by rw [srtR_length]; omega) (by rw [srtR_length]; omega) (srtR_srt HP.out a m) (srtR_srt HP.out m b) (srtR_low cf a m b))
    rw [srtR_merge HP.out ham (by omega), ← List.append_assoc] at HC
    have K2 : Hid ((P ++ srtR cf a b) ++ blkL cf t n b = blkL cf t n 0) := by
      unfold Hid
      rw [← HBL.out, blkL_step cf (show 0 < t by omega) (show a < n by omega), ← hb, Nat.min_eq_left hbn, List.append_assoc]
    have K3 : Hid ((P ++ srtR cf a b).length = b) := by
      unfold Hid
      rw [List.length_append, srtR_length]; have := HPL.out; omega
    have HOK2 : Hid (∀ x ∈ P ++ srtR cf a b ++ blkL cf s n b, 0 ≤ x ∧ x < (n : Int)) := fun x hx => by
      rcases List.mem_append.1 hx with hx | hx
      · rcases List.mem_append.1 hx with hx | hx
        · exact HOK.out x (by rw [HL.out]; exact List.mem_append_left _ hx)
        · have := srtR_mem.1 hx; omega
      · have := blkL_mem hs0 n b (by omega) hx; omega
    obtain ⟨L2, hL2e⟩ : ∃ L2, L2 = P ++ srtR cf a b ++ blkL cf s n b := ⟨_, rfl⟩
    rw [← hL2e] at HC HOK2
    have HL2 := Lib.hid hL2e
    clear hL2e
    generalize P ++ srtR cf a b = P2 at *
    have HHB := Lib.hid hb
    have HM := Lib.hid hm
    clear e2 hb2 hL2 hO2 hok2 hb hm hO hE HL HPL HBL HOK
    go_wp2_with fail
    refine HC.out.mono ?_
    rintro e w2 ⟨rfl, hO, hE⟩
    have HO := Lib.hid hO
    have HE := Lib.hid hE
    clear hO hE HC
    go_wp2_with fail
    go_roundw
    case rel => exact ⟨b, b + t, P2, L2, rfl, by go_num, rfl, hbn, Lib.hid HL2.out, K3, K2, HOK2, HO.out, HE.out⟩
    case measure => have := HHB.out; simp [intOf]; omega
  have hend : P ++ srtR cf a n = blkL cf t n 0 := by
    rw [← HBL.out, blkL_one cf (show 0 < t by omega) (by omega)]
  by_cases hmn : m < n
  · have e2 := blkL_last cf (s := s) (n := n) (p := a) hs0 (by omega) (by have := HT.out; omega)
    rw [← hm] at e2
    have hL2 : L = P ++ (srtR cf a m ++ (srtR cf m n ++ [])) := by rw [HL.out, e2]; simp
    have hO2 := hO
    rw [hL2] at hO2
    have hok2 := HOK.out
    rw [hL2] at hok2
    have HC := Lib.hid (HSYM.out P (srtR cf a m) (srtR cf m n) [] a m n wr hO2 hE hok2 HPL.out (by rw [srtR_length]; omega) (by rw [srtR_length]; omega) (by rw [srtR_length]; omega) (by rw [srtR_length]; omega) (srtR_srt HP.out a m) (srtR_srt HP.out m n) (srtR_low cf a m n))
    rw [srtR_merge HP.out ham (by omega), List.append_nil, hend] at HC
    clear e2 hL2 hO2 hok2 hb hm hO hE HL HPL HBL HOK hend v4
    go_wp2_with fail
    refine HC.out.mono ?_
    rintro e w2 ⟨rfl, hO, hE⟩
    have HO := Lib.hid hO
    have HE := Lib.hid hE
    clear hO hE HC
    go_wp2_with fail
    go_roundw
    case rel => exact ⟨t, rfl, by omega, ht1, HO.out, HE.out⟩
    case measure => simp [intOf]; omega
  have hL2 : L = blkL cf t n 0 := by
    rw [← hend, HL.out, blkL_one cf hs0 (by omega)]
  rw [hL2] at hO
  have HO := Lib.hid hO
  have HE := Lib.hid hE
  clear hL2 hb hm hO hE HL HPL HBL HOK hend v4
  go_wp2_with fail
  go_roundw
  case rel => exact ⟨t, rfl, by omega, ht1, HO.out, HE.out⟩
  case measure => simp [intOf]; omega

set_option maxRecDepth 1000000 in
set_option maxHeartbeats 8000000 in
theorem sortstableN_any (cf : Int → Int → Int) (h : POrd cf) (wB : World) (lv : Value)
    (g n c : Nat) (hcmp : ∀ (w' : World) (x y : Int), Ext wB w' → 0 ≤ x → x < n → 0 ≤ y → y < n → Calls Try.prog 102 #[lv, .int .i64 x, .int .i64 y] w' fun e w'' => e = .returned (.int .i64 (cf x y)) ∧ Ext w' w'')
    (w : World) (hO : OwnI wB.heap.size (fun _ => False) w (.slice (some ⟨g, 0, none⟩) n c) n (rng 0 n)) (hE : Ext wB w) (hn : n ≤ 65536) :
    Calls Try.prog 101 #[.slice (some ⟨g, 0, none⟩) n c, .func (.func 102) #[lv] #[]] w fun e w' => e = .returned (.tuple #[]) ∧ OwnI wB.heap.size (fun _ => False) w' (.slice (some ⟨g, 0, none⟩) n c) n (insAll cf n) ∧ Ext wB w' := by
  have HI := Lib.hid (stableN_any cf h wB lv g n c hcmp w hO hE hn)
  clear hcmp hO hE h
  go_enter Try.func101, Try.ntmps101
  go_wp2_with fail
  refine HI.out.mono ?_
  rintro e w2 ⟨rfl, hO, hE⟩
  have HO := Lib.hid hO
  have HE := Lib.hid hE
  clear hO hE HI
  go_wp2_with fail
  go_end0
  exact ⟨rfl, HO.out, HE.out⟩
end Go.Proofs.Ytgkemmdghmklfaa

namespace Go.Proofs.Ytgkemmdghmklfaa
set_option linter.unusedSimpArgs false
set_option linter.unusedVariables false
open Go.RowKit

/-- The comparison of two arrays by their indices, at fuel m. -/
def cmpM (m : Nat) (L : List Arr) (x y : Int) : Int := cmpF m (L.getD x.toNat default) (L.getD y.toNat default)
theorem cmpM_ord (m : Nat) (L : List Arr) : POrd (cmpM m L) := ⟨fun x y => cmpF_neg m _ _, fun x y z a b => (cmpF_t3 m _ _ _).1 a b⟩
/-- What Sorted returns. -/
def sortL (m : Nat) (L : List Arr) : List Int := if ∀ t ∈ L, rightV t = 0 then insAll (cmpM m L) L.length else []

set_option maxRecDepth 1000000 in
set_option maxHeartbeats 8000000 in
theorem lcomparem_any (m : Nat) (F : Nat → Prop) (p : Option Addr) (c : Nat) (L : List Arr) (w : World) (h : ItemsAt F w p 0 L) (hr : ∀ t ∈ L, rightV t = 0) (hm : ∀ t ∈ L, szA t < m) (hl : L.length ≤ 1759218604391) (x y : Int) (hx0 : 0 ≤ x) (hx1 : x < L.length) (hy0 : 0 ≤ y) (hy1 : y < L.length) :
    Calls Try.prog 102 #[.slice p L.length c, .int .i64 x, .int .i64 y] w fun e w' => e = .returned (.int .i64 (cmpM m L x y)) ∧ Ext w w' := by
  obtain ⟨i, rfl⟩ : ∃ i : Nat, x = i := ⟨x.toNat, by omega⟩
  obtain ⟨j, rfl⟩ : ∃ j : Nat, y = j := ⟨y.toNat, by omega⟩
  have hi : i < L.length := by omega
  have hj : j < L.length := by omega
  obtain ⟨ba, oa, c0, c1, c2, c3, rfl, k0, k1, k2, k3, hA⟩ := h.getD hi
  obtain ⟨bb, ob, d0, d1, d2, d3, e5, l0, l1, l2, l3, hB⟩ := h.getD hj
  cases e5
  have m1 : L.getD i default ∈ L := by simp [List.getD, hi]
  have m2 : L.getD j default ∈ L := by simp [List.getD, hj]
  have HC := Lib.hid (fun (w' : World) (e : Ext w w') => compare_any F F m (L.getD i default) (L.getD j default) _ _ _ _ _ _ _ _ w' (hm _ m1) (hA.ext e) (hB.ext e) (hr _ m1) (hr _ m2))
  have HV : Hid (cmpM m L (i : Int) (j : Int) = cmpF m (L.getD i default) (L.getD j default)) := by
    show _ = _
    unfold cmpM; simp
  generalize cmpF m (L.getD i default) (L.getD j default) = v at *
  generalize cmpM m L (i : Int) (j : Int) = v2 at *
  clear h hr hm hA hB m1 m2 hx0 hy0
  go_enter Try.func102, Try.ntmps102
  go_wp2_with fail
  have hS0 : (w.drew.cell? ⟨ba, oa + i * 4, none⟩ = some c0 ∧ w.drew.cell? ⟨ba, oa + i * 4 + 1, none⟩ = some c1 ∧ w.drew.cell? ⟨ba, oa + i * 4 + 2, none⟩ = some c2 ∧ w.drew.cell? ⟨ba, oa + i * 4 + 3, none⟩ = some c3) ∧
      (w.drew.cell? ⟨ba, oa + j * 4, none⟩ = some d0 ∧ w.drew.cell? ⟨ba, oa + j * 4 + 1, none⟩ = some d1 ∧ w.drew.cell? ⟨ba, oa + j * 4 + 2, none⟩ = some d2 ∧ w.drew.cell? ⟨ba, oa + j * 4 + 3, none⟩ = some d3) := ⟨⟨k0, k1, k2, k3⟩, ⟨l0, l1, l2, l3⟩⟩
  refine wp_region_g [0, 1, 2, 3, 4, 5, 6, 7] [8, 9] (fun w' => (w'.cell? ⟨ba, oa + i * 4, none⟩ = some c0 ∧ w'.cell? ⟨ba, oa + i * 4 + 1, none⟩ = some c1 ∧ w'.cell? ⟨ba, oa + i * 4 + 2, none⟩ = some c2 ∧ w'.cell? ⟨ba, oa + i * 4 + 3, none⟩ = some c3) ∧
      (w'.cell? ⟨ba, oa + j * 4, none⟩ = some d0 ∧ w'.cell? ⟨ba, oa + j * 4 + 1, none⟩ = some d1 ∧ w'.cell? ⟨ba, oa + j * 4 + 2, none⟩ = some d2 ∧ w'.cell? ⟨ba, oa + j * 4 + 3, none⟩ = some d3)) (by kernel_rfl) (by kernel_rfl) hS0 ?_
  clear k0 k1 k2 k3 l0 l1 l2 l3
  iterate 8
    refine wpHead_cons (v := ?_) rfl (by rfl) (fun w' hS => ?_) ?_
    rotate_left
    · obtain ⟨⟨k0, k1, k2, k3⟩, ⟨l0, l1, l2, l3⟩⟩ := hS
      go_simp
      try with_reducible rfl
    try simp only [Act.put, List.setIfInBounds_toArray, List.set]
  unfold wpHead
  refine wpTail_cons rfl (fun K hK => ?_)
  go_wp2_with fail
  refine (HC.out w.drew (Ext.refl _).drew).mono ?_
  rintro e w2 ⟨rfl, hE⟩
  have hE2 : Ext w w2 := (Ext.refl w).drew.trans hE
  go_wp2_with fail
  refine hK _ _ ⟨⟨hE.cell hS0.1.1, hE.cell hS0.1.2.1, hE.cell hS0.1.2.2.1, hE.cell hS0.1.2.2.2⟩, ⟨hE.cell hS0.2.1, hE.cell hS0.2.2.1, hE.cell hS0.2.2.2.1, hE.cell hS0.2.2.2.2⟩⟩ ?_
  try simp only [Act.put, List.setIfInBounds_toArray, List.set]
  refine wpTail_free1 rfl (by kernel_rfl) ?_
  clear hS0 hE HC
  go_wp2_with fail
  refine OnlyN.mk ?_
  (try simp only [Exit.inBlock, Exit.then])
  go_wp2_with fail
  go_ret
  exact ⟨ret_int HV.out.symm, hE2⟩

set_option maxRecDepth 1000000 in
set_option maxHeartbeats 8000000 in
theorem ins0_any (fv : Value) (w : World) : Calls Try.prog 163 #[.slice none 0 0, .int .i64 0, .int .i64 0, fv] w fun e w' => e = .returned (.tuple #[]) ∧ Ext w w' := by
  go_enter Try.func163, Try.ntmps163
  go_wp2_with fail
  go_loopw [8] (fun iv wr => iv = .int .i64 1 ∧ Ext w wr) (fun _ _ => 0)
  case atStart => exact ⟨rfl, Ext.refl _⟩
  case round =>
  obtain ⟨rfl, hE⟩ := hrel
  go_wp2_with fail
  go_end0
  exact ⟨rfl, hE⟩
set_option maxRecDepth 1000000 in
set_option maxHeartbeats 8000000 in
theorem stable0_any (fv : Value) (w : World) : Calls Try.prog 146 #[.slice none 0 0, .int .i64 0, fv] w fun e w' => e = .returned (.tuple #[]) ∧ Ext w w' := by
  go_enter Try.func146, Try.ntmps146
  go_wp2_with fail
  go_loopw [7, 8] (fun av bv wr => av = .int .i64 0 ∧ bv = .int .i64 20 ∧ Ext w wr) (fun av _ _ => 0)
  case atStart => exact ⟨rfl, rfl, Ext.refl _⟩
  case round =>
  obtain ⟨rfl, rfl, hE⟩ := hrel
  go_wp2_with fail
  refine (ins0_any _ _).mono ?_
  rintro e w2 ⟨rfl, hE2⟩
  have HE := Lib.hid (hE.trans hE2)
  clear hE hE2
  go_wp2_with fail
  go_loopw [6, 7, 8, 9] (fun sv _ _ _ wr => sv = .int .i64 20 ∧ Ext w wr) (fun _ _ _ _ _ => 0)
  case atStart => exact ⟨rfl, HE.out⟩
  case round =>
  obtain ⟨rfl, hE⟩ := hrel
  go_wp2_with fail
  go_end0
  exact ⟨rfl, hE⟩
set_option maxRecDepth 1000000 in
set_option maxHeartbeats 8000000 in
theorem sortstable0_any (fv : Value) (w : World) : Calls Try.prog 101 #[.slice none 0 0, fv] w fun e w' => e = .returned (.tuple #[]) ∧ Ext w w' := by
  go_enter Try.func101, Try.ntmps101
  go_wp2_with fail
  refine (stable0_any _ _).mono ?_
  rintro e w2 ⟨rfl, hE⟩
  go_wp2_with fail
  go_end0
  exact ⟨rfl, hE⟩

set_option maxRecDepth 1000000 in
set_option maxHeartbeats 8000000 in
theorem sortedN_any (m : Nat) (F : Nat → Prop) (p : Option Addr) (c : Nat) (L : List Arr) (w : World) (h : ItemsAt F w p 0 L) (hm : ∀ t ∈ L, szA t < m) (hl : L.length ≤ 65536) :
    Calls Try.prog 56 #[.slice p L.length c] w fun e w' => ∃ v, e = .returned v ∧ OwnI w.heap.size (fun _ => False) w' v (sortL m L).length (sortL m L) ∧ Ext w w' := by
  have H := Lib.hid h
  have HCMP := Lib.hid (fun (hr : ∀ t ∈ L, rightV t = 0) (w' : World) (x y : Int) (e : Ext w w') h1 h2 h3 h4 => lcomparem_any m F p c L w' (h.ext e) hr hm (by omega) x y h1 h2 h3 h4)
  obtain ⟨n, hn⟩ : ∃ n, n = L.length := ⟨_, rfl⟩
  have HSV : Hid (sortL m L = if ∀ t ∈ L, rightV t = 0 then insAll (cmpM m L) n else []) := by rw [hn]; rfl
  have HSN : Hid ((∃ t ∈ L, rightV t ≠ 0) → sortL m L = []) := fun ⟨t, h1, h2⟩ => if_neg fun h3 => h2 (h3 t h1)
  generalize sortL m L = sv at *
  rw [← hn] at hl ⊢
  have HN := Lib.hid hn
  clear h hn hm
  go_enter Try.func56, Try.ntmps56
  go_wp2_with fail
  go_loopw [3, 8] (fun ov iv wr => ∃ (k : Nat) (v : Value), k ≤ n ∧ v = ov ∧ iv = .int .i64 (k : Int) ∧ Hid (∀ j, j < k → rightV (L.getD j default) = 0) ∧ Hid (k = 0 → ov = .slice none 0 0) ∧ OwnI w.heap.size (fun _ => False) wr v k (idxN k) ∧ Ext w wr) (fun _ iv _ => n - (intOf iv).toNat)
  case atStart => exact ⟨0, _, Nat.zero_le _, rfl, rfl, fun j hj => by omega, fun _ => rfl, OwnI.nil _ _ _, Ext.refl _⟩
  case round =>
  obtain ⟨k, v, hk, rfl, rfl, HRK, HK0, hO, hE⟩ := hrel
  obtain ⟨pv, cv, rfl, hcv⟩ := hO.form
  by_cases hlt : k < n
  · have hkL : k < L.length := by rw [← HN.out]; exact hlt
    obtain ⟨ba, oa, c0, c1, c2, c3, rfl, k0, k1, k2, k3, hA⟩ := (H.out.ext hE).getD hkL
    obtain ⟨ka, ua, va, za, ub, vb, zb, uc, vc, zc, rfl, rfl, rfl, rfl⟩ := hA.form
    have hEb : Ext wr (wr.alloc (.cells #[.int .i64 ka, .slice ua va za, .slice ub vb zb, .slice uc vc zc] 26)) := (Ext.refl _).alloc _
    have HRG := Lib.hid (right_any F (L.getD k default) _ _ _ _ _ (hA.ext hEb))
    have HBAD := Lib.hid (fun (h : rightV (L.getD k default) ≠ 0) => HSN.out ⟨L.getD k default, by simp [List.getD, hkL], h⟩)
    have HRK2 := Lib.hid (fun (h : rightV (L.getD k default) = 0) (j : Nat) (hj : j < k + 1) => show rightV (L.getD j default) = 0 from by
      by_cases hjk : j = k
      · rw [hjk]; exact h
      · exact HRK.out j (by omega))
    have HO := Lib.hid hO
    have HE := Lib.hid hE
    have HEB := Lib.hid hEb
    generalize rightV (L.getD k default) = rk at *
    clear hA hO hE hEb
    by_cases hrk : rk = 0
    rotate_left
    · have hrk' : (rk != 0) = true := by simpa using hrk
      have hsv := HBAD.out hrk
      clear hrk HRK HRK2 HBAD HSN HSV
      go_wp2_with fail
      refine HRG.out.mono ?_
      rintro e w2 ⟨rfl, hE2⟩
      have hE3 := HE.out.trans (HEB.out.trans hE2)
      go_wp2_with fail
      go_ret
      refine ⟨_, rfl, ?_, hE3⟩
      rw [hsv]
      exact OwnI.nil _ _ _
    have hRK3 := HRK2.out hrk
    have HRK3 := Lib.hid hRK3
    subst hrk
    clear HRK HRK2 HBAD hRK3
    go_wp2_with fail
    refine HRG.out.mono ?_
    rintro e w2 ⟨rfl, hE2⟩
    have hE3 := HEB.out.trans hE2
    have hEn : Ext w2 (w2.alloc (.cells #[.int .i64 (k : Int)] 3)) := (Ext.refl _).alloc _
    have hnc : (w2.alloc (.cells #[.int .i64 (k : Int)] 3)).cell? ⟨w2.heap.size, 0, none⟩ = some (.int .i64 (k : Int)) := by simp
    have HON := Lib.hid ((HO.out.ext hE3).ext hEn)
    have HEN := Lib.hid ((HE.out.trans hE3).trans hEn)
    clear HO HE hE2 hE3 hEn HRG HEB k0 k1 k2 k3
    go_wp2_with (at_builtin; refine wpList_append_int rfl _ _ rfl w.heap.size (fun _ => False) (.slice pv k cv) k (idxN k) (k : Int) rfl HON.out ⟨w2.heap.size, 0, none⟩ 1 rfl hnc (fun _ h => h.elim) (by omega) (by omega) HEN.out.lt ?_)
    intro g cap w8 hon8 hgrow hat8 _ _
    rw [← idxN_succ] at hon8
    have hE8 := HEN.out.grown hgrow HEN.out.lt (fun q e => (HON.out.2.2.1.lt q e).1)
    clear HON HEN hgrow hat8 hnc
    go_wp2_with fail
    go_roundw
    case rel => exact ⟨k + 1, _, by omega, rfl, by go_num, HRK3, fun h => by omega, hon8, hE8⟩
    case measure => simp [intOf]; omega
  · have hke : k = n := by omega
    subst hke
    have hall : ∀ t ∈ L, rightV t = 0 := fun t ht => by
      obtain ⟨i, hi, rfl⟩ := List.getElem_of_mem ht
      have h1 := HRK.out i (by rw [HN.out]; exact hi)
      simpa [List.getD, hi] using h1
    have hsv := HSV.out
    rw [if_pos hall] at hsv
    have HSV2 := Lib.hid hsv
    have HCM := Lib.hid (HCMP.out hall)
    clear hall hsv HSV HSN HCMP HRK
    by_cases hk0 : k = 0
    · subst hk0
      have hp := HK0.out rfl
      simp only [Value.slice.injEq] at hp
      obtain ⟨rfl, _, rfl⟩ := hp
      have HE := Lib.hid hE
      clear hO hE hlt hcv
      go_wp2_with fail
      refine (sortstable0_any _ _).mono ?_
      rintro e w2 ⟨rfl, hE2⟩
      have hE3 := HE.out.trans hE2
      go_wp2_with fail
      go_ret
      refine ⟨_, rfl, ?_, hE3⟩
      rw [HSV2.out]
      exact OwnI.nil _ _ _
    have hg : ∃ g, pv = some ⟨g, 0, none⟩ := by
      rcases hO.2.2.1.2 with ⟨_, h1⟩ | ⟨g, cap, cur, he, _⟩
      · omega
      · cases he; exact ⟨g, rfl⟩
    obtain ⟨g, rfl⟩ := hg
    have hln : (insAll (cmpM m L) k).length = k := by rw [(insAll_perm _ k).length_eq, idxs_length]
    have hO2 := hO
    rw [show idxN k = rng 0 k by rw [rng_idxs]; rfl] at hO2
    have HSS := Lib.hid (sortstableN_any (cmpM m L) (cmpM_ord m L) w (.slice p k c) g k cv (fun w' x y e h1 h2 h3 h4 => by
      have h := HCM.out w' x y e h1 (by rw [← HN.out]; exact h2) h3 (by rw [← HN.out]; exact h4)
      rw [← HN.out] at h
      exact h) wr hO2 hE hl)
    have HLN := Lib.hid hln
    clear hO hO2 hE hlt hcv hln
    go_wp2_with fail
    refine HSS.out.mono ?_
    rintro e w2 ⟨rfl, hO2, hE2⟩
    clear HSS
    go_wp2_with fail
    go_ret
    refine ⟨_, rfl, ?_, hE2⟩
    rw [HSV2.out, HLN.out]
    exact hO2
end Go.Proofs.Ytgkemmdghmklfaa
