/-
  THE DIGITS of a number in mixed radix: the plain law; radix.digits (a goto) and ref27.digits (a loop). (Printed by gen_rad2.py.)
-/
import Derived.Test.YtmpjnjhiklaofaaRad1
import Derived.ScopeJumps
namespace Go.Proofs.Ytmpjnjhiklaofaa
set_option linter.unusedSimpArgs false
set_option linter.unusedVariables false
open Go.RowKit

/-- The digits and what is left. -/
def dig : List Int → Int → List Int × Int
  | [], n => ([], n)
  | r :: l, n => if r = 0 then ((dig l n).2 :: (dig l n).1, 0) else ((dig l n).2 % r :: (dig l n).1, (dig l n).2 / r)
theorem dig_len : ∀ (l : List Int) (n : Int), (dig l n).1.length = l.length
  | [], _ => rfl
  | r :: l, n => by rw [dig]; split <;> simp [dig_len l n]
def RadOk (l : List Int) : Prop := ∀ r ∈ l, 0 ≤ r ∧ r ≤ 4611686018427387903
theorem RadOk.tail {r : Int} {l : List Int} (h : RadOk (r :: l)) : RadOk l := fun x hx => h x (by simp [hx])
theorem RadOk.drop {l : List Int} (h : RadOk l) (k : Nat) : RadOk (l.drop k) := fun x hx => h x (List.mem_of_mem_drop hx)
theorem mod_num {m r : Int} (hm : NumB m) (h0 : 0 < r) (h1 : r ≤ 4611686018427387903) : NumB (m % r) := by
  have := Int.emod_nonneg m (show r ≠ 0 by omega)
  have := Int.emod_lt_of_pos m h0
  exact ⟨by omega, by omega⟩
theorem dig_num : ∀ (l : List Int) (n : Int), RadOk l → NumB n → NumB (dig l n).2 ∧ ∀ x ∈ (dig l n).1, NumB x
  | [], n, _, hn => ⟨hn, by simp [dig]⟩
  | r :: l, n, hl, hn => by
    obtain ⟨h1, h2⟩ := dig_num l n hl.tail hn
    have hr := hl r (by simp)
    rw [dig]
    split
    · exact ⟨⟨by omega, by omega⟩, fun x hx => by
        rcases List.mem_cons.1 hx with rfl | hx
        · exact h1
        · exact h2 x hx⟩
    · exact ⟨div_bd h1 (by omega), fun x hx => by
        rcases List.mem_cons.1 hx with rfl | hx
        · exact mod_num h1 (by omega) hr.2
        · exact h2 x hx⟩
/-- The row when the places from k on are done. -/
def digSt (l : List Int) (n : Int) (k : Nat) : List Int := List.replicate k 0 ++ (dig (l.drop k) n).1
theorem digSt_len (l : List Int) (n : Int) {k : Nat} (h : k ≤ l.length) : (digSt l n k).length = l.length := by
  unfold digSt
  rw [List.length_append, List.length_replicate, dig_len, List.length_drop]
  omega
theorem digSt_all (l : List Int) (n : Int) : digSt l n l.length = List.replicate l.length 0 := by
  unfold digSt
  rw [List.drop_of_length_le (Nat.le_refl _), dig, List.append_nil]
theorem digSt_zero (l : List Int) (n : Int) : digSt l n 0 = (dig l n).1 := rfl
theorem digSt_set {l : List Int} {n : Int} {k : Nat} (h : k < l.length) :
    (l.getD k 0 = 0 → (digSt l n (k + 1)).set k (dig (l.drop (k + 1)) n).2 = digSt l n k ∧ (dig (l.drop k) n).2 = 0) ∧
    (l.getD k 0 ≠ 0 → (digSt l n (k + 1)).set k ((dig (l.drop (k + 1)) n).2 % l.getD k 0) = digSt l n k ∧ (dig (l.drop k) n).2 = (dig (l.drop (k + 1)) n).2 / l.getD k 0) := by
  have hs : ∀ v, (digSt l n (k + 1)).set k v = List.replicate k 0 ++ v :: (dig (l.drop (k + 1)) n).1 := by
    intro v
    unfold digSt
    rw [List.replicate_succ', List.append_assoc, List.set_append]
    simp
  constructor
  · intro h0
    rw [hs]
    unfold digSt
    rw [drop_getD h, dig, if_pos h0]
    exact ⟨rfl, rfl⟩
  · intro h0
    rw [hs]
    unfold digSt
    rw [drop_getD h, dig, if_neg h0]
    exact ⟨rfl, rfl⟩


/-- A scope whose label is reached by the straight way and by jumps: the pass from the label is walked once. -/
theorem wp_scope_from {P : Program} {a : Act} {w : World} {Q : Exit → Act → World → Prop} {c rest : Code} (l : Nat) (J : Act → World → Prop) (μ : Act → World → Nat) (hf : findLabel c l = some (Code.skip.seq rest))
    (pass : ∀ a w, J a w → rest.wp P (Exit.jump l (fun a' w' => J a' w' ∧ μ a' w' < μ a w) Q) a w)
    (first : (∀ a w, J a w → rest.wp P (Exit.jump l J Q) a w) → c.wp P (Exit.jump l J Q) a w) : (Code.scope c).wp P Q a w :=
  wp_scope_jumps l J μ hf (first fun a w h => wp_mono (pass a w h) fun e a' w' hq => by
    cases e <;> first | exact hq | exact ⟨hq.1, hq.2.1⟩) fun a w h => wp_seq (wp_skip (pass a w h))
def intOfV : Value → Int | .int _ q => q | _ => 0
set_option maxRecDepth 1000000 in
set_option maxHeartbeats 8000000 in
/-- radix.digits. -/
theorem digits_any (F : Nat → Prop) (p : Option Addr) (c : Nat) (l : List Int) (n : Int) (w : World) (h : IntsAt F w p l) (hk : SlOk l.length c) (hl : RadOk l) (hn : NumB n) :
    Calls Try.prog 57 #[.slice p l.length c, .int .i64 n] w fun e w' => ∃ g, e = .returned (.slice (some ⟨g, 0, none⟩) l.length l.length) ∧ w.heap.size ≤ g ∧ RowI w' g (dig l n).1 ∧ Ext w w' := by
  have HI := Lib.hid h
  have HL := Lib.hid hl
  have HN := Lib.hid hn
  obtain ⟨o1, o2, o3⟩ := hk
  clear h hl hn
  have hmk := run_make_ints l.length o3
  have hE1 : Ext w (w.alloc (.cells (madeCells #[.int .i64 0] l.length) 3)) := (Ext.refl _).alloc _
  have hR1 : RowI (w.alloc (.cells (madeCells #[.int .i64 0] l.length) 3)) w.heap.size (digSt l n l.length) := by
    rw [digSt_all]
    exact RowI.made l.length
  go_enter Try.func57, Try.ntmps57
  go_wp2_with fail
  refine wp_scope_from 0 (fun a' w' => ∃ (k : Nat) (m : Int) (u7 u14 u15 u16 u17 u18 u19 u20 u21 u22 u23 u24 u25 u26 u27 u28 u29 u30 u31 u32 u33 u34 u35 u36 u37 u38 u39 u40 u41 u42 u43 : Value), k ≤ l.length ∧ m = (dig (l.drop k) n).2 ∧ a' = { tmps := #[.slice p l.length c, .int .i64 m, undef, undef, .slice none 0 0, .slice (some ⟨w.heap.size, 0, none⟩) l.length l.length, .int .i64 ((k : Int) - 1), u7, .slice p l.length c, .int .i64 l.length, .slice (some ⟨w.heap.size, 0, none⟩) l.length l.length, .slice p l.length c, .int .i64 l.length, .int .i64 (l.length - 1), u14, u15, u16, u17, u18, u19, u20, u21, u22, u23, u24, u25, u26, u27, u28, u29, u30, u31, u32, u33, u34, u35, u36, u37, u38, u39, u40, u41, u42, u43], defers := [] } ∧ RowI w' w.heap.size (digSt l n k) ∧ Ext w w') (fun a' _ => (intOfV (a'.tmps.getD 6 undef) + 1).toNat) rfl ?_ ?_
  · rintro a' w' ⟨k, m, u7, u14, u15, u16, u17, u18, u19, u20, u21, u22, u23, u24, u25, u26, u27, u28, u29, u30, u31, u32, u33, u34, u35, u36, u37, u38, u39, u40, u41, u42, u43, hk, hmv, rfl, hR, hE⟩
    by_cases h0 : k = 0
    · subst h0
      go_wp2_with fail
      simp only [Exit.jump]
      go_ret
      exact ⟨_, rfl, Nat.le_refl _, hR, hE⟩
    · obtain ⟨j, rfl⟩ : ∃ j, k = j + 1 := ⟨k - 1, by omega⟩
      have hjl : j < l.length := by omega
      obtain ⟨b, off, rfl, hc, hc0, hc1⟩ := (HI.out.ext hE).get hjl
      have ej : (((j + 1 : Nat) : Int) - 1) = (j : Int) := by omega
      rw [ej]
      have hjn : ¬ ((j : Int) < 0) := by omega
      have hlen := digSt_len l n (show j + 1 ≤ l.length by omega)
      have hrow := hR.cell (j := j) (by omega)
      have hfr := hR.free j
      obtain ⟨hs0, hs1⟩ := digSt_set (n := n) hjl
      have hm := (dig_num (l.drop (j + 1)) n (HL.out.drop _) HN.out).1
      have hrr := HL.out (l.getD j 0) (by simp [List.getD, hjl])
      rw [← hmv] at hm hs0 hs1
      have HMV := Lib.hid hmv
      clear hmv
      generalize l.getD j 0 = r at *
      generalize (digSt l n (j + 1)).getD j 0 = old at *
      have HM := Lib.hid hm
      have HS0 := Lib.hid hs0
      have HS1 := Lib.hid hs1
      clear hs0 hs1 hm hlen ej h0
      have hlt := hE.lt
      by_cases hr0 : r = 0
      · subst hr0
        obtain ⟨es, em⟩ := HS0.out rfl
        have HEM := Lib.hid em
        have hR2 := hR.set j m
        rw [es] at hR2
        have hE2 : Ext w (w'.setCell ⟨w.heap.size, j, none⟩ (.int .i64 m)) := hE.setCell (p := ⟨w.heap.size, j, none⟩) (Nat.le_refl _) _
        clear HS0 HS1 es em hmk hE1 hR1
        go_wp2_with fail
        generalize w'.setCell ⟨w.heap.size, j, none⟩ (.int .i64 m) = w2 at hR2 hE2 ⊢
        clear hR hE hc hrow hfr
        go_step3
        refine ⟨rfl, ⟨j, _, _, _, _, _, _, _, _, _, _, _, _, _, _, _, _, _, _, _, _, _, _, _, _, _, _, _, _, _, _, _, _, by omega, HEM.out.symm, rfl, hR2, hE2⟩, ?_⟩
        · simp [intOfV]
      · obtain ⟨es, em⟩ := HS1.out hr0
        have HEM := Lib.hid em
        have hre : (r == 0) = false := by simpa using hr0
        have hr1 : 0 < r := by omega
        clear HS0 HS1 hr0 hmk hE1 hR1
        go_wp2_with fail
        refine (nmod_any m r w' HM.out hr1 hrr.2).mono ?_
        rintro e w2 ⟨rfl, hE2⟩
        have hR2 := (hR.ext hE2).set j (m % r)
        rw [es] at hR2
        have hfr2 := (hR.ext hE2).free j
        have hrow2 := hE2.cell hrow
        have hE3 : Ext w (w2.setCell ⟨w.heap.size, j, none⟩ (.int .i64 (m % r))) := (hE.trans hE2).setCell (p := ⟨w.heap.size, j, none⟩) (Nat.le_refl _) _
        have hlt2 := (hE.trans hE2).lt
        clear hR hE hc hrow hfr es em
        go_wp2_with fail
        generalize w2.setCell ⟨w.heap.size, j, none⟩ (.int .i64 (m % r)) = w3 at hR2 hE3 ⊢
        refine (ndiv_any m r w3 HM.out hr1 hrr.2).mono ?_
        rintro e w4 ⟨rfl, hE4⟩
        have hR4 := hR2.ext hE4
        have hE5 := hE3.trans hE4
        clear hR2 hE3 hrow2 hfr2 hlt2 hE2
        go_wp2_with fail
        go_step3
        refine ⟨rfl, ⟨j, _, _, _, _, _, _, _, _, _, _, _, _, _, _, _, _, _, _, _, _, _, _, _, _, _, _, _, _, _, _, _, _, by omega, HEM.out.symm, rfl, hR4, hE5⟩, ?_⟩
        · simp [intOfV]
  · intro hgo
    go_wp2_with fail
    generalize w.alloc (.cells (madeCells #[.int .i64 0] l.length) 3) = w1 at *
    go_step3
    simp only [Exit.then]
    rename_i hK
    refine hK _ _ ?_
    refine hgo _ _ ⟨l.length, n, _, _, _, _, _, _, _, _, _, _, _, _, _, _, _, _, _, _, _, _, _, _, _, _, _, _, _, _, _, _, _, Nat.le_refl _, ?_, rfl, hR1, hE1⟩
    rw [List.drop_of_length_le (Nat.le_refl _), dig]


set_option maxRecDepth 1000000 in
set_option maxHeartbeats 8000000 in
/-- ref27.digits. -/
theorem rdigits_any (F : Nat → Prop) (p : Option Addr) (c : Nat) (l : List Int) (n : Int) (w : World) (h : IntsAt F w p l) (hk : SlOk l.length c) (hl : RadOk l) (hn : NumB n) :
    Calls Try.prog 60 #[.slice p l.length c, .int .i64 n] w fun e w' => ∃ g, e = .returned (.slice (some ⟨g, 0, none⟩) l.length l.length) ∧ w.heap.size ≤ g ∧ RowI w' g (dig l n).1 ∧ Ext w w' := by
  have HI := Lib.hid h
  have HL := Lib.hid hl
  have HN := Lib.hid hn
  obtain ⟨o1, o2, o3⟩ := hk
  clear h hl hn
  have hmk := run_make_ints l.length o3
  have hE1 : Ext w (w.alloc (.cells (madeCells #[.int .i64 0] l.length) 3)) := (Ext.refl _).alloc _
  have hR1 : RowI (w.alloc (.cells (madeCells #[.int .i64 0] l.length) 3)) w.heap.size (digSt l n l.length) := by
    rw [digSt_all]
    exact RowI.made l.length
  go_enter Try.func60, Try.ntmps60
  go_wp2_with fail
  generalize w.alloc (.cells (madeCells #[.int .i64 0] l.length) 3) = w1 at *
  have HE1 := Lib.hid hE1
  have HR1 := Lib.hid hR1
  clear hE1 hR1 hmk
  go_loopw [1, 6] (fun nv iv wr => ∃ (k : Nat) (m : Int), k ≤ l.length ∧ m = (dig (l.drop k) n).2 ∧ nv = .int .i64 m ∧ iv = .int .i64 ((k : Int) - 1) ∧ RowI wr w.heap.size (digSt l n k) ∧ Ext w wr) (fun _ iv _ => (intOf iv + 1).toNat)
  case atStart => exact ⟨l.length, n, Nat.le_refl _, by rw [List.drop_of_length_le (Nat.le_refl _), dig], rfl, rfl, HR1.out, HE1.out⟩
  case round =>
    obtain ⟨k, m, hk, hmv, rfl, rfl, hR, hE⟩ := hrel
    clear HR1 HE1
    by_cases h0 : k = 0
    · subst h0
      go_wp2_with fail
      go_ret
      exact ⟨_, rfl, Nat.le_refl _, hR, hE⟩
    · obtain ⟨j, rfl⟩ : ∃ j, k = j + 1 := ⟨k - 1, by omega⟩
      have hjl : j < l.length := by omega
      obtain ⟨b, off, rfl, hc, hc0, hc1⟩ := (HI.out.ext hE).get hjl
      have ej : (((j + 1 : Nat) : Int) - 1) = (j : Int) := by omega
      rw [ej]
      have hjn : (0 : Int) ≤ (j : Int) := by omega
      have hlen := digSt_len l n (show j + 1 ≤ l.length by omega)
      have hrow := hR.cell (j := j) (by omega)
      have hfr := hR.free j
      obtain ⟨hs0, hs1⟩ := digSt_set (n := n) hjl
      have hm := (dig_num (l.drop (j + 1)) n (HL.out.drop _) HN.out).1
      have hrr := HL.out (l.getD j 0) (by simp [List.getD, hjl])
      rw [← hmv] at hm hs0 hs1
      have HMV := Lib.hid hmv
      clear hmv
      generalize l.getD j 0 = r at *
      generalize (digSt l n (j + 1)).getD j 0 = old at *
      have HM := Lib.hid hm
      have HS0 := Lib.hid hs0
      have HS1 := Lib.hid hs1
      clear hs0 hs1 hm hlen h0
      have hlt := hE.lt
      by_cases hr0 : r = 0
      · subst hr0
        obtain ⟨es, em⟩ := HS0.out rfl
        have HEM := Lib.hid em
        have hR2 := hR.set j m
        rw [es] at hR2
        have hE2 : Ext w (wr.setCell ⟨w.heap.size, j, none⟩ (.int .i64 m)) := hE.setCell (p := ⟨w.heap.size, j, none⟩) (Nat.le_refl _) _
        clear HS0 HS1 es em
        go_wp2_with fail
        generalize wr.setCell ⟨w.heap.size, j, none⟩ (.int .i64 m) = w2 at hR2 hE2 ⊢
        clear hR hE hc hrow hfr
        go_roundw
        case rel => exact ⟨j, 0, by omega, HEM.out.symm, rfl, rfl, hR2, hE2⟩
        case measure => simp [intOf]
      · obtain ⟨es, em⟩ := HS1.out hr0
        have HEM := Lib.hid em
        have hre : (r == 0) = false := by simpa using hr0
        have hr1 : 0 < r := by omega
        clear HS0 HS1 hr0
        go_wp2_with fail
        refine (rmod_any m r wr HM.out hr1 hrr.2).mono ?_
        rintro e w2 ⟨rfl, rfl⟩
        go_wp2_with fail
        refine (rdiv_any m r wr HM.out hr1 hrr.2).mono ?_
        rintro e w2 ⟨rfl, rfl⟩
        have hR2 := hR.set j (m % r)
        rw [es] at hR2
        have hE3 : Ext w (wr.setCell ⟨w.heap.size, j, none⟩ (.int .i64 (m % r))) := hE.setCell (p := ⟨w.heap.size, j, none⟩) (Nat.le_refl _) _
        clear es em
        go_wp2_with fail
        generalize wr.setCell ⟨w.heap.size, j, none⟩ (.int .i64 (m % r)) = w3 at hR2 hE3 ⊢
        clear hR hE hc hrow hfr
        go_roundw
        case rel => exact ⟨j, _, by omega, HEM.out.symm, rfl, rfl, hR2, hE3⟩
        case measure => simp [intOf]

end Go.Proofs.Ytmpjnjhiklaofaa
