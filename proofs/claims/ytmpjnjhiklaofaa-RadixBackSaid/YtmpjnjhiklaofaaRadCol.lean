/-
  THE WALK of law27.RadixColumns: it returns true, and turns nothing that was there. (Printed by gen_radcol.py.)
-/
import Derived.Test.YtmpjnjhiklaofaaRadAwk
import Derived.IntWalk
namespace Go.Proofs.Ytmpjnjhiklaofaa
set_option linter.unusedSimpArgs false
set_option linter.unusedVariables false
open Go.RowKit

/-- The four values of a struct that reads as a plain array. -/
theorem ArrAt.plain {F : Nat → Prop} {w : World} {k : Int} {s n : List Int} {c0 c1 c2 c3 : Value} (h : ArrAt F w (.mk k s n []) c0 c1 c2 c3) :
    ∃ p1 k1 p2 k2, c1 = .slice p1 s.length k1 ∧ SlOk s.length k1 ∧ IntsAt F w p1 s ∧ c2 = .slice p2 n.length k2 ∧ SlOk n.length k2 ∧ IntsAt F w p2 n := by
  unfold ArrAt at h
  obtain ⟨_, _, ⟨p1, k1, e1, o1, i1⟩, ⟨p2, k2, e2, o2, i2⟩, _⟩ := h
  exact ⟨p1, k1, p2, k2, e1, o1, i1, e2, o2, i2⟩

set_option maxRecDepth 100000 in
set_option maxHeartbeats 16000000 in
theorem radcol_any (F G : Nat → Prop) (p1 p2 : Option Addr) (c1 c2 : Nat) (l y : List Int) (w : World) (h1 : BytesAt F w p1 l) (hl1 : l.length ≤ 9223372036854775807) (h2 : IntsAt G w p2 y) (hk2 : SlOk y.length c2) :
    Calls Try.prog 5 #[.slice p1 l.length c1, .slice p2 y.length c2] w fun e w' => e = .returned (.bool true) ∧ Ext w w' := by
  have HL := Lib.hid h1
  have HY := Lib.hid h2
  obtain ⟨k1, k2, k3⟩ := hk2
  clear h1 h2
  go_enter Try.func5, Try.ntmps5
  by_cases hc1 : 20 < l.length
  · have hc1' : (20 : Int) < (l.length : Int) := by omega
    go_wp2_with fail
    refine (radawake_any _).mono ?_
    rintro e wl ⟨rfl, hEl⟩
    go_wp2_with fail
    go_ret
    exact ⟨rfl, (Ext.refl w).trans hEl⟩
  by_cases hc2 : 40 < y.length
  · have hc2' : (40 : Int) < (y.length : Int) := by omega
    have hc1' : ¬ (20 : Int) < (l.length : Int) := by omega
    go_wp2_with fail
    refine (radawake_any _).mono ?_
    rintro e wl ⟨rfl, hEl⟩
    go_wp2_with fail
    go_ret
    exact ⟨rfl, (Ext.refl w).trans hEl⟩
  have hc1' : ¬ (20 : Int) < (l.length : Int) := by omega
  have hc2' : ¬ (40 : Int) < (y.length : Int) := by omega
  have hrow0 : RowI (w.alloc (.cells #[] 3)) w.heap.size [] := rowI_new' w []
  have hE0 : Ext w (w.alloc (.cells #[] 3)) := (Ext.refl _).alloc _
  have HO0 := Lib.hid (OwnI.of_row (B := w.heap.size) (X := fun _ => False) (n := 0) (xs := []) hrow0 rfl (by omega) (Nat.le_refl _) (fun h => h) (by simp))
  clear hrow0
  go_wp2_with fail
  generalize w.alloc (.cells #[] 3) = w1 at hE0 HO0 ⊢
  have HE0 := Lib.hid hE0
  clear hE0
  go_loopw [5, 6] (fun rv iv wr => ∃ (k : Nat) (v : Value), k ≤ l.length ∧ v = rv ∧ iv = .int .i64 k ∧ OwnI w.heap.size (fun _ => False) wr v k (l.take k) ∧ Ext w wr) (fun _ iv _ => l.length - (intOf iv).toNat)
  case atStart => exact ⟨0, _, Nat.zero_le _, rfl, rfl, HO0.out, HE0.out⟩
  case round =>
  obtain ⟨k, v, hk, rfl, rfl, hO, hE⟩ := hrel
  clear HO0 HE0
  obtain ⟨pv, cv, rfl, hcv⟩ := hO.form
  by_cases hlt : k < l.length
  · obtain ⟨b1, off1, rfl, _, a1, a2, a3⟩ := HL.out k hlt
    have a1 := hE.cell a1
    have hts : l.take k ++ [l.getD k 0] = l.take (k + 1) := by rw [List.take_add_one]; simp [List.getD, hlt]
    have HTS := Lib.hid hts
    generalize l.getD k 0 = d at *
    have hEn : Ext wr (wr.alloc (.cells #[.int .i64 d] 3)) := (Ext.refl _).alloc _
    have hnc : (wr.alloc (.cells #[.int .i64 d] 3)).cell? ⟨wr.heap.size, 0, none⟩ = some (.int .i64 d) := by simp
    have HON := Lib.hid (hO.ext hEn)
    have HEN := Lib.hid (hE.trans hEn)
    clear hts hO hE hEn
    go_wp2_with (at_builtin; refine wpList_append_int rfl _ _ rfl w.heap.size (fun _ => False) (.slice pv k cv) k (l.take k) d rfl HON.out ⟨wr.heap.size, 0, none⟩ 1 rfl hnc (fun _ h => h.elim) (by omega) (by omega) HEN.out.lt ?_)
    intro g cap w8 hon8 hgrow hat8 _ _
    rw [HTS.out] at hon8
    have hE8 := HEN.out.grown hgrow HEN.out.lt (fun q e => (HON.out.2.2.1.lt q e).1)
    clear HON HEN hgrow hat8 hnc a1
    go_wp2_with fail
    go_roundw
    case rel => exact ⟨k + 1, _, by omega, rfl, by go_num, hon8, hE8⟩
    case measure => simp [intOf]; omega
  have hke : k = l.length := by omega
  subst hke
  rw [List.take_length] at hO
  obtain ⟨p5, c5, he5, ⟨m1, m2, m3⟩, hi5⟩ := hO.ints
  cases he5
  have hrl : ∀ a ∈ l, 0 ≤ a ∧ a ≤ 255 := fun a ha => by
    obtain ⟨j, hj, e⟩ := List.mem_iff_getElem.1 ha
    obtain ⟨_, _, _, _, _, h3, h4⟩ := HL.out j hj
    simp only [List.getD, hj, List.getElem?_eq_getElem, Option.getD_some] at h3 h4
    rw [← e]; exact ⟨h3, h4⟩
  have HRL := Lib.hid (show RadOk l from fun a ha => ⟨(hrl a ha).1, by have := (hrl a ha).2; omega⟩)
  have HI5 := Lib.hid hi5
  have HE := Lib.hid hE
  clear hrl hi5 hE hO hlt hk hcv HL
  obtain ⟨wA, rfl⟩ : ∃ wx : World, wx = wr := ⟨_, rfl⟩
  go_wp2_with fail
  go_loop [7] (fun iv => ∃ k : Nat, k ≤ y.length ∧ iv = .int .i64 k ∧ Hid (∀ a ∈ y.take k, NumB a)) (fun iv => y.length - (intOf iv).toNat)
  case atStart => exact ⟨0, Nat.zero_le _, rfl, Lib.hid (by simp)⟩
  case round =>
  obtain ⟨k, hk, rfl, HT⟩ := hrel
  by_cases hlt : k < y.length
  · obtain ⟨b2, off2, rfl, a2, _, _⟩ := (HY.out.ext HE.out).get hlt
    have hts : y.take (k + 1) = y.take k ++ [y.getD k 0] := by rw [List.take_add_one]; simp [List.getD, hlt]
    have HTS := Lib.hid hts
    generalize y.getD k 0 = d at *
    clear hts
    go_wp2_with fail
    refine (rfits_any d wA).mono ?_
    rintro e w' ⟨rfl, rfl⟩
    cases hn : isNum d with
    | false =>
      clear hn
      go_wp2_with fail
      refine (radawake_any _).mono ?_
      rintro e wl ⟨rfl, hEl⟩
      go_wp2_with fail
      go_ret
      exact ⟨rfl, HE.out.trans hEl⟩
    | true =>
      have HN := Lib.hid (NumB.of hn)
      clear hn
      have HT2 := Lib.hid (show ∀ a ∈ y.take (k + 1), NumB a from fun a ha => by
        rw [HTS.out] at ha
        rcases List.mem_append.1 ha with h | h
        · exact HT.out a h
        · rw [List.mem_singleton] at h; rw [h]; exact HN.out)
      clear HT HTS HN
      go_wp2_with fail
      go_round
      case rel => exact ⟨k + 1, by omega, by go_num, HT2⟩
      case measure => simp [intOf]; omega
  have hke : k = y.length := by omega
  subst hke
  have hyn := HT.out
  rw [List.take_length] at hyn
  have HYN := Lib.hid hyn
  clear hyn HT hk hlt
  have HENC := Lib.hid (enc_vec (l := l) (t := y) (by omega) HRL.out (by omega) HYN.out)
  go_wp2_with fail
  refine (vec_rd (X := fun _ => False) (RdIX.old HI5.out ⟨m1, m2, m3⟩ (Ext.refl wA) (fun _ h => False.elim h)) (fun _ h => False.elim h)).mono ?_
  rintro e wf2 ⟨x1, rfl, hx1, hEx1⟩
  go_wp2_with fail
  refine (vec_rd (X := fun _ => False) (RdIX.old (HY.out.ext HE.out) ⟨k1, k2, k3⟩ ((Ext.refl wA).trans hEx1) (fun _ h => False.elim h)) (fun _ h => False.elim h)).mono ?_
  rintro e wf4 ⟨x3, rfl, hx3, hEx3⟩
  replace hx1 := hx1.mono0 hEx3
  go_wp2_with fail
  refine (enc_at HENC.out hx1 hx3 (fun _ h => False.elim h)).mono ?_
  rintro e wf6 ⟨x5, rfl, hx5, hEx5⟩
  obtain ⟨c0, c1, c2, c3, rfl, hA9⟩ := hx5
  obtain ⟨kx5, pax5, lax5, max5, pbx5, lbx5, mbx5, pcx5, lcx5, mcx5, rfl, rfl, rfl, rfl⟩ := hA9.form
  have hEn := ((((Ext.refl wA).trans hEx1).trans hEx3).trans hEx5).alloc (.cells #[(.int .i64 kx5), (.slice pax5 lax5 max5), (.slice pbx5 lbx5 mbx5), (.slice pcx5 lcx5 mcx5)] 26)
  have hBn := box_new wf6 (.int .i64 kx5) (.slice pax5 lax5 max5) (.slice pbx5 lbx5 mbx5) (.slice pcx5 lcx5 mcx5)
  have hAn := hA9.ext ((Ext.refl _).alloc (.cells #[(.int .i64 kx5), (.slice pax5 lax5 max5), (.slice pbx5 lbx5 mbx5), (.slice pcx5 lcx5 mcx5)] 26))
  clear hA9 hEx5 hEx1 hEx3 hx1 hx3
  have HF := Lib.hid (And.intro hEn (And.intro hBn hAn))
  clear hEn hBn hAn
  go_upto_region 14 with (fail)
  obtain ⟨hEn, hBn, hAn⟩ := HF.out
  clear HF
  generalize hbz : wf6.heap.size = bx5 at *
  clear hbz
  generalize wf6.alloc (.cells #[(.int .i64 kx5), (.slice pax5 lax5 max5), (.slice pbx5 lbx5 mbx5), (.slice pcx5 lcx5 mcx5)] 26) = wk7 at *
  replace HI5 := Lib.hid (HI5.out.ext hEn)
  replace HE := Lib.hid (HE.out.trans (hEn))
  have HBa := Lib.hid hBn
  have HAa := Lib.hid hAn
  clear hEn hBn hAn
  obtain ⟨q1, n1, q2, n2, e1, ⟨z1, z1', z1''⟩, i1, e2, ⟨z2, z2', z2''⟩, i2⟩ := HAa.out.plain
  simp only [Value.slice.injEq] at e1 e2
  obtain ⟨rfl, hlb1, rfl⟩ := e1
  obtain ⟨rfl, hlb, rfl⟩ := e2
  have hlb1' : lax5 = 2 := by rw [hlb1]; rfl
  subst hlb1'
  clear hlb1
  have hll : lbx5 = l.length * y.length := by rw [hlb, encN_len]
  have hmul : l.length * y.length ≤ 20 * 40 := Nat.mul_le_mul (by omega) (by omega)
  have hprod : (l.length : Int) * (y.length : Int) = (lbx5 : Int) := by rw [hll]; simp
  have hlb8 : lbx5 ≤ 800 := by omega
  have hI1 := Lib.hid i1
  have hI2 := Lib.hid i2
  have HLB := Lib.hid hlb
  have HLL := Lib.hid hll
  have HMU := Lib.hid hmul
  rw [← hlb] at z2 z2''
  clear i1 i2 hlb hll hmul
  obtain ⟨s0, s1, s2, s3⟩ := HBa.out.cell
  have hrow2 : IntsAt (fun x => x = wk7.heap.size) (wk7.alloc (.cells #[.int .i64 (l.length : Int), .int .i64 (y.length : Int)] 3)) (some ⟨wk7.heap.size, 0, none⟩) [(l.length : Int), (y.length : Int)] := (rowI_new wk7 [(l.length : Int), (y.length : Int)]).ints (fun a ha => by
    simp only [List.mem_cons, List.not_mem_nil, or_false] at ha
    rcases ha with rfl | rfl <;> omega)
  have hic : Calls Try.prog 26 #[.slice pax5 2 max5, .slice (some ⟨wk7.heap.size, 0, none⟩) 2 2] (wk7.alloc (.cells #[.int .i64 (l.length : Int), .int .i64 (y.length : Int)] 3)) fun e w' => e = .returned (.bool true) ∧ Ext (wk7.alloc (.cells #[.int .i64 (l.length : Int), .int .i64 (y.length : Int)] 3)) w' := by
    have h := ints_any _ _ pax5 (some ⟨wk7.heap.size, 0, none⟩) max5 2 [(l.length : Int), (y.length : Int)] [(l.length : Int), (y.length : Int)] (wk7.alloc (.cells #[.int .i64 (l.length : Int), .int .i64 (y.length : Int)] 3)) (hI1.out.ext ((Ext.refl wk7).alloc _)) hrow2 (by unfold lenMax; simp) (by unfold lenMax; simp)
    rw [beq_self_eq_true] at h
    exact h
  have HIC := Lib.hid hic
  clear hic hrow2
  go_wp2_with fail
  refine HIC.out.mono ?_
  rintro e wI ⟨rfl, hEI⟩
  have hEJ : Ext wk7 wI := ((Ext.refl wk7).alloc (.cells #[.int .i64 (l.length : Int), .int .i64 (y.length : Int)] 3)).trans hEI
  replace s2 := hEJ.cell s2
  clear s0 s1 s3 hEI HIC
  go_wp2_with fail
  clear s2
  replace HE := Lib.hid (HE.out.trans hEJ)
  replace HI5 := Lib.hid (HI5.out.ext hEJ)
  replace HBa := Lib.hid (HBa.out.ext hEJ)
  replace HAa := Lib.hid (HAa.out.ext hEJ)
  replace hI2 := Lib.hid (hI2.out.ext hEJ)
  clear hEJ hI1 hprod
  go_loopw [10] (fun jv wr => ∃ j : Nat, j ≤ y.length ∧ jv = .int .i64 j ∧ Ext wI wr) (fun jv _ => y.length - (intOf jv).toNat)
  case atStart => exact ⟨0, Nat.zero_le _, rfl, Ext.refl _⟩
  case round =>
  obtain ⟨j, hj, rfl, hEr⟩ := hrel
  replace HE := Lib.hid (HE.out.trans hEr)
  by_cases hlt : j < y.length
  rotate_left
  · clear hEr
    go_wp2_with fail
    refine (radawake_any _).mono ?_
    rintro e wl ⟨rfl, hEl⟩
    go_wp2_with fail
    go_ret
    exact ⟨rfl, HE.out.trans hEl⟩
  replace HI5 := Lib.hid (HI5.out.ext hEr)
  replace HBa := Lib.hid (HBa.out.ext hEr)
  replace HAa := Lib.hid (HAa.out.ext hEr)
  replace hI2 := Lib.hid (hI2.out.ext hEr)
  have HER := Lib.hid hEr
  clear hEr
  obtain ⟨wo, rfl⟩ : ∃ wx : World, wx = wr := ⟨_, rfl⟩
  obtain ⟨b2, off2, rfl, a2, ad1, ad2⟩ := (HY.out.ext HE.out).get hlt
  have hcol : ∀ i, i < l.length → (encN l y).getD (i * y.length + j) 0 = (dig l (y.getD j 0)).1.getD i 0 := fun i hi => encN_getD l y hi hlt
  have hdn := HYN.out (y.getD j 0) (by simp [List.getD, hlt])
  have henc := enc_num (l := l) (n := y.getD j 0) (by omega) HRL.out hdn
  have hdlen := dig_len l (y.getD j 0)
  generalize y.getD j 0 = d at *
  generalize (dig l d).1 = dg at *
  have HCOL := Lib.hid hcol
  have HENC2 := Lib.hid henc
  have HDL := Lib.hid hdlen
  have HA2 := Lib.hid a2
  clear hcol hdn henc hdlen a2
  go_wp2_with fail
  refine wp_region_y2 [MProp.rdi (l), MProp.rd (vecV l), MProp.is (.slice (some ⟨b2, off2, none⟩) y.length c2), MProp.is (.int .i64 (j : Int)), MProp.is (.pointer (some ⟨b2, off2 + j, none⟩)), MProp.is (.int .i64 d), MProp.rd (numV d), MProp.rd2 (vecV dg) 0, MProp.rd2 (vecV dg) 0, MProp.rd (vecV dg), MProp.is (.int .i64 0), MProp.box] [0, 1, 2, 3, 4, 5, 6, 7, 8, 9, 10, 11] [10] [90, 91, 92, 93, 94, 95, 96, 97, 89, 98, 99, 11] 12 13 (by kernel_rfl) (by kernel_rfl) (by kernel_rfl) rfl rfl ?_ ?_ ?_
  · refine mem_cons_m ?_ (mem_cons_m ?_ (mem_cons_m ?_ (mem_cons_m ?_ (mem_cons_m ?_ (mem_cons_m ?_ (mem_cons_m ?_ (mem_cons_m ?_ (mem_cons_m ?_ (mem_cons_m ?_ (mem_cons_m ?_ (mem_cons_m ?_ (mem_nil_m))))))))))))
    · refine ⟨_, 90, rfl, by kernel_rfl, ?_⟩
      intro u w9 X hE hX hd K hK
      clear hd
      simp only [overlay, List.setIfInBounds_toArray, List.set] at hK ⊢
      have e9 : Ext wo w9 := (Ext.refl wo).drew.trans hE
      go_wp2_with fail
      exact hK _ _ X (Ext.refl _) kept_m hX (RdIX.old HI5.out ⟨m1, m2, m3⟩ e9 hX.lo)
    · refine ⟨_, 91, rfl, by kernel_rfl, ?_⟩
      intro u w9 X hE hX hd K hK
      have d0 : RdIX X w9 (l) (u 90) := hd 0 (by kernel_rfl)
      clear hd
      simp only [overlay, List.setIfInBounds_toArray, List.set] at hK ⊢
      have e9 : Ext wo w9 := (Ext.refl wo).drew.trans hE
      go_wp2_with fail
      refine (vec_rd d0 hX.hi).mono ?_
      rintro e w8 ⟨x8, rfl, hx8, hE8⟩
      go_wp2_with fail
      exact hK _ _ X hE8 kept_m (hX.ext hE8) hx8
    · refine ⟨_, 92, rfl, by kernel_rfl, ?_⟩
      intro u w9 X hE hX hd K hK
      clear hd
      simp only [overlay, List.setIfInBounds_toArray, List.set] at hK ⊢
      go_wp2_with fail
      exact hK _ _ X (Ext.refl _) kept_m hX rfl
    · refine ⟨_, 93, rfl, by kernel_rfl, ?_⟩
      intro u w9 X hE hX hd K hK
      clear hd
      simp only [overlay, List.setIfInBounds_toArray, List.set] at hK ⊢
      go_wp2_with fail
      exact hK _ _ X (Ext.refl _) kept_m hX rfl
    · refine ⟨_, 94, rfl, by kernel_rfl, ?_⟩
      intro u w9 X hE hX hd K hK
      have d2 : u 92 = .slice (some ⟨b2, off2, none⟩) y.length c2 := hd 2 (by kernel_rfl)
      have d3 : u 93 = .int .i64 (j : Int) := hd 3 (by kernel_rfl)
      clear hd
      simp only [overlay, List.setIfInBounds_toArray, List.set, d2, d3] at hK ⊢
      go_wp2_with fail
      exact hK _ _ X (Ext.refl _) kept_m hX rfl
    · refine ⟨_, 95, rfl, by kernel_rfl, ?_⟩
      intro u w9 X hE hX hd K hK
      have d4 : u 94 = .pointer (some ⟨b2, off2 + j, none⟩) := hd 4 (by kernel_rfl)
      clear hd
      simp only [overlay, List.setIfInBounds_toArray, List.set, d4] at hK ⊢
      have e9 : Ext wo w9 := (Ext.refl wo).drew.trans hE
      have a9 := e9.cell HA2.out
      go_wp2_with fail
      exact hK _ _ X (Ext.refl _) kept_m hX rfl
    · refine ⟨_, 96, rfl, by kernel_rfl, ?_⟩
      intro u w9 X hE hX hd K hK
      have d5 : u 95 = .int .i64 d := hd 5 (by kernel_rfl)
      clear hd
      simp only [overlay, List.setIfInBounds_toArray, List.set, d5] at hK ⊢
      have e9 : Ext wo w9 := (Ext.refl wo).drew.trans hE
      go_wp2_with fail
      refine (num_rd ⟨ad1, ad2⟩ hX.hi).mono ?_
      rintro e w8 ⟨x8, rfl, hx8, hE8⟩
      go_wp2_with fail
      exact hK _ _ X hE8 kept_m (hX.ext hE8) hx8
    · refine ⟨_, 97, rfl, by kernel_rfl, ?_⟩
      intro u w9 X hE hX hd K hK
      have d1 : RdX X w9 (vecV l) (u 91) := hd 1 (by kernel_rfl)
      have d6 : RdX X w9 (numV d) (u 96) := hd 6 (by kernel_rfl)
      clear hd
      simp only [overlay, List.setIfInBounds_toArray, List.set] at hK ⊢
      have e9 : Ext wo w9 := (Ext.refl wo).drew.trans hE
      go_wp2_with fail
      refine (enc_at HENC2.out d1 d6 hX.hi).mono ?_
      rintro e w8 ⟨x8, rfl, hx8, hE8⟩
      go_wp2_with fail
      exact hK _ _ X hE8 kept_m (hX.ext hE8) ⟨x8, rfl, hx8⟩
    · refine ⟨_, 89, rfl, by kernel_rfl, ?_⟩
      intro u w9 X hE hX hd K hK
      have d7 : ∃ x, u 97 = .tuple #[x, .int .i64 0] ∧ RdX X w9 (vecV dg) x := hd 7 (by kernel_rfl)
      clear hd
      simp only [overlay, List.setIfInBounds_toArray, List.set] at hK ⊢
      obtain ⟨x8, hv8, hx8⟩ := d7
      simp only [hv8] at hK ⊢
      go_wp2_with fail
      exact hK _ _ X (Ext.refl _) kept_m hX ⟨x8, rfl, hx8⟩
    · refine ⟨_, 98, rfl, by kernel_rfl, ?_⟩
      intro u w9 X hE hX hd K hK
      have d8 : ∃ x, u 89 = .tuple #[x, .int .i64 0] ∧ RdX X w9 (vecV dg) x := hd 8 (by kernel_rfl)
      clear hd
      simp only [overlay, List.setIfInBounds_toArray, List.set] at hK ⊢
      obtain ⟨x8, hv8, hx8⟩ := d8
      simp only [hv8] at hK ⊢
      go_wp2_with fail
      exact hK _ _ X (Ext.refl _) kept_m hX hx8
    · refine ⟨_, 99, rfl, by kernel_rfl, ?_⟩
      intro u w9 X hE hX hd K hK
      have d8 : ∃ x, u 89 = .tuple #[x, .int .i64 0] ∧ RdX X w9 (vecV dg) x := hd 8 (by kernel_rfl)
      clear hd
      simp only [overlay, List.setIfInBounds_toArray, List.set] at hK ⊢
      obtain ⟨x8, hv8, hx8⟩ := d8
      simp only [hv8] at hK ⊢
      go_wp2_with fail
      exact hK _ _ X (Ext.refl _) kept_m hX rfl
    · refine ⟨_, 11, rfl, by kernel_rfl, ?_⟩
      intro u w9 X hE hX hd K hK
      clear hd
      simp only [overlay, List.setIfInBounds_toArray, List.set] at hK ⊢
      go_wp2_with fail
      exact hK _ _ (fun b => X b ∨ b = w9.heap.size) ((Ext.refl _).alloc _) added_m (hX.add hE _) ⟨_, rfl, box_new _ _ _ _ _, .inr rfl⟩
  · refine mem_cons_m ?_ (mem_nil_m)
    · refine ⟨_, rfl, ?_⟩
      intro u w9 X hd
      have d8 : ∃ x, u 89 = .tuple #[x, .int .i64 0] ∧ RdX X w9 (vecV dg) x := hd 8 (by kernel_rfl)
      clear hd
      obtain ⟨x8, hv8, hx8⟩ := d8
      simp only [overlay, List.setIfInBounds_toArray, List.set, hv8]
      exact ⟨.int .i64 0, .inl ⟨by kernel_rfl, fun w8 => by go_simp⟩, rfl⟩
  intro u w9 X hE hX hd
  have d0 : RdIX X w9 (l) (u 90) := hd 0 (by decide)
  have d1 : RdX X w9 (vecV l) (u 91) := hd 1 (by decide)
  have d2 : u 92 = .slice (some ⟨b2, off2, none⟩) y.length c2 := hd 2 (by decide)
  have d3 : u 93 = .int .i64 (j : Int) := hd 3 (by decide)
  have d4 : u 94 = .pointer (some ⟨b2, off2 + j, none⟩) := hd 4 (by decide)
  have d5 : u 95 = .int .i64 d := hd 5 (by decide)
  have d6 : RdX X w9 (numV d) (u 96) := hd 6 (by decide)
  have d7 : ∃ x, u 97 = .tuple #[x, .int .i64 0] ∧ RdX X w9 (vecV dg) x := hd 7 (by decide)
  have d8 : ∃ x, u 89 = .tuple #[x, .int .i64 0] ∧ RdX X w9 (vecV dg) x := hd 8 (by decide)
  have d9 : RdX X w9 (vecV dg) (u 98) := hd 9 (by decide)
  have d10 : u 99 = .int .i64 0 := hd 10 (by decide)
  have d11 : ∃ b, u 11 = .pointer (some ⟨b, 0, none⟩) ∧ Box4 w9 b (.int .i64 0) (.slice none 0 0) (.slice none 0 0) (.slice none 0 0) ∧ X b := hd 11 (by decide)
  clear hd
  simp only [overlay, List.setIfInBounds_toArray, List.set, d2, d3, d4, d5, d10]
  have e9 : Ext wo w9 := (Ext.refl wo).drew.trans hE
  obtain ⟨boz8, hvb, hbox, hxb⟩ := d11
  obtain ⟨c0, c1, c2, c3, hva, hA9⟩ := d9
  obtain ⟨kz8, paz8, laz8, maz8, pbz8, lbz8, mbz8, pcz8, lcz8, mcz8, rfl, rfl, rfl, rfl⟩ := hA9.form
  have hbo := hX boz8 hxb
  simp only [hvb, hva]
  obtain ⟨s0, s1, s2, s3⟩ := hbox.cell
  have f0 := hbox.free 0
  have f1 := hbox.free 1
  have f2 := hbox.free 2
  have f3 := hbox.free 3
  obtain ⟨gg1, gg2, gg3⟩ := hbox.put4 e9 hbo.1 (.int .i64 kz8) (.slice paz8 laz8 maz8) (.slice pbz8 lbz8 mbz8) (.slice pcz8 lcz8 mcz8)
  have hAn := ArrAt.mono (G := fun _ => True) (fun b hb _ => ⟨trivial, gg3 b (fun e => hb.2 (by rw [e]; exact hxb))⟩) _ _ _ _ _ hA9
  have HGG := Lib.hid (And.intro gg1 (And.intro gg2 hAn))
  clear gg1 gg2 gg3 hAn hA9 hbo hxb hbox
  clear d0 d1 d2 d3 d4 d5 d6 d7 d8 d10
  clear hX hE
  generalize u 90 = t90z8 at *
  generalize u 91 = t91z8 at *
  generalize u 95 = t95z8 at *
  generalize u 96 = t96z8 at *
  generalize u 97 = t97z8 at *
  generalize u 89 = t89z8 at *
  clear hvb hva
  clear u
  go_wp2_with fail
  refine OnlyN.mk ?_
  obtain ⟨gg1, gg2, hAn⟩ := HGG.out
  clear HGG s0 s1 s2 s3 f0 f1 f2 f3 e9
  generalize ((((w9.setCell ⟨boz8, 0, none⟩ (.int .i64 kz8)).setCell ⟨boz8, 1, none⟩ (.slice paz8 laz8 maz8)).setCell ⟨boz8, 2, none⟩ (.slice pbz8 lbz8 mbz8)).setCell ⟨boz8, 3, none⟩ (.slice pcz8 lcz8 mcz8)) = wk9 at *
  replace HBa := Lib.hid (HBa.out.ext gg1)
  replace HAa := Lib.hid (HAa.out.ext gg1)
  replace HI5 := Lib.hid (HI5.out.ext gg1)
  replace hI2 := Lib.hid (hI2.out.ext gg1)
  replace HER := Lib.hid (HER.out.trans (gg1))
  replace HE := Lib.hid (HE.out.trans (gg1))
  have HBb := Lib.hid gg2
  have HAb := Lib.hid hAn
  clear gg1 gg2 hAn
  obtain ⟨q3, n3, q4, n4, e3, _, _, e4, ⟨z4, z4', z4''⟩, i4⟩ := HAb.out.plain
  simp only [Value.slice.injEq] at e4
  obtain ⟨rfl, hlb4, rfl⟩ := e4
  have hlb4' : lbz8 = l.length := by rw [hlb4, HDL.out]
  subst hlb4'
  have HI4 := Lib.hid i4
  obtain ⟨s0, s1, s2, s3⟩ := HBb.out.cell
  clear i4 hlb4 e3
  go_wp2_with fail
  clear s0 s1 s2 s3
  go_loopw [13] (fun iv wr => ∃ i : Nat, i ≤ l.length ∧ iv = .int .i64 i ∧ Ext wk9 wr) (fun iv _ => l.length - (intOf iv).toNat)
  case atStart => exact ⟨0, Nat.zero_le _, rfl, Ext.refl _⟩
  case round =>
  obtain ⟨i, hi, rfl, hEr⟩ := hrel
  have HEr := Lib.hid hEr
  clear hEr
  by_cases hil : i < l.length
  · have hq : i * y.length + j < (encN l y).length := by
      rw [encN_len]
      have := Nat.mul_le_mul_right y.length (show i + 1 ≤ l.length from hil)
      rw [Nat.succ_mul] at this
      omega
    have hql : i * y.length + j < lbx5 := by rw [HLB.out]; exact hq
    obtain ⟨ba, oa, rfl, ha, _, _⟩ := (hI2.out.ext HEr.out).get hq
    obtain ⟨bb, ob, rfl, hb, _, _⟩ := (HI4.out.ext HEr.out).get (show i < dg.length by rw [HDL.out]; exact hil)
    rw [HCOL.out i hil] at ha
    generalize dg.getD i 0 = z at *
    obtain ⟨zz, hzz⟩ : ∃ zz, i * y.length = zz := ⟨_, rfl⟩
    rw [hzz] at hql ha
    have hzi : (i : Int) * (y.length : Int) = (zz : Int) := by rw [← hzz]; simp
    have hw1 : IntKind.i64.wrap ((i : Int) * (y.length : Int)) = (zz : Int) := by rw [hzi]; exact IntWalk.i64_in _ (by omega)
    obtain ⟨qq, hqq⟩ : ∃ qq, zz + j = qq := ⟨_, rfl⟩
    rw [hqq] at hql ha
    have hw2 : IntKind.i64.wrap ((zz : Int) + (j : Int)) = (qq : Int) := by rw [show (zz : Int) + (j : Int) = (qq : Int) by omega]; exact IntWalk.i64_in _ (by omega)
    obtain ⟨s0, s1, s2, s3⟩ := (HBa.out.ext HEr.out).cell
    obtain ⟨t0, t1, t2, t3⟩ := (HBb.out.ext HEr.out).cell
    clear hzi hq hzz hqq
    go_wp2_with fail
    go_quiet (fail)
    have hEn : Ext wk9 (wr.drewN nq) := HEr.out.trans ((Ext.refl wr).drewN nq)
    clear hw1 hw2 s0 s1 s2 s3 t0 t1 t2 t3 ha hb HEr
    go_wp2_with fail
    go_roundw
    case rel => exact ⟨i + 1, by omega, by go_num, hEn⟩
    case measure => simp [intOf]; omega
  · have hEn := HER.out.trans HEr.out
    clear HEr
    go_wp2_with fail
    go_roundw
    case rel => exact ⟨j + 1, by omega, by go_num, hEn⟩
    case measure => simp [intOf]; omega

end Go.Proofs.Ytmpjnjhiklaofaa
