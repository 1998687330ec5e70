/-
  THE WALK of cell.Frame. (Printed by gen_cframe.py.)
-/
import Derived.Test.YtgeppialbkijiaaSlice
import Derived.Test.YtgeppialbkijiaaRegY
import Derived.IntWalk
import Derived.Test.YtgeppialbkijiaaOrdA
namespace Go.Proofs.Ytgeppialbkijiaa
set_option linter.unusedSimpArgs false
set_option linter.unusedVariables false
open Go.RowKit

def rankV (k r : Int) : Int := if r ≤ 0 then 0 else if k < 0 then (if k + r < 0 then 0 else k + r) else if k < r then k else r
theorem rankV_bd (k r : Int) (h : 0 ≤ r) : 0 ≤ rankV k r ∧ rankV k r ≤ r := by
  unfold rankV; repeat' split
  all_goals omega
theorem crank_any (k r : Int) (w : World) (hk : -9223372036854775808 ≤ k ∧ k ≤ 9223372036854775807) (hr : -9223372036854775808 ≤ r ∧ r ≤ 9223372036854775807) :
    Calls Try.prog 124 #[.int .i64 k, .int .i64 r] w fun e w' => e = .returned (.int .i64 (rankV k r)) ∧ w = w' := by
  have HV : Hid (rankV k r = if r ≤ 0 then 0 else if k < 0 then (if k + r < 0 then 0 else k + r) else if k < r then k else r) := rfl
  generalize rankV k r = v at *
  obtain ⟨hk1, hk2⟩ := hk
  obtain ⟨hr1, hr2⟩ := hr
  by_cases h1 : r < 0
  all_goals by_cases h2 : k < 0
  all_goals
    go_enter Try.func124, Try.ntmps124
    go_wp2_with fail
  all_goals
    go_ret
    refine ⟨ret_int ?_, rfl⟩
    rw [HV.out]
    repeat' split
    all_goals omega
theorem rrank_any (k r : Int) (w : World) (hk : -9223372036854775808 ≤ k ∧ k ≤ 9223372036854775807) (hr : -9223372036854775808 ≤ r ∧ r ≤ 9223372036854775807) :
    Calls Try.prog 76 #[.int .i64 k, .int .i64 r] w fun e w' => e = .returned (.int .i64 (rankV k r)) ∧ w = w' := by
  have HV : Hid (rankV k r = if r ≤ 0 then 0 else if k < 0 then (if k + r < 0 then 0 else k + r) else if k < r then k else r) := rfl
  generalize rankV k r = v at *
  obtain ⟨hk1, hk2⟩ := hk
  obtain ⟨hr1, hr2⟩ := hr
  by_cases h1 : r < 0
  all_goals by_cases h2 : k < 0
  all_goals
    go_enter Try.func76, Try.ntmps76
    go_wp2_with fail
  all_goals
    go_ret
    refine ⟨ret_int ?_, rfl⟩
    rw [HV.out]
    repeat' split
    all_goals omega
end Go.Proofs.Ytgeppialbkijiaa

namespace Go.Proofs.Ytgeppialbkijiaa
set_option linter.unusedSimpArgs false
set_option linter.unusedVariables false
open Go.RowKit

def frameV (x : Arr) (k : Int) : List Int := match x with | .mk kx s n it => if rightV (.mk kx s n it) ≠ 0 then [] else s.take (s.length - (rankV k s.length).toNat)
/-- Some slice that reads as the list. -/
def RdAll (w : World) (l : List Int) (v : Value) : Prop := ∃ (p : Option Addr) (c : Nat), v = .slice p l.length c ∧ SlOk l.length c ∧ IntsAt (fun _ => True) w p l

set_option maxRecDepth 100000 in
set_option maxHeartbeats 4000000 in
theorem cframe_any (F : Nat → Prop) (x : Arr) (c0 c1 c2 c3 : Value) (k : Int) (w : World) (hx : ArrAt F w x c0 c1 c2 c3) (hk : -9223372036854775808 ≤ k ∧ k ≤ 9223372036854775807) :
    Calls Try.prog 113 #[.agg #[c0, c1, c2, c3], .int .i64 k] w fun e w' => ∃ v, e = .returned v ∧ RdAll w' (frameV x k) v ∧ Ext w w' := by
  obtain ⟨kx, s, nx, ix⟩ := x
  have hx' := hx
  unfold ArrAt at hx'
  obtain ⟨rfl, hkx, ⟨p1, m1, rfl, ⟨o1, o1', o1''⟩, i1⟩, ⟨p2, m2, rfl, ⟨o2, o2', o2''⟩, i2⟩, ⟨p3, m3, rfl, ⟨o3, o3', o3''⟩, i3⟩⟩ := hx'
  have HX := Lib.hid hx
  have HS := Lib.hid i1
  clear hx i1 i2 i3
  have HV : Hid (frameV (.mk kx s nx ix) k = if rightV (.mk kx s nx ix) ≠ 0 then [] else s.take (s.length - (rankV k s.length).toNat)) := rfl
  generalize frameV (.mk kx s nx ix) k = fv at *
  go_enter Try.func113, Try.ntmps113
  have hE0 : Ext w (w.alloc (.cells #[.int .i64 kx, .slice p1 s.length m1, .slice p2 nx.length m2, .slice p3 ix.length m3] 26)) := (Ext.refl _).alloc _
  have hB := box_new w (.int .i64 kx) (.slice p1 s.length m1) (.slice p2 nx.length m2) (.slice p3 ix.length m3)
  have HR := Lib.hid (right_any F _ _ _ _ _ _ (HX.out.ext hE0))
  have HE := Lib.hid hE0
  have HB := Lib.hid hB
  clear hE0 hB
  go_wp2_with fail
  refine HR.out.mono ?_
  rintro e w2 ⟨rfl, hE1⟩
  replace HE := Lib.hid (HE.out.trans hE1)
  have HBx := Lib.hid (HB.out.ext hE1)
  clear HR HB hE1
  generalize rightV (.mk kx s nx ix) = r at *
  by_cases hr : r = 0
  rotate_left
  · have hr1 : (r != 0) = true := by simpa using hr
    have HV2 := Lib.hid (show fv = [] by rw [HV.out, if_pos hr])
    clear hr
    go_wp2_with fail
    go_ret
    refine ⟨_, rfl, ?_, HE.out⟩
    rw [HV2.out]
    exact ⟨none, 0, rfl, ⟨by simp, by simp, by simp⟩, fun i hi => by simp at hi⟩
  subst hr
  have hbd := rankV_bd k s.length (by omega)
  obtain ⟨rv, hrv⟩ : ∃ rv : Nat, rankV k s.length = rv := ⟨(rankV k s.length).toNat, by omega⟩
  rw [hrv] at hbd
  have HRK := Lib.hid (show ∀ w, Calls Try.prog 124 #[.int .i64 k, .int .i64 (s.length : Int)] w fun e w' => e = .returned (.int .i64 (rv : Int)) ∧ Ext w w' from fun w => by
    have h := crank_any k s.length w hk (by omega)
    rw [hrv] at h
    exact same_ext h)
  obtain ⟨n, hn⟩ : ∃ n, s.length - rv = n := ⟨_, rfl⟩
  have HV2 := Lib.hid (show fv = s.take n by rw [HV.out, if_neg (by simp), hrv, Int.toNat_natCast, hn])
  have hsub : (s.length : Int) - (rv : Int) = (n : Int) := by omega
  have hws : IntKind.i64.wrap ((s.length : Int) - (rv : Int)) = (n : Int) := by rw [hsub]; exact IntWalk.i64_in _ (by omega)
  have hnl : n ≤ s.length := by omega
  have hrun := fun w => slice_h p1 s.length m1 w n (by omega)
  have htl : (s.take n).length = n := by rw [List.length_take]; omega
  have HTL := Lib.hid htl
  have hcut := HS.out.cut (n := n) 0 m1 o1
  rw [List.drop_zero] at hcut
  generalize cutAt p1 0 m1 1 = pc at *
  have HCUT := Lib.hid hcut
  have HEw := Lib.hid HE.out
  clear hcut hrv hn htl HV
  go_wp2_with fail
  have HAx : Hid True := Lib.hid trivial
  refine wp_region_x0 [MProp.is (.pointer (some ⟨w.heap.size, 1, none⟩)), MProp.is (.slice p1 s.length m1), MProp.is (.pointer (some ⟨w.heap.size, 1, none⟩)), MProp.is (.slice p1 s.length m1), MProp.is (.int .i64 (s.length : Int)), MProp.is (.int .i64 k), MProp.is (.pointer (some ⟨w.heap.size, 1, none⟩)), MProp.is (.slice p1 s.length m1), MProp.is (.int .i64 (s.length : Int)), MProp.is (.int .i64 (rv : Int)), MProp.is (.int .i64 (n : Int)), MProp.is (.slice pc n m1), MProp.rdi (s.take n), MProp.rdi (s.take n)] [0, 1, 2, 3, 4, 5, 6, 7, 8, 9, 10, 11, 12, 13] [] [8, 9, 10, 11, 12, 13, 14, 15, 16, 17, 18, 19, 20, 4] (by kernel_rfl) (by kernel_rfl) (by kernel_rfl) ?_ ?_ ?_
  · refine mem_cons_m ?_ (mem_cons_m ?_ (mem_cons_m ?_ (mem_cons_m ?_ (mem_cons_m ?_ (mem_cons_m ?_ (mem_cons_m ?_ (mem_cons_m ?_ (mem_cons_m ?_ (mem_cons_m ?_ (mem_cons_m ?_ (mem_cons_m ?_ (mem_cons_m ?_ (mem_cons_m ?_ (mem_nil_m))))))))))))))
    · refine ⟨_, 8, rfl, by kernel_rfl, ?_⟩
      intro u w9 X hE hX hd K hK
      clear hd
      simp only [overlay, List.setIfInBounds_toArray, List.set] at hK ⊢
      go_wp2_with fail
      exact hK _ _ X (Ext.refl _) kept_m hX rfl
    · refine ⟨_, 9, rfl, by kernel_rfl, ?_⟩
      intro u w9 X hE hX hd K hK
      have d0 : u 8 = .pointer (some ⟨w.heap.size, 1, none⟩) := hd 0 (by kernel_rfl)
      clear hd
      simp only [overlay, List.setIfInBounds_toArray, List.set, d0] at hK ⊢
      have e9 : Ext w2 w9 := (Ext.refl w2).drew.trans hE
      obtain ⟨s0, s1, s2, s3⟩ := (HBx.out.ext e9).cell
      go_wp2_with fail
      exact hK _ _ X (Ext.refl _) kept_m hX rfl
    · refine ⟨_, 10, rfl, by kernel_rfl, ?_⟩
      intro u w9 X hE hX hd K hK
      clear hd
      simp only [overlay, List.setIfInBounds_toArray, List.set] at hK ⊢
      go_wp2_with fail
      exact hK _ _ X (Ext.refl _) kept_m hX rfl
    · refine ⟨_, 11, rfl, by kernel_rfl, ?_⟩
      intro u w9 X hE hX hd K hK
      have d2 : u 10 = .pointer (some ⟨w.heap.size, 1, none⟩) := hd 2 (by kernel_rfl)
      clear hd
      simp only [overlay, List.setIfInBounds_toArray, List.set, d2] at hK ⊢
      have e9 : Ext w2 w9 := (Ext.refl w2).drew.trans hE
      obtain ⟨s0, s1, s2, s3⟩ := (HBx.out.ext e9).cell
      go_wp2_with fail
      exact hK _ _ X (Ext.refl _) kept_m hX rfl
    · refine ⟨_, 12, rfl, by kernel_rfl, ?_⟩
      intro u w9 X hE hX hd K hK
      have d3 : u 11 = .slice p1 s.length m1 := hd 3 (by kernel_rfl)
      clear hd
      simp only [overlay, List.setIfInBounds_toArray, List.set, d3] at hK ⊢
      go_wp2_with fail
      exact hK _ _ X (Ext.refl _) kept_m hX rfl
    · refine ⟨_, 13, rfl, by kernel_rfl, ?_⟩
      intro u w9 X hE hX hd K hK
      clear hd
      simp only [overlay, List.setIfInBounds_toArray, List.set] at hK ⊢
      go_wp2_with fail
      exact hK _ _ X (Ext.refl _) kept_m hX rfl
    · refine ⟨_, 14, rfl, by kernel_rfl, ?_⟩
      intro u w9 X hE hX hd K hK
      clear hd
      simp only [overlay, List.setIfInBounds_toArray, List.set] at hK ⊢
      go_wp2_with fail
      exact hK _ _ X (Ext.refl _) kept_m hX rfl
    · refine ⟨_, 15, rfl, by kernel_rfl, ?_⟩
      intro u w9 X hE hX hd K hK
      have d6 : u 14 = .pointer (some ⟨w.heap.size, 1, none⟩) := hd 6 (by kernel_rfl)
      clear hd
      simp only [overlay, List.setIfInBounds_toArray, List.set, d6] at hK ⊢
      have e9 : Ext w2 w9 := (Ext.refl w2).drew.trans hE
      obtain ⟨s0, s1, s2, s3⟩ := (HBx.out.ext e9).cell
      go_wp2_with fail
      exact hK _ _ X (Ext.refl _) kept_m hX rfl
    · refine ⟨_, 16, rfl, by kernel_rfl, ?_⟩
      intro u w9 X hE hX hd K hK
      have d7 : u 15 = .slice p1 s.length m1 := hd 7 (by kernel_rfl)
      clear hd
      simp only [overlay, List.setIfInBounds_toArray, List.set, d7] at hK ⊢
      go_wp2_with fail
      exact hK _ _ X (Ext.refl _) kept_m hX rfl
    · refine ⟨_, 17, rfl, by kernel_rfl, ?_⟩
      intro u w9 X hE hX hd K hK
      have d5 : u 13 = .int .i64 k := hd 5 (by kernel_rfl)
      have d8 : u 16 = .int .i64 (s.length : Int) := hd 8 (by kernel_rfl)
      clear hd
      simp only [overlay, List.setIfInBounds_toArray, List.set, d5, d8] at hK ⊢
      have e9 : Ext w2 w9 := (Ext.refl w2).drew.trans hE
      go_wp2_with fail
      refine (HRK.out w9).mono ?_
      rintro e w8 ⟨rfl, hE8⟩
      go_wp2_with fail
      exact hK _ _ X hE8 kept_m (hX.ext hE8) rfl
    · refine ⟨_, 18, rfl, by kernel_rfl, ?_⟩
      intro u w9 X hE hX hd K hK
      have d4 : u 12 = .int .i64 (s.length : Int) := hd 4 (by kernel_rfl)
      have d9 : u 17 = .int .i64 (rv : Int) := hd 9 (by kernel_rfl)
      clear hd
      simp only [overlay, List.setIfInBounds_toArray, List.set, d4, d9] at hK ⊢
      go_wp2_with fail
      exact hK _ _ X (Ext.refl _) kept_m hX rfl
    · refine ⟨_, 19, rfl, by kernel_rfl, ?_⟩
      intro u w9 X hE hX hd K hK
      have d1 : u 9 = .slice p1 s.length m1 := hd 1 (by kernel_rfl)
      have d10 : u 18 = .int .i64 (n : Int) := hd 10 (by kernel_rfl)
      clear hd
      simp only [overlay, List.setIfInBounds_toArray, List.set, d1, d10] at hK ⊢
      go_wp2_with fail
      exact hK _ _ X (Ext.refl _) kept_m hX rfl
    · refine ⟨_, 20, rfl, by kernel_rfl, ?_⟩
      intro u w9 X hE hX hd K hK
      have d11 : u 19 = .slice pc n m1 := hd 11 (by kernel_rfl)
      clear hd
      simp only [overlay, List.setIfInBounds_toArray, List.set, d11] at hK ⊢
      have e9 : Ext w2 w9 := (Ext.refl w2).drew.trans hE
      have hcl := clone_ints F pc m1 (s.take n) w9 (HCUT.out.ext (HEw.out.trans e9)) (by unfold lenMax; rw [HTL.out]; omega)
      rw [HTL.out] at hcl
      go_wp2_with fail
      refine hcl.mono ?_
      rintro e w8 ⟨v8, rfl, hO8, hE8⟩
      obtain ⟨p8, c8, rfl, hk8, hi8⟩ := hO8.ints
      have hz := RdIX.new (X := X) (w := w9) hi8 hk8 (fun b hb _ => .inl hb.1) hX.hi
      have hz2 := hz
      rw [HTL.out] at hz2
      go_wp2_with fail
      first | exact hK _ _ X hE8 kept_m (hX.ext hE8) hz2 | exact hK _ _ X hE8 kept_m (hX.ext hE8) hz
    · refine ⟨_, 4, rfl, by kernel_rfl, ?_⟩
      intro u w9 X hE hX hd K hK
      have d12 : RdIX X w9 (s.take n) (u 20) := hd 12 (by kernel_rfl)
      clear hd
      simp only [overlay, List.setIfInBounds_toArray, List.set] at hK ⊢
      obtain ⟨p8, c8, hv8, hk8, hi8⟩ := d12
      simp only [hv8] at hK ⊢
      have hz : RdIX X w9 (s.take n) (.slice p8 (s.take n).length c8) := ⟨p8, c8, rfl, hk8, hi8⟩
      have hz2 := hz
      rw [HTL.out] at hz2
      go_wp2_with fail
      first | exact hK _ _ X (Ext.refl _) kept_m hX hz2 | exact hK _ _ X (Ext.refl _) kept_m hX hz
  · exact mem_nil_m
  intro u w9 X hE hX hd
  have d0 : u 8 = .pointer (some ⟨w.heap.size, 1, none⟩) := hd 0 (by decide)
  have d1 : u 9 = .slice p1 s.length m1 := hd 1 (by decide)
  have d2 : u 10 = .pointer (some ⟨w.heap.size, 1, none⟩) := hd 2 (by decide)
  have d3 : u 11 = .slice p1 s.length m1 := hd 3 (by decide)
  have d4 : u 12 = .int .i64 (s.length : Int) := hd 4 (by decide)
  have d5 : u 13 = .int .i64 k := hd 5 (by decide)
  have d6 : u 14 = .pointer (some ⟨w.heap.size, 1, none⟩) := hd 6 (by decide)
  have d7 : u 15 = .slice p1 s.length m1 := hd 7 (by decide)
  have d8 : u 16 = .int .i64 (s.length : Int) := hd 8 (by decide)
  have d9 : u 17 = .int .i64 (rv : Int) := hd 9 (by decide)
  have d10 : u 18 = .int .i64 (n : Int) := hd 10 (by decide)
  have d11 : u 19 = .slice pc n m1 := hd 11 (by decide)
  have d12 : RdIX X w9 (s.take n) (u 20) := hd 12 (by decide)
  have d13 : RdIX X w9 (s.take n) (u 4) := hd 13 (by decide)
  clear hd
  simp only [overlay, List.setIfInBounds_toArray, List.set, d0, d1, d2, d3, d4, d5, d6, d7, d8, d9, d10, d11]
  have e9 : Ext w2 w9 := (Ext.refl w2).drew.trans hE
  obtain ⟨p7, c7, hv7, hk7, hi7⟩ := d13
  have HRES := Lib.hid (And.intro hk7 hi7)
  simp only [hv7]
  clear hk7 hi7 hv7
  clear d0 d1 d2 d3 d4 d5 d6 d7 d8 d9 d10 d11 d12 
  clear hX hE
  generalize u 19 = t19z1
  generalize u 20 = t20z1
  try generalize u 4 = t4z1
  clear u
  obtain ⟨wk2, rfl⟩ : ∃ wx : World, wx = w9 := ⟨_, rfl⟩
  replace HBx := Lib.hid (HBx.out.ext e9)
  replace HE := Lib.hid (HE.out.trans (e9))
  clear e9
  go_wp2_with fail
  go_ret
  refine ⟨_, rfl, ?_, HE.out⟩
  rw [HV2.out]
  exact ⟨p7, c7, rfl, HRES.out.1, HRES.out.2.mono fun _ _ _ => ⟨trivial, rfl⟩⟩

end Go.Proofs.Ytgeppialbkijiaa
