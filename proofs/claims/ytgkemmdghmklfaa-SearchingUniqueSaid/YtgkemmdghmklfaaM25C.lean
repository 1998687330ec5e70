/-
  PLAIN LAWS for CellBack and CellKeeps: parts of a right array are right; an array padded to its own shape is itself; joining the cells yields the array. (Merged: CFrm, Part, CellP, CCells, RFrame, Few, BackP.)
-/
import Derived.Test.YtgkemmdghmklfaaSlice
import Derived.Test.YtgkemmdghmklfaaRegY
import Derived.IntWalk
import Derived.Test.YtgkemmdghmklfaaOrdA
import Derived.Test.YtgkemmdghmklfaaClone
import Derived.Test.YtgkemmdghmklfaaOdo
import Derived.Test.YtgkemmdghmklfaaR02a
import Derived.Test.YtgkemmdghmklfaaRVal
import Derived.Test.YtgkemmdghmklfaaRRight
import Derived.Test.YtgkemmdghmklfaaL04
namespace Go.Proofs.Ytgkemmdghmklfaa
set_option linter.unusedSimpArgs false
set_option linter.unusedVariables false
open Go.RowKit

def rankV (k r : Int) : Int := if r ≤ 0 then 0 else if k < 0 then (if k + r < 0 then 0 else k + r) else if k < r then k else r
theorem rankV_bd (k r : Int) (h : 0 ≤ r) : 0 ≤ rankV k r ∧ rankV k r ≤ r := by
  unfold rankV; repeat' split
  all_goals omega
theorem crank_any (k r : Int) (w : World) (hk : -9223372036854775808 ≤ k ∧ k ≤ 9223372036854775807) (hr : -9223372036854775808 ≤ r ∧ r ≤ 9223372036854775807) :
    Calls Try.prog 158 #[.int .i64 k, .int .i64 r] w fun e w' => e = .returned (.int .i64 (rankV k r)) ∧ w = w' := by
  have HV : Hid (rankV k r = if r ≤ 0 then 0 else if k < 0 then (if k + r < 0 then 0 else k + r) else if k < r then k else r) := rfl
  generalize rankV k r = v at *
  obtain ⟨hk1, hk2⟩ := hk
  obtain ⟨hr1, hr2⟩ := hr
  by_cases h1 : r < 0
  all_goals by_cases h2 : k < 0
  all_goals
    go_enter Try.func158, Try.ntmps158
    go_wp2_with fail
  all_goals
    go_ret
    refine ⟨ret_int ?_, rfl⟩
    rw [HV.out]
    repeat' split
    all_goals omega
theorem rrank_any (k r : Int) (w : World) (hk : -9223372036854775808 ≤ k ∧ k ≤ 9223372036854775807) (hr : -9223372036854775808 ≤ r ∧ r ≤ 9223372036854775807) :
    Calls Try.prog 96 #[.int .i64 k, .int .i64 r] w fun e w' => e = .returned (.int .i64 (rankV k r)) ∧ w = w' := by
  have HV : Hid (rankV k r = if r ≤ 0 then 0 else if k < 0 then (if k + r < 0 then 0 else k + r) else if k < r then k else r) := rfl
  generalize rankV k r = v at *
  obtain ⟨hk1, hk2⟩ := hk
  obtain ⟨hr1, hr2⟩ := hr
  by_cases h1 : r < 0
  all_goals by_cases h2 : k < 0
  all_goals
    go_enter Try.func96, Try.ntmps96
    go_wp2_with fail
  all_goals
    go_ret
    refine ⟨ret_int ?_, rfl⟩
    rw [HV.out]
    repeat' split
    all_goals omega
end Go.Proofs.Ytgkemmdghmklfaa

namespace Go.Proofs.Ytgkemmdghmklfaa
set_option linter.unusedSimpArgs false
set_option linter.unusedVariables false
open Go.RowKit

def frameV (x : Arr) (k : Int) : List Int := match x with | .mk kx s n it => if rightV (.mk kx s n it) ≠ 0 then [] else s.take (s.length - (rankV k s.length).toNat)
/-- Some slice that reads as the list. -/
def RdAll (w : World) (l : List Int) (v : Value) : Prop := ∃ (p : Option Addr) (c : Nat), v = .slice p l.length c ∧ SlOk l.length c ∧ IntsAt (fun _ => True) w p l

set_option maxRecDepth 100000 in
set_option maxHeartbeats 4000000 in
theorem cframe_any (F : Nat → Prop) (x : Arr) (c0 c1 c2 c3 : Value) (k : Int) (w : World) (hx : ArrAt F w x c0 c1 c2 c3) (hk : -9223372036854775808 ≤ k ∧ k ≤ 9223372036854775807) :
    Calls Try.prog 147 #[.agg #[c0, c1, c2, c3], .int .i64 k] w fun e w' => ∃ v, e = .returned v ∧ RdAll w' (frameV x k) v ∧ Ext w w' := by
  obtain ⟨kx, s, nx, ix⟩ := x
  have hx' := hx
  unfold ArrAt at hx'
  obtain ⟨rfl, hkx, ⟨p1, m1, rfl, ⟨o1, o1', o1''⟩, i1⟩, ⟨p2, m2, rfl, ⟨o2, o2', o2''⟩, i2⟩, ⟨p3, m3, rfl, ⟨o3, o3', o3''⟩, i3⟩⟩ := hx'
  have HX := Lib.hid hx
  have HS := Lib.hid i1
  clear hx i1 i2 i3
  have HV : Hid (frameV (.mk kx s nx ix) k = if rightV (.mk kx s nx ix) ≠ 0 then [] else s.take (s.length - (rankV k s.length).toNat)) := rfl
  generalize frameV (.mk kx s nx ix) k = fv at *
  go_enter Try.func147, Try.ntmps147
  have hE0 : Ext w (w.alloc (.cells #[.int .i64 kx, .slice p1 s.length m1, .slice p2 nx.length m2, .slice p3 ix.length m3] 26)) := (Ext.refl _).alloc _
  have hB := box_new w (.int .i64 kx) (.slice p1 s.length m1) (.slice p2 nx.length m2) (.slice p3 ix.length m3)
  have HR := Lib.hid (right_any F _ _ _ _ _ _ (HX.out.ext hE0))
  have HE := Lib.hid hE0
  have HB := Lib.hid hB
  clear hE0 hB
  go_wp2_with fail
  refine HR.out.mono ?_
  rintro e w2 ⟨rfl, hE1⟩
  replace HE := Lib.hid (HE.out.trans hE1)
  have HBx := Lib.hid (HB.out.ext hE1)
  clear HR HB hE1
  generalize rightV (.mk kx s nx ix) = r at *
  by_cases hr : r = 0
  rotate_left
  · have hr1 : (r != 0) = true := by simpa using hr
    have HV2 := Lib.hid (show fv = [] by rw [HV.out, if_pos hr])
    clear hr
    go_wp2_with fail
    go_ret
    refine ⟨_, rfl, ?_, HE.out⟩
    rw [HV2.out]
    exact ⟨none, 0, rfl, ⟨by simp, by simp, by simp⟩, fun i hi => by simp at hi⟩
  subst hr
  have hbd := rankV_bd k s.length (by omega)
  obtain ⟨rv, hrv⟩ : ∃ rv : Nat, rankV k s.length = rv := ⟨(rankV k s.length).toNat, by omega⟩
  rw [hrv] at hbd
  have HRK := Lib.hid (show ∀ w, Calls Try.prog 158 #[.int .i64 k, .int .i64 (s.length : Int)] w fun e w' => e = .returned (.int .i64 (rv : Int)) ∧ Ext w w' from fun w => by
    have h := crank_any k s.length w hk (by omega)
    rw [hrv] at h
    exact same_ext h)
  obtain ⟨n, hn⟩ : ∃ n, s.length - rv = n := ⟨_, rfl⟩
  have HV2 := Lib.hid (show fv = s.take n by rw [HV.out, if_neg (by simp), hrv, Int.toNat_natCast, hn])
  have hsub : (s.length : Int) - (rv : Int) = (n : Int) := by omega
  have hws : IntKind.i64.wrap ((s.length : Int) - (rv : Int)) = (n : Int) := by rw [hsub]; exact IntWalk.i64_in _ (by omega)
  have hnl : n ≤ s.length := by omega
  have hrun := fun w => slice_h p1 s.length m1 w n (by omega)
  have htl : (s.take n).length = n := by rw [List.length_take]; omega
  have HTL := Lib.hid htl
  have hcut := HS.out.cut (n := n) 0 m1 o1
  rw [List.drop_zero] at hcut
  generalize cutAt p1 0 m1 1 = pc at *
  have HCUT := Lib.hid hcut
  have HEw := Lib.hid HE.out
  clear hcut hrv hn htl HV
  go_wp2_with fail
  have HAx : Hid True := Lib.hid trivial
  refine wp_region_x0 [MProp.is (.pointer (some ⟨w.heap.size, 1, none⟩)), MProp.is (.slice p1 s.length m1), MProp.is (.pointer (some ⟨w.heap.size, 1, none⟩)), MProp.is (.slice p1 s.length m1), MProp.is (.int .i64 (s.length : Int)), MProp.is (.int .i64 k), MProp.is (.pointer (some ⟨w.heap.size, 1, none⟩)), MProp.is (.slice p1 s.length m1), MProp.is (.int .i64 (s.length : Int)), MProp.is (.int .i64 (rv : Int)), MProp.is (.int .i64 (n : Int)), MProp.is (.slice pc n m1), MProp.rdi (s.take n), MProp.rdi (s.take n)] [0, 1, 2, 3, 4, 5, 6, 7, 8, 9, 10, 11, 12, 13] [] [8, 9, 10, 11, 12, 13, 14, 15, 16, 17, 18, 19, 20, 4] (by kernel_rfl) (by kernel_rfl) (by kernel_rfl) ?_ ?_ ?_
  · refine mem_cons_m ?_ (mem_cons_m ?_ (mem_cons_m ?_ (mem_cons_m ?_ (mem_cons_m ?_ (mem_cons_m ?_ (mem_cons_m ?_ (mem_cons_m ?_ (mem_cons_m ?_ (mem_cons_m ?_ (mem_cons_m ?_ (mem_cons_m ?_ (mem_cons_m ?_ (mem_cons_m ?_ (mem_nil_m))))))))))))))
    · refine ⟨_, 8, rfl, by kernel_rfl, ?_⟩
      intro u w9 X hE hX hd K hK
      clear hd
      simp only [overlay, List.setIfInBounds_toArray, List.set] at hK ⊢
      go_wp2_with fail
      exact hK _ _ X (Ext.refl _) kept_m hX rfl
    · refine ⟨_, 9, rfl, by kernel_rfl, ?_⟩
      intro u w9 X hE hX hd K hK
      have d0 : u 8 = .pointer (some ⟨w.heap.size, 1, none⟩) := hd 0 (by kernel_rfl)
      clear hd
      simp only [overlay, List.setIfInBounds_toArray, List.set, d0] at hK ⊢
      have e9 : Ext w2 w9 := (Ext.refl w2).drew.trans hE
      obtain ⟨s0, s1, s2, s3⟩ := (HBx.out.ext e9).cell
      go_wp2_with fail
      exact hK _ _ X (Ext.refl _) kept_m hX rfl
    · refine ⟨_, 10, rfl, by kernel_rfl, ?_⟩
      intro u w9 X hE hX hd K hK
      clear hd
      simp only [overlay, List.setIfInBounds_toArray, List.set] at hK ⊢
      go_wp2_with fail
      exact hK _ _ X (Ext.refl _) kept_m hX rfl
    · refine ⟨_, 11, rfl, by kernel_rfl, ?_⟩
      intro u w9 X hE hX hd K hK
      have d2 : u 10 = .pointer (some ⟨w.heap.size, 1, none⟩) := hd 2 (by kernel_rfl)
      clear hd
      simp only [overlay, List.setIfInBounds_toArray, List.set, d2] at hK ⊢
      have e9 : Ext w2 w9 := (Ext.refl w2).drew.trans hE
      obtain ⟨s0, s1, s2, s3⟩ := (HBx.out.ext e9).cell
      go_wp2_with fail
      exact hK _ _ X (Ext.refl _) kept_m hX rfl
    · refine ⟨_, 12, rfl, by kernel_rfl, ?_⟩
      intro u w9 X hE hX hd K hK
      have d3 : u 11 = .slice p1 s.length m1 := hd 3 (by kernel_rfl)
      clear hd
      simp only [overlay, List.setIfInBounds_toArray, List.set, d3] at hK ⊢
      go_wp2_with fail
      exact hK _ _ X (Ext.refl _) kept_m hX rfl
    · refine ⟨_, 13, rfl, by kernel_rfl, ?_⟩
      intro u w9 X hE hX hd K hK
      clear hd
      simp only [overlay, List.setIfInBounds_toArray, List.set] at hK ⊢
      go_wp2_with fail
      exact hK _ _ X (Ext.refl _) kept_m hX rfl
    · refine ⟨_, 14, rfl, by kernel_rfl, ?_⟩
      intro u w9 X hE hX hd K hK
      clear hd
      simp only [overlay, List.setIfInBounds_toArray, List.set] at hK ⊢
      go_wp2_with fail
      exact hK _ _ X (Ext.refl _) kept_m hX rfl
    · refine ⟨_, 15, rfl, by kernel_rfl, ?_⟩
      intro u w9 X hE hX hd K hK
      have d6 : u 14 = .pointer (some ⟨w.heap.size, 1, none⟩) := hd 6 (by kernel_rfl)
      clear hd
      simp only [overlay, List.setIfInBounds_toArray, List.set, d6] at hK ⊢
      have e9 : Ext w2 w9 := (Ext.refl w2).drew.trans hE
      obtain ⟨s0, s1, s2, s3⟩ := (HBx.out.ext e9).cell
      go_wp2_with fail
      exact hK _ _ X (Ext.refl _) kept_m hX rfl
    · refine ⟨_, 16, rfl, by kernel_rfl, ?_⟩
      intro u w9 X hE hX hd K hK
      have d7 : u 15 = .slice p1 s.length m1 := hd 7 (by kernel_rfl)
      clear hd
      simp only [overlay, List.setIfInBounds_toArray, List.set, d7] at hK ⊢
      go_wp2_with fail
      exact hK _ _ X (Ext.refl _) kept_m hX rfl
    · refine ⟨_, 17, rfl, by kernel_rfl, ?_⟩
      intro u w9 X hE hX hd K hK
      have d5 : u 13 = .int .i64 k := hd 5 (by kernel_rfl)
      have d8 : u 16 = .int .i64 (s.length : Int) := hd 8 (by kernel_rfl)
      clear hd
      simp only [overlay, List.setIfInBounds_toArray, List.set, d5, d8] at hK ⊢
      have e9 : Ext w2 w9 := (Ext.refl w2).drew.trans hE
      go_wp2_with fail
      refine (HRK.out w9).mono ?_
      rintro e w8 ⟨rfl, hE8⟩
      go_wp2_with fail
      exact hK _ _ X hE8 kept_m (hX.ext hE8) rfl
    · refine ⟨_, 18, rfl, by kernel_rfl, ?_⟩
      intro u w9 X hE hX hd K hK
      have d4 : u 12 = .int .i64 (s.length : Int) := hd 4 (by kernel_rfl)
      have d9 : u 17 = .int .i64 (rv : Int) := hd 9 (by kernel_rfl)
      clear hd
      simp only [overlay, List.setIfInBounds_toArray, List.set, d4, d9] at hK ⊢
      go_wp2_with fail
      exact hK _ _ X (Ext.refl _) kept_m hX rfl
    · refine ⟨_, 19, rfl, by kernel_rfl, ?_⟩
      intro u w9 X hE hX hd K hK
      have d1 : u 9 = .slice p1 s.length m1 := hd 1 (by kernel_rfl)
      have d10 : u 18 = .int .i64 (n : Int) := hd 10 (by kernel_rfl)
      clear hd
      simp only [overlay, List.setIfInBounds_toArray, List.set, d1, d10] at hK ⊢
      go_wp2_with fail
      exact hK _ _ X (Ext.refl _) kept_m hX rfl
    · refine ⟨_, 20, rfl, by kernel_rfl, ?_⟩
      intro u w9 X hE hX hd K hK
      have d11 : u 19 = .slice pc n m1 := hd 11 (by kernel_rfl)
      clear hd
      simp only [overlay, List.setIfInBounds_toArray, List.set, d11] at hK ⊢
      have e9 : Ext w2 w9 := (Ext.refl w2).drew.trans hE
      have hcl := clone_ints F pc m1 (s.take n) w9 (HCUT.out.ext (HEw.out.trans e9)) (by unfold lenMax; rw [HTL.out]; omega)
      rw [HTL.out] at hcl
      go_wp2_with fail
      refine hcl.mono ?_
      rintro e w8 ⟨v8, rfl, hO8, hE8⟩
      obtain ⟨p8, c8, rfl, hk8, hi8⟩ := hO8.ints
      have hz := RdIX.new (X := X) (w := w9) hi8 hk8 (fun b hb _ => .inl hb.1) hX.hi
      have hz2 := hz
      rw [HTL.out] at hz2
      go_wp2_with fail
      first | exact hK _ _ X hE8 kept_m (hX.ext hE8) hz2 | exact hK _ _ X hE8 kept_m (hX.ext hE8) hz
    · refine ⟨_, 4, rfl, by kernel_rfl, ?_⟩
      intro u w9 X hE hX hd K hK
      have d12 : RdIX X w9 (s.take n) (u 20) := hd 12 (by kernel_rfl)
      clear hd
      simp only [overlay, List.setIfInBounds_toArray, List.set] at hK ⊢
      obtain ⟨p8, c8, hv8, hk8, hi8⟩ := d12
      simp only [hv8] at hK ⊢
      have hz : RdIX X w9 (s.take n) (.slice p8 (s.take n).length c8) := ⟨p8, c8, rfl, hk8, hi8⟩
      have hz2 := hz
      rw [HTL.out] at hz2
      go_wp2_with fail
      first | exact hK _ _ X (Ext.refl _) kept_m hX hz2 | exact hK _ _ X (Ext.refl _) kept_m hX hz
  · exact mem_nil_m
  intro u w9 X hE hX hd
  have d0 : u 8 = .pointer (some ⟨w.heap.size, 1, none⟩) := hd 0 (by decide)
  have d1 : u 9 = .slice p1 s.length m1 := hd 1 (by decide)
  have d2 : u 10 = .pointer (some ⟨w.heap.size, 1, none⟩) := hd 2 (by decide)
  have d3 : u 11 = .slice p1 s.length m1 := hd 3 (by decide)
  have d4 : u 12 = .int .i64 (s.length : Int) := hd 4 (by decide)
  have d5 : u 13 = .int .i64 k := hd 5 (by decide)
  have d6 : u 14 = .pointer (some ⟨w.heap.size, 1, none⟩) := hd 6 (by decide)
  have d7 : u 15 = .slice p1 s.length m1 := hd 7 (by decide)
  have d8 : u 16 = .int .i64 (s.length : Int) := hd 8 (by decide)
  have d9 : u 17 = .int .i64 (rv : Int) := hd 9 (by decide)
  have d10 : u 18 = .int .i64 (n : Int) := hd 10 (by decide)
  have d11 : u 19 = .slice pc n m1 := hd 11 (by decide)
  have d12 : RdIX X w9 (s.take n) (u 20) := hd 12 (by decide)
  have d13 : RdIX X w9 (s.take n) (u 4) := hd 13 (by decide)
  clear hd
  simp only [overlay, List.setIfInBounds_toArray, List.set, d0, d1, d2, d3, d4, d5, d6, d7, d8, d9, d10, d11]
  have e9 : Ext w2 w9 := (Ext.refl w2).drew.trans hE
  obtain ⟨p7, c7, hv7, hk7, hi7⟩ := d13
  have HRES := Lib.hid (And.intro hk7 hi7)
  simp only [hv7]
  clear hk7 hi7 hv7
  clear d0 d1 d2 d3 d4 d5 d6 d7 d8 d9 d10 d11 d12 
  clear hX hE
  generalize u 19 = t19z1
  generalize u 20 = t20z1
  try generalize u 4 = t4z1
  clear u
  obtain ⟨wk2, rfl⟩ : ∃ wx : World, wx = w9 := ⟨_, rfl⟩
  replace HBx := Lib.hid (HBx.out.ext e9)
  replace HE := Lib.hid (HE.out.trans (e9))
  clear e9
  go_wp2_with fail
  go_ret
  refine ⟨_, rfl, ?_, HE.out⟩
  rw [HV2.out]
  exact ⟨p7, c7, rfl, HRES.out.1, HRES.out.2.mono fun _ _ _ => ⟨trivial, rfl⟩⟩

end Go.Proofs.Ytgkemmdghmklfaa

namespace Go.Proofs.Ytgkemmdghmklfaa
set_option linter.unusedSimpArgs false
set_option linter.unusedVariables false
open Go.RowKit

theorem cutAt_ne {p : Option Addr} {k m m' q : Nat} (h : m ≠ k) (h' : m' ≠ k) : cutAt p k m q = cutAt p k m' q := by unfold cutAt; rw [if_neg h, if_neg h']
theorem IntsAt.part {F : Nat → Prop} {w : World} {p : Option Addr} {xs : List Int} (h : IntsAt F w p xs) (k n m : Nat) (hm : m = k + n) : IntsAt F w (cutAt p k m 1) ((xs.drop k).take n) := by
  subst hm
  rcases Nat.eq_zero_or_pos n with rfl | hn
  · rw [List.take_zero]; intro i hi; simp at hi
  · rw [cutAt_ne (m' := k + n + xs.length) (by omega) (by omega)]; exact h.cut k _ (by omega)
theorem ItemsAt.part {F : Nat → Prop} {w : World} {p : Option Addr} {l : List Arr} (h : ItemsAt F w p 0 l) (k n m : Nat) (hm : m = k + n) : ItemsAt F w (cutAt p k m 4) 0 ((l.drop k).take n) := by
  subst hm
  rcases Nat.eq_zero_or_pos n with rfl | hn
  · rw [List.take_zero]; unfold ItemsAt; trivial
  · rw [cutAt_ne (m' := k + n + l.length) (by omega) (by omega)]; exact h.cut k _ (by omega)
/-- The part: z elements from number a on, with a shape. -/
def partV (x : Arr) (a z : Nat) (t : List Int) : Arr := match x with | .mk kx _ nx ix => .mk kx t (if kx = 3 then [] else (nx.drop a).take z) (if kx = 3 then (ix.drop a).take z else [])

set_option maxRecDepth 100000 in
set_option maxHeartbeats 4000000 in
theorem part_any (F H : Nat → Prop) (kx : Int) (s nx : List Int) (ix : List Arr) (c0 c1 c2 c3 : Value) (a z : Nat) (t : List Int) (pt : Option Addr) (mt : Nat) (w : World) (hx : ArrAt F w (.mk kx s nx ix) c0 c1 c2 c3)
    (hn : kx ≠ 3 → a + z ≤ nx.length) (hi : kx = 3 → a + z ≤ ix.length) (ht : IntsAt H w pt t) (hto : SlOk t.length mt) :
    Calls Try.prog 159 #[.agg #[c0, c1, c2, c3], .int .i64 (a : Int), .int .i64 (z : Int), .slice pt t.length mt] w (GivesArr (partV (.mk kx s nx ix) a z t) w) := by
  have hx' := hx
  unfold ArrAt at hx'
  obtain ⟨rfl, hkx, ⟨p1, m1, rfl, ⟨o1, o1', o1''⟩, i1⟩, ⟨p2, m2, rfl, ⟨o2, o2', o2''⟩, i2⟩, ⟨p3, m3, rfl, ⟨o3, o3', o3''⟩, i3⟩⟩ := hx'
  obtain ⟨t1, t1', t1''⟩ := hto
  have HN := Lib.hid i2
  have HI := Lib.hid i3
  have HT := Lib.hid ht
  have HBN := Lib.hid hn
  have HBI := Lib.hid hi
  clear hx i1 i2 i3 ht hn hi
  have HV : Hid (partV (.mk kx s nx ix) a z t = .mk kx t (if kx = 3 then [] else (nx.drop a).take z) (if kx = 3 then (ix.drop a).take z else [])) := rfl
  generalize partV (.mk kx s nx ix) a z t = fv at *
  go_enter Try.func159, Try.ntmps159
  have hE0 : Ext w ((w.alloc (.cells #[.int .i64 kx, .slice p1 s.length m1, .slice p2 nx.length m2, .slice p3 ix.length m3] 26)).alloc (.cells #[.int .i64 0, .slice none 0 0, .slice none 0 0, .slice none 0 0] 26)) := ((Ext.refl _).alloc _).alloc _
  have hB := (box_new w (.int .i64 kx) (.slice p1 s.length m1) (.slice p2 nx.length m2) (.slice p3 ix.length m3)).ext ((Ext.refl _).alloc (.cells #[.int .i64 0, .slice none 0 0, .slice none 0 0, .slice none 0 0] 26))
  have hR := box_new (w.alloc (.cells #[.int .i64 kx, .slice p1 s.length m1, .slice p2 nx.length m2, .slice p3 ix.length m3] 26)) (.int .i64 0) (.slice none 0 0) (.slice none 0 0) (.slice none 0 0)
  rw [World.size_alloc] at hR
  have HE := Lib.hid hE0
  have HBx := Lib.hid hB
  have HBr := Lib.hid hR
  clear hE0 hB hR
  go_wp2_with fail
  generalize hw2 : (w.alloc (.cells #[.int .i64 kx, .slice p1 s.length m1, .slice p2 nx.length m2, .slice p3 ix.length m3] 26)).alloc (.cells #[.int .i64 0, .slice none 0 0, .slice none 0 0, .slice none 0 0] 26) = w2 at *
  clear hw2
  have HAx : Hid True := Lib.hid trivial
  have HAr : Hid True := Lib.hid trivial
  have HEw := Lib.hid HE.out
  have HSZ := Lib.hid HBr.out.lt
  refine wp_region_x1 [MProp.is (.pointer (some ⟨w.heap.size, 0, none⟩)), MProp.is (.int .i64 kx), MProp.is (.slice pt t.length mt), MProp.rdi t, MProp.rd (Arr.mk kx t [] []), MProp.box] [0, 1, 2, 3, 4, 5] [] [11, 12, 13, 14, 15, 9] 6 (by kernel_rfl) (by kernel_rfl) (by kernel_rfl) rfl ?_ ?_ ?_
  · refine mem_cons_m ?_ (mem_cons_m ?_ (mem_cons_m ?_ (mem_cons_m ?_ (mem_cons_m ?_ (mem_cons_m ?_ (mem_nil_m))))))
    · refine ⟨_, 11, rfl, by kernel_rfl, ?_⟩
      intro u w9 X hE hX hd K hK
      clear hd
      simp only [overlay, List.setIfInBounds_toArray, List.set] at hK ⊢
      go_wp2_with fail
      exact hK _ _ X (Ext.refl _) kept_m hX rfl
    · refine ⟨_, 12, rfl, by kernel_rfl, ?_⟩
      intro u w9 X hE hX hd K hK
      have d0 : u 11 = .pointer (some ⟨w.heap.size, 0, none⟩) := hd 0 (by kernel_rfl)
      clear hd
      simp only [overlay, List.setIfInBounds_toArray, List.set, d0] at hK ⊢
      have e9 : Ext w2 w9 := (Ext.refl w2).drew.trans hE
      obtain ⟨s0, s1, s2, s3⟩ := (HBx.out.ext e9).cell
      go_wp2_with fail
      exact hK _ _ X (Ext.refl _) kept_m hX rfl
    · refine ⟨_, 13, rfl, by kernel_rfl, ?_⟩
      intro u w9 X hE hX hd K hK
      clear hd
      simp only [overlay, List.setIfInBounds_toArray, List.set] at hK ⊢
      go_wp2_with fail
      exact hK _ _ X (Ext.refl _) kept_m hX rfl
    · refine ⟨_, 14, rfl, by kernel_rfl, ?_⟩
      intro u w9 X hE hX hd K hK
      have d2 : u 13 = .slice pt t.length mt := hd 2 (by kernel_rfl)
      clear hd
      simp only [overlay, List.setIfInBounds_toArray, List.set, d2] at hK ⊢
      have e9 : Ext w2 w9 := (Ext.refl w2).drew.trans hE
      have hcl := clone_ints H pt mt t w9 (HT.out.ext (HEw.out.trans e9)) (by unfold lenMax; omega)
      go_wp2_with fail
      refine hcl.mono ?_
      rintro e w8 ⟨v8, rfl, hO8, hE8⟩
      obtain ⟨p8, c8, rfl, hk8, hi8⟩ := hO8.ints
      have hz := RdIX.new (X := X) (w := w9) hi8 hk8 (fun b hb _ => .inl hb.1) hX.hi
      go_wp2_with fail
      exact hK _ _ X hE8 kept_m (hX.ext hE8) hz
    · refine ⟨_, 15, rfl, by kernel_rfl, ?_⟩
      intro u w9 X hE hX hd K hK
      have d1 : u 12 = .int .i64 kx := hd 1 (by kernel_rfl)
      have d3 : RdIX X w9 t (u 14) := hd 3 (by kernel_rfl)
      clear hd
      simp only [overlay, List.setIfInBounds_toArray, List.set, d1] at hK ⊢
      obtain ⟨x1, y1, hv1, hk1, hi1⟩ := d3
      simp only [hv1] at hK ⊢
      go_wp2_with fail
      exact hK _ _ X (Ext.refl _) kept_m hX (rdx_mk1 kx hkx hk1 hi1)
    · refine ⟨_, 9, rfl, by kernel_rfl, ?_⟩
      intro u w9 X hE hX hd K hK
      clear hd
      simp only [overlay, List.setIfInBounds_toArray, List.set] at hK ⊢
      go_wp2_with fail
      exact hK _ _ (fun b => X b ∨ b = w9.heap.size) ((Ext.refl _).alloc _) added_m (hX.add hE _) ⟨_, rfl, box_new _ _ _ _ _, .inr rfl⟩
  · exact mem_nil_m
  intro u w9 X hE hX hd
  have d0 : u 11 = .pointer (some ⟨w.heap.size, 0, none⟩) := hd 0 (by decide)
  have d1 : u 12 = .int .i64 kx := hd 1 (by decide)
  have d2 : u 13 = .slice pt t.length mt := hd 2 (by decide)
  have d3 : RdIX X w9 t (u 14) := hd 3 (by decide)
  have d4 : RdX X w9 (Arr.mk kx t [] []) (u 15) := hd 4 (by decide)
  have d5 : ∃ b, u 9 = .pointer (some ⟨b, 0, none⟩) ∧ Box4 w9 b (.int .i64 0) (.slice none 0 0) (.slice none 0 0) (.slice none 0 0) ∧ X b := hd 5 (by decide)
  clear hd
  simp only [overlay, List.setIfInBounds_toArray, List.set, d0, d1, d2]
  have e9 : Ext w2 w9 := (Ext.refl w2).drew.trans hE
  obtain ⟨boz1, hvb, hbox, hxb⟩ := d5
  obtain ⟨c0, c1, c2, c3, hva, hA9⟩ := d4
  obtain ⟨kz1, paz1, laz1, maz1, pbz1, lbz1, mbz1, pcz1, lcz1, mcz1, rfl, rfl, rfl, rfl⟩ := hA9.form
  have hbo := hX boz1 hxb
  have HBO := Lib.hid hbo.1
  simp only [hvb, hva]
  obtain ⟨s0, s1, s2, s3⟩ := hbox.cell
  have f0 := hbox.free 0
  have f1 := hbox.free 1
  have f2 := hbox.free 2
  have f3 := hbox.free 3
  obtain ⟨gg1, gg2, gg3⟩ := hbox.put4 e9 hbo.1 (.int .i64 kz1) (.slice paz1 laz1 maz1) (.slice pbz1 lbz1 mbz1) (.slice pcz1 lcz1 mcz1)
  have hAn := ArrAt.mono (G := fun b => b ≠ boz1) (fun b hb _ => ⟨fun e => hb.2 (by rw [e]; exact hxb), gg3 b (fun e => hb.2 (by rw [e]; exact hxb))⟩) _ _ _ _ _ hA9
  have HGG := Lib.hid (And.intro gg1 (And.intro gg2 hAn))
  clear gg1 gg2 gg3 hAn hA9 hbo hxb hbox
  clear d0 d1 d2 d3
  clear hX hE
  generalize u 14 = t14z1 at *
  clear hvb hva
  clear u
  go_wp2_with fail
  refine OnlyN.mk ?_
  obtain ⟨gg1, gg2, hAn⟩ := HGG.out
  clear HGG s0 s1 s2 s3 f0 f1 f2 f3 e9
  generalize ((((w9.setCell ⟨boz1, 0, none⟩ (.int .i64 kz1)).setCell ⟨boz1, 1, none⟩ (.slice paz1 laz1 maz1)).setCell ⟨boz1, 2, none⟩ (.slice pbz1 lbz1 mbz1)).setCell ⟨boz1, 3, none⟩ (.slice pcz1 lcz1 mcz1)) = wk2 at *
  replace HBx := Lib.hid (HBx.out.ext gg1)
  replace HBr := Lib.hid (HBr.out.ext gg1)
  replace HE := Lib.hid (HE.out.trans (gg1))
  have HBo := Lib.hid gg2
  have HAo := Lib.hid hAn
  clear gg1 gg2 hAn
  have hao := HAo.out
  unfold ArrAt at hao
  obtain ⟨e0, _, ⟨_, _, e1, ⟨u1, u1', u1''⟩, iS⟩, ⟨_, _, e2, k2, _⟩, ⟨_, _, e3, k3, _⟩⟩ := hao
  cases e0
  cases e1
  cases e2
  cases e3
  have HS := Lib.hid iS
  clear iS HAo
  obtain ⟨b, hb⟩ : ∃ b : Nat, b = a + z := ⟨_, rfl⟩
  have hbb : b ≤ 17592186044416 := by
    by_cases h3 : kx = 3
    · have := HBI.out h3; omega
    · have := HBN.out h3; omega
  have hws : IntKind.i64.wrap ((a : Int) + (z : Int)) = (b : Int) := by
    rw [IntWalk.i64_in _ (by omega)]; omega
  have hbz : b - a = z := by omega
  obtain ⟨x0, x1, x2, x3⟩ := HBx.out.cell
  obtain ⟨s0, s1, s2, s3⟩ := HBo.out.cell
  obtain ⟨r0, r1, r2, r3⟩ := HBr.out.cell
  have f2 := HBo.out.free 2
  have f3 := HBo.out.free 3
  have y0 := HBr.out.free 0
  have y1 := HBr.out.free 1
  have y2 := HBr.out.free 2
  have y3 := HBr.out.free 3
  by_cases hk3 : kx = 3
  · subst hk3
    have hle := HBI.out rfl
    have hrun := fun w => slice_lhmA p3 ix.length m3 w a b (by omega) (by omega)
    rw [hbz] at hrun
    have HCUT := Lib.hid (HI.out.part a z b hb)
    generalize cutAt p3 a b 4 = pc at *
    have HHB := Lib.hid hb
    clear hb
    go_wp2_with fail
    have hE7 : Ext w (wk2.setCell ⟨boz1, 3, none⟩ (.slice pc z z)) := HE.out.setCell (p := ⟨boz1, 3, none⟩) (by have := HBO.out; have := HEw.out.lt; simp only [World.drew] at *; omega) _
    have hfar : ∀ q, q ≠ boz1 → (wk2.setCell ⟨boz1, 3, none⟩ (.slice pc z z)).heap[q]? = wk2.heap[q]? := fun q hq => Below.heap_setCell _ _ _ _ hq
    have hS7 := HS.out.mono (G := fun _ => True) (w' := wk2.setCell ⟨boz1, 3, none⟩ (.slice pc z z)) (fun q hq _ => ⟨trivial, hfar q hq⟩)
    have hr7 := HBr.out.kept (hfar (w.heap.size + 1) (fun e => absurd HBO.out (by have := HSZ.out; rw [← e]; simp only [World.drew]; omega)))
    have hc7 := HCUT.out.ext hE7
    generalize wk2.setCell ⟨boz1, 3, none⟩ (.slice pc z z) = w7 at *
    have hA7 : ArrAt (fun _ => True) w7 (Arr.mk 3 t [] ((ix.drop a).take z)) (.int .i64 3) (.slice paz1 t.length maz1) (.slice pbz1 0 mbz1) (.slice pc z z) := by
      unfold ArrAt
      exact ⟨rfl, hkx, ⟨_, _, rfl, ⟨u1, u1', u1''⟩, hS7⟩, ⟨_, _, rfl, k2, fun i hi => by simp at hi⟩, ⟨_, _, by rw [show ((ix.drop a).take z).length = z by rw [List.length_take, List.length_drop]; omega], by rw [show ((ix.drop a).take z).length = z by rw [List.length_take, List.length_drop]; omega]; exact ⟨Nat.le_refl _, by omega, by omega⟩, ItemsAt.mono (fun q _ _ => ⟨trivial, rfl⟩) _ _ _ hc7⟩⟩
    have HVV := Lib.hid (show fv = (Arr.mk 3 t [] ((ix.drop a).take z)) by rw [HV.out]; simp)
    clear x0 x1 x2 x3 s0 s1 s2 s3 r0 r1 r2 r3 f2 f3 y0 y1 y2 y3 hS7 hc7 hfar HCUT HBr HS HV
    refine (clone_any (SizeOf.sizeOf (Arr.mk 3 t [] ((ix.drop a).take z)) + 1) (fun _ => True) (Arr.mk 3 t [] ((ix.drop a).take z)) _ _ _ _ _ (by omega) hA7).mono ?_
    rintro e w8 ⟨y0', y1', y2', y3', rfl, hy', hE8⟩
    obtain ⟨yk, pq1, mm1, n1, pq2, mm2, n2, pq3, mm3, n3, rfl, rfl, rfl, rfl⟩ := hy'.form
    have hr8 := hr7.ext hE8
    obtain ⟨g1, g2, g3⟩ := hr8.put4 (hE7.trans hE8) (by omega) (.int .i64 yk) (.slice pq1 mm1 n1) (.slice pq2 mm2 n2) (.slice pq3 mm3 n3)
    have hlt7 := hr7.lt
    have hY := ArrAt.mono (G := fun q => w.heap.size ≤ q) (fun q hq _ => ⟨Nat.le_trans hE7.lt hq, g3 q (fun e => by omega)⟩) _ _ _ _ _ hy'
    have HG := Lib.hid (And.intro g1 (And.intro g2 hY))
    obtain ⟨r0, r1, r2, r3⟩ := hr8.cell
    have y0 := hr8.free 0
    have y1 := hr8.free 1
    have y2 := hr8.free 2
    have y3 := hr8.free 3
    clear g1 g2 g3 hY hy' hr7 hA7 hE7 hE8
    go_wp2_with fail
    obtain ⟨g1, g2, hY⟩ := HG.out
    clear HG r0 r1 r2 r3
    revert g1 g2 hY
    generalize ((((w8.setCell ⟨w.heap.size + 1, 0, none⟩ (.int .i64 yk)).setCell ⟨w.heap.size + 1, 1, none⟩ (.slice pq1 mm1 n1)).setCell ⟨w.heap.size + 1, 2, none⟩ (.slice pq2 mm2 n2)).setCell ⟨w.heap.size + 1, 3, none⟩ (.slice pq3 mm3 n3)) = w10
    intro g1 g2 hY
    obtain ⟨z0, z1, z2, z3⟩ := g2.cell
    refine bodyPost_ret (v := .agg #[.int .i64 yk, .slice pq1 mm1 n1, .slice pq2 mm2 n2, .slice pq3 mm3 n3]) ?_ rfl ⟨_, _, _, _, rfl, by rw [HVV.out]; exact hY, g1⟩
    simp [results, Try.results159, go_sem, z0, z1, z2, z3]
  · have hle := HBN.out hk3
    have hrun := fun w => slice_lhm p2 nx.length m2 w a b (by omega) (by omega)
    rw [hbz] at hrun
    have HCUT := Lib.hid (HN.out.part a z b hb)
    generalize cutAt p2 a b 1 = pc at *
    have hk3' : (kx == 3) = false := by simpa using hk3
    have HHB := Lib.hid hb
    clear hb
    go_wp2_with fail
    have hE7 : Ext w (wk2.setCell ⟨boz1, 2, none⟩ (.slice pc z z)) := HE.out.setCell (p := ⟨boz1, 2, none⟩) (by have := HBO.out; have := HEw.out.lt; simp only [World.drew] at *; omega) _
    have hfar : ∀ q, q ≠ boz1 → (wk2.setCell ⟨boz1, 2, none⟩ (.slice pc z z)).heap[q]? = wk2.heap[q]? := fun q hq => Below.heap_setCell _ _ _ _ hq
    have hS7 := HS.out.mono (G := fun _ => True) (w' := wk2.setCell ⟨boz1, 2, none⟩ (.slice pc z z)) (fun q hq _ => ⟨trivial, hfar q hq⟩)
    have hr7 := HBr.out.kept (hfar (w.heap.size + 1) (fun e => absurd HBO.out (by have := HSZ.out; rw [← e]; simp only [World.drew]; omega)))
    have hc7 := HCUT.out.ext hE7
    generalize wk2.setCell ⟨boz1, 2, none⟩ (.slice pc z z) = w7 at *
    have hA7 : ArrAt (fun _ => True) w7 (Arr.mk kx t ((nx.drop a).take z) []) (.int .i64 kx) (.slice paz1 t.length maz1) (.slice pc z z) (.slice pcz1 0 mcz1) := by
      unfold ArrAt
      exact ⟨rfl, hkx, ⟨_, _, rfl, ⟨u1, u1', u1''⟩, hS7⟩, ⟨_, _, by rw [show ((nx.drop a).take z).length = z by rw [List.length_take, List.length_drop]; omega], by rw [show ((nx.drop a).take z).length = z by rw [List.length_take, List.length_drop]; omega]; exact ⟨Nat.le_refl _, by omega, by omega⟩, hc7.mono (fun q _ _ => ⟨trivial, rfl⟩)⟩, ⟨_, _, rfl, k3, by unfold ItemsAt; trivial⟩⟩
    have HVV := Lib.hid (show fv = (Arr.mk kx t ((nx.drop a).take z) []) by rw [HV.out]; simp [hk3])
    clear x0 x1 x2 x3 s0 s1 s2 s3 r0 r1 r2 r3 f2 f3 y0 y1 y2 y3 hS7 hc7 hfar HCUT HBr HS HV
    refine (clone_any (SizeOf.sizeOf (Arr.mk kx t ((nx.drop a).take z) []) + 1) (fun _ => True) (Arr.mk kx t ((nx.drop a).take z) []) _ _ _ _ _ (by omega) hA7).mono ?_
    rintro e w8 ⟨y0', y1', y2', y3', rfl, hy', hE8⟩
    obtain ⟨yk, pq1, mm1, n1, pq2, mm2, n2, pq3, mm3, n3, rfl, rfl, rfl, rfl⟩ := hy'.form
    have hr8 := hr7.ext hE8
    obtain ⟨g1, g2, g3⟩ := hr8.put4 (hE7.trans hE8) (by omega) (.int .i64 yk) (.slice pq1 mm1 n1) (.slice pq2 mm2 n2) (.slice pq3 mm3 n3)
    have hlt7 := hr7.lt
    have hY := ArrAt.mono (G := fun q => w.heap.size ≤ q) (fun q hq _ => ⟨Nat.le_trans hE7.lt hq, g3 q (fun e => by omega)⟩) _ _ _ _ _ hy'
    have HG := Lib.hid (And.intro g1 (And.intro g2 hY))
    obtain ⟨r0, r1, r2, r3⟩ := hr8.cell
    have y0 := hr8.free 0
    have y1 := hr8.free 1
    have y2 := hr8.free 2
    have y3 := hr8.free 3
    clear g1 g2 g3 hY hy' hr7 hA7 hE7 hE8
    go_wp2_with fail
    obtain ⟨g1, g2, hY⟩ := HG.out
    clear HG r0 r1 r2 r3
    revert g1 g2 hY
    generalize ((((w8.setCell ⟨w.heap.size + 1, 0, none⟩ (.int .i64 yk)).setCell ⟨w.heap.size + 1, 1, none⟩ (.slice pq1 mm1 n1)).setCell ⟨w.heap.size + 1, 2, none⟩ (.slice pq2 mm2 n2)).setCell ⟨w.heap.size + 1, 3, none⟩ (.slice pq3 mm3 n3)) = w10
    intro g1 g2 hY
    obtain ⟨z0, z1, z2, z3⟩ := g2.cell
    refine bodyPost_ret (v := .agg #[.int .i64 yk, .slice pq1 mm1 n1, .slice pq2 mm2 n2, .slice pq3 mm3 n3]) ?_ rfl ⟨_, _, _, _, rfl, by rw [HVV.out]; exact hY, g1⟩
    simp [results, Try.results159, go_sem, z0, z1, z2, z3]

end Go.Proofs.Ytgkemmdghmklfaa

namespace Go.Proofs.Ytgkemmdghmklfaa
set_option linter.unusedSimpArgs false
set_option linter.unusedVariables false

/-! ### Counting on is counting -/
def pp : List Int → Int
  | [] => 1
  | d :: r => d * pp r
def W : List Int → List Int → Int
  | _ :: r, x :: q => x * pp r + W r q
  | _, _ => 0
def Pos (s : List Int) : Prop := ∀ j, j < s.length → 0 < s.getD j 0
theorem Pos.head {d : Int} {r : List Int} (h : Pos (d :: r)) : 0 < d := by simpa using h 0 (by simp)
theorem Pos.tail {d : Int} {r : List Int} (h : Pos (d :: r)) : Pos r := fun j hj => by simpa using h (j + 1) (by simpa using hj)
theorem Within.tail {d x : Int} {r q : List Int} (h : Within (d :: r) (x :: q)) : Within r q := ⟨by simpa using h.1, fun j hj => by simpa using h.2 (j + 1) (by simpa using hj)⟩
theorem Within.head {d x : Int} {r q : List Int} (h : Within (d :: r) (x :: q)) : 0 ≤ x ∧ x < d := by simpa using h.2 0 (by simp)
theorem pp_pos : ∀ (s : List Int), Pos s → 0 < pp s
  | [], _ => by simp [pp]
  | d :: r, h => by rw [pp]; exact Int.mul_pos h.head (pp_pos r h.tail)
theorem pp_prodA : ∀ (s : List Int) (p : Int), Pos s → prodA p s = p * pp s
  | [], p, _ => by simp [prodA, pp]
  | d :: r, p, h => by
    have := h.head
    rw [prodA, if_neg (by omega), pp_prodA r _ h.tail, pp, Int.mul_assoc]
theorem W_bd : ∀ (s t : List Int), Pos s → Within s t → 0 ≤ W s t ∧ W s t < pp s
  | [], [], _, _ => by simp [W, pp]
  | [], _ :: _, _, h => by have := h.1; simp at this
  | _ :: _, [], _, h => by have := h.1; simp at this
  | d :: r, x :: q, hp, h => by
    rw [W, pp]
    have h1 := W_bd r q hp.tail h.tail
    have h2 := h.head
    have h3 := pp_pos r hp.tail
    have e1 : 0 ≤ x * pp r := Int.mul_nonneg h2.1 (by omega)
    have e2 : x * pp r ≤ (d - 1) * pp r := Int.mul_le_mul_of_nonneg_right (by omega) (by omega)
    rw [Int.sub_mul, Int.one_mul] at e2
    omega
theorem W_set : ∀ (s t : List Int) (i : Nat) (v : Int), t.length = s.length → i < t.length → W s (t.set i v) = W s t + (v - t.getD i 0) * pp (s.drop (i + 1))
  | [], t, i, v, h, hi => by simp at h; subst h; simp at hi
  | _ :: _, [], _, _, h, _ => by simp at h
  | d :: r, x :: q, 0, v, h, hi => by
    simp only [List.set_cons_zero, W, List.getD_cons_zero, List.drop_succ_cons, List.drop_zero, Int.sub_mul]
    omega
  | d :: r, x :: q, i + 1, v, h, hi => by
    simp only [List.set_cons_succ, W, List.getD_cons_succ, List.drop_succ_cons]
    rw [W_set r q i v (by simpa using h) (by simpa using hi)]
    omega
theorem pp_drop {s : List Int} {i : Nat} (h : i < s.length) : pp (s.drop i) = s.getD i 0 * pp (s.drop (i + 1)) := by
  rw [drop_getD h, pp]
theorem bump_W (s : List Int) (hp : Pos s) : ∀ (i : Nat) (t : List Int), i ≤ s.length → Within s t → W s t + pp (s.drop i) < pp s → W s (bump s i t) = W s t + pp (s.drop i)
  | 0, t, _, ht, h => by
    have := (W_bd s t hp ht).1
    rw [List.drop_zero] at h
    omega
  | i + 1, t, hi, ht, h => by
    have hl : i < t.length := by rw [ht.1]; omega
    have hti := ht.2 i (by omega)
    rw [bump]
    split
    · rw [W_set s t i _ ht.1 hl]
      have e : t.getD i 0 + 1 - t.getD i 0 = 1 := by omega
      rw [e, Int.one_mul]
    · rename_i hc
      have hx : t.getD i 0 = s.getD i 0 - 1 := by omega
      have e1 : W s (t.set i 0) + pp (s.drop i) = W s t + pp (s.drop (i + 1)) := by
        rw [W_set s t i 0 ht.1 hl, pp_drop (show i < s.length by omega), hx]
        have : (0 - (s.getD i 0 - 1)) * pp (s.drop (i + 1)) = pp (s.drop (i + 1)) - s.getD i 0 * pp (s.drop (i + 1)) := by
          rw [show (0 - (s.getD i 0 - 1)) = 1 - s.getD i 0 by omega, Int.sub_mul, Int.one_mul]
        omega
      have hw : Within s (t.set i 0) := ⟨by rw [List.length_set]; exact ht.1, fun j hj => by
        rw [getD_set hl]
        have := ht.2 j hj
        have := hp j hj
        split <;> omega⟩
      rw [bump_W s hp i _ (by omega) hw (by omega), e1]
theorem idxOf_W : ∀ (s t : List Int), Pos s → Within s t → idxOf s (W s t) = t
  | [], [], _, _ => rfl
  | [], _ :: _, _, h => by have := h.1; simp at this
  | _ :: _, [], _, h => by have := h.1; simp at this
  | d :: r, x :: q, hp, h => by
    have h1 := W_bd r q hp.tail h.tail
    have h3 := pp_pos r hp.tail
    rw [idxOf, W, pp_prodA r 1 hp.tail, Int.one_mul]
    have e1 : (x * pp r + W r q) / pp r = x := by
      rw [Int.add_comm, Int.add_mul_ediv_right _ _ (by omega), Int.ediv_eq_zero_of_lt h1.1 h1.2, Int.zero_add]
    have e2 : (x * pp r + W r q) % pp r = W r q := by
      rw [Int.add_comm, Int.add_mul_emod_self_right, Int.emod_eq_of_lt h1.1 h1.2]
    rw [e1, e2, idxOf_W r q hp.tail h.tail]

theorem movedGo_range {α : Type} (val : List Int → α) (s : List Int) (hp : Pos s) : ∀ (n : Nat) (t : List Int), Within s t → W s t + n ≤ pp s →
    movedGo val s n t = (List.range n).map fun (k : Nat) => val (idxOf s (W s t + k))
  | 0, _, _, _ => rfl
  | n + 1, t, ht, h => by
    rw [movedGo, List.range_succ_eq_map, List.map_cons, List.map_map]
    congr 1
    · rw [show (W s t + ((0 : Nat) : Int)) = W s t by omega, idxOf_W s t hp ht]
    · rcases Nat.eq_zero_or_pos n with rfl | hn
      · rfl
      · have hb := bump_W s hp s.length t (Nat.le_refl _) ht (by rw [List.drop_length, pp]; omega)
        rw [List.drop_length, pp] at hb
        rw [ht.1, movedGo_range val s hp n _ (bump_within s hp _ _ (Nat.le_refl _) ht) (by omega), hb]
        apply List.map_congr_left
        intro k _
        simp only [Function.comp]
        congr 2
        omega
theorem W_zero : ∀ (s : List Int), W s (List.replicate s.length 0) = 0
  | [] => rfl
  | d :: r => by rw [List.length_cons, List.replicate_succ, W, W_zero r]; simp

/-- From the beginning. -/
theorem movedGo_all {α : Type} (val : List Int → α) (s : List Int) : movedGo val s (shapeSize s).toNat (List.replicate s.length 0) = (List.range (shapeSize s).toNat).map fun (k : Nat) => val (idxOf s k) := by
  by_cases h : 0 < shapeSize s
  · have hp : Pos s := shapeSize_pos h
    have hr : shapeRight s = true := by
      unfold shapeSize at h
      split at h
      · assumption
      · omega
    have he : shapeSize s = pp s := by
      rw [shapeSize, if_pos hr, ← prodA_volOf, pp_prodA s 1 hp, Int.one_mul]
    rw [movedGo_range val s hp _ _ (within_zero s hp) (by rw [W_zero, he]; have := pp_pos s hp; omega)]
    simp [W_zero]
  · have h0 : (shapeSize s).toNat = 0 := by omega
    rw [h0]; rfl
end Go.Proofs.Ytgkemmdghmklfaa

namespace Go.Proofs.Ytgkemmdghmklfaa
set_option linter.unusedSimpArgs false
set_option linter.unusedVariables false
open Go.RowKit

theorem rightGo_take : ∀ (s : List Int) (p : Int) (k : Nat), rightGo p s = true → rightGo p (s.take k) = true
  | [], p, k, h => by rw [List.take_nil]; exact h
  | d :: r, p, 0, h => by rw [List.take_zero]; rfl
  | d :: r, p, k + 1, h => by
    rw [List.take_succ_cons]
    rw [rightGo] at h ⊢
    split
    · rename_i h1; rw [if_pos h1] at h; cases h
    · rename_i h1
      rw [if_neg h1] at h
      split
      · rename_i h2; rw [if_pos h2] at h; exact rightGo_take r p k h
      · rename_i h2
        rw [if_neg h2] at h
        split
        · rename_i h3; rw [if_pos h3] at h; cases h
        · rename_i h3; rw [if_neg h3] at h; exact rightGo_take r _ k h
theorem prodA_zero : ∀ (s : List Int), prodA 0 s = 0
  | [] => rfl
  | d :: r => by rw [prodA]; split; rfl; rw [Int.zero_mul]; exact prodA_zero r
theorem prodA_app : ∀ (a b : List Int) (p : Int), prodA p (a ++ b) = prodA (prodA p a) b
  | [], b, p => rfl
  | d :: r, b, p => by
    rw [List.cons_append, prodA, prodA]
    split
    · exact (prodA_zero b).symm
    · exact prodA_app r b _
theorem size_prodA {s : List Int} (h : rightGo 1 s = true) (h8 : s.length ≤ 8) : shapeSize s = prodA 1 s := by
  unfold shapeSize
  rw [if_pos (by simp only [shapeRight, h, Bool.and_true, decide_eq_true_eq]; exact h8), ← prodA_volOf]
theorem size_split {s : List Int} (h : rightGo 1 s = true) (h8 : s.length ≤ 8) (k : Nat) : shapeSize s = shapeSize (s.take k) * shapeSize (s.drop k) ∧ 0 ≤ shapeSize (s.take k) ∧ shapeSize (s.take k) ≤ 65536 ∧ 0 ≤ shapeSize (s.drop k) ∧ shapeSize (s.drop k) ≤ 65536 := by
  have h1 := rightGo_take s 1 k h
  have h2 := rightGo_drop s k h
  rw [size_prodA h h8, size_prodA h1 (by rw [List.length_take]; omega), size_prodA h2 (by rw [List.length_drop]; omega)]
  refine ⟨?_, prodA_nonneg _ 1 (by omega) h1, prodA_le _ 1 (by omega) (by omega) h1, prodA_nonneg _ 1 (by omega) h2, prodA_le _ 1 (by omega) (by omega) h2⟩
  conv => lhs; rw [← List.take_append_drop k s, prodA_app, prodA_scale]
end Go.Proofs.Ytgkemmdghmklfaa

namespace Go.Proofs.Ytgkemmdghmklfaa
set_option linter.unusedSimpArgs false
set_option linter.unusedVariables false

/-- The shape with leading ones, up to n axes. -/
def leadV (s : List Int) (n : Nat) : List Int := List.replicate (n - s.length) 1 ++ s
theorem leadV_len {s : List Int} {n : Nat} (h : s.length ≤ n) : (leadV s n).length = n := by simp [leadV]; omega
theorem leadV_self (s : List Int) : leadV s s.length = s := by simp [leadV]
def inGo : List Int → List Int → Bool
  | f :: r, x :: t => decide (x < f) && inGo r t
  | _, _ => true
def atIn : List Int → List Int → Int → Int
  | f :: r, x :: t, acc => atIn r t (acc * f + x)
  | _, _, acc => acc
def padEl {α : Type} (get : Nat → α) (fill : α) (fr t : List Int) : α := if inGo fr t = true then get (atIn fr t 0).toNat else fill
/-- The elements of the padded array. -/
def padL {α : Type} (get : Nat → α) (fill : α) (fr s : List Int) : List α := movedGo (padEl get fill fr) s (shapeSize s).toNat (List.replicate s.length 0)
def rputV {α : Type} (get : Nat → α) (fill : α) : List Int → List Int → Nat → List α
  | _, [], o => [get o]
  | fr, t :: tr, o => (List.range t.toNat).flatMap fun (i : Nat) => if (i : Int) < fr.headD 0 ∧ 0 < shapeSize fr.tail then rputV get fill fr.tail tr (o + i * (shapeSize fr.tail).toNat) else List.replicate (shapeSize tr).toNat fill

/-- The shape fits into the greater one. -/
def FrOk (fr s : List Int) : Prop := fr.length = s.length ∧ ∀ j, j < s.length → 0 ≤ fr.getD j 0 ∧ fr.getD j 0 ≤ s.getD j 0
theorem FrOk.head {f d : Int} {q r : List Int} (h : FrOk (f :: q) (d :: r)) : 0 ≤ f ∧ f ≤ d := by simpa using h.2 0 (by simp)
theorem FrOk.tail {f d : Int} {q r : List Int} (h : FrOk (f :: q) (d :: r)) : FrOk q r := ⟨by simpa using h.1, fun j hj => by simpa using h.2 (j + 1) (by simpa using hj)⟩
theorem FrOk.right : ∀ (fr s : List Int) (p q : Int), FrOk fr s → 0 ≤ p → p ≤ q → rightGo q s = true → rightGo p fr = true
  | [], _, _, _, _, _, _, _ => rfl
  | _ :: _, [], _, _, h, _, _, _ => by have := h.1; simp at this
  | f :: u, d :: r, p, q, h, hp, hpq, hr => by
    have hh := h.head
    rw [rightGo] at hr ⊢
    by_cases h1 : d < 0 ∨ 65536 < d
    · rw [if_pos h1] at hr; cases hr
    · rw [if_neg h1] at hr
      rw [if_neg (by omega)]
      by_cases h2 : d = 0
      · rw [if_pos h2] at hr
        rw [if_pos (by omega)]
        exact FrOk.right u r p q h.tail hp hpq hr
      · rw [if_neg h2] at hr
        by_cases h3 : 65536 < q * d
        · rw [if_pos h3] at hr; cases hr
        · rw [if_neg h3] at hr
          by_cases h4 : f = 0
          · rw [if_pos h4]
            have : q * 1 ≤ q * d := Int.mul_le_mul_of_nonneg_left (by omega) (by omega)
            exact FrOk.right u r p (q * d) h.tail hp (by omega) hr
          · have e : p * f ≤ q * d := Int.mul_le_mul hpq hh.2 hh.1 (by omega)
            rw [if_neg h4, if_neg (by omega)]
            exact FrOk.right u r _ (q * d) h.tail (Int.mul_nonneg hp hh.1) e hr
theorem pp_nn : ∀ (s : List Int), (∀ x ∈ s, 0 ≤ x) → 0 ≤ pp s
  | [], _ => by simp [pp]
  | d :: r, h => by rw [pp]; exact Int.mul_nonneg (h d (by simp)) (pp_nn r fun x hx => h x (by simp [hx]))
theorem W_nn : ∀ (s t : List Int), (∀ x ∈ s, 0 ≤ x) → (∀ x ∈ t, 0 ≤ x) → 0 ≤ W s t
  | [], _, _, _ => by simp [W]
  | _ :: _, [], _, _ => by simp [W]
  | d :: r, x :: q, h, ht => by
    rw [W]
    have h1 := W_nn r q (fun x hx => h x (by simp [hx])) (fun x hx => ht x (by simp [hx]))
    have h2 := Int.mul_nonneg (ht x (by simp)) (pp_nn r fun x hx => h x (by simp [hx]))
    omega
theorem atIn_W : ∀ (s t : List Int) (acc : Int), s.length = t.length → atIn s t acc = acc * pp s + W s t
  | [], [], acc, _ => by simp [atIn, pp, W]
  | [], _ :: _, _, h => by simp at h
  | _ :: _, [], _, h => by simp at h
  | d :: r, x :: q, acc, h => by
    rw [atIn, atIn_W r q _ (by simpa using h), pp, W, Int.add_mul, Int.mul_assoc]
    omega
theorem inGo_pos : ∀ (s t : List Int), s.length = t.length → (∀ x ∈ t, 0 ≤ x) → inGo s t = true → Pos s
  | [], _, _, _, _ => fun j hj => by simp at hj
  | _ :: _, [], h, _, _ => by simp at h
  | d :: r, x :: q, h, ht, hi => by
    simp only [inGo, Bool.and_eq_true, decide_eq_true_eq] at hi
    have h1 := inGo_pos r q (by simpa using h) (fun x hx => ht x (by simp [hx])) hi.2
    have h2 := ht x (by simp)
    intro j hj
    cases j with
    | zero => simp; omega
    | succ j => simpa using h1 j (by simpa using hj)
theorem prodA_pos_pp {s : List Int} (h : Pos s) : prodA 1 s = pp s := by rw [pp_prodA s 1 h, Int.one_mul]
theorem pos_of_prodA : ∀ (s : List Int), rightGo 1 s = true → 0 < prodA 1 s → Pos s
  | [], _, _ => fun j hj => by simp at hj
  | d :: r, hr, h => by
    have hd : d ≠ 0 := by
      intro e
      rw [prodA, if_pos e] at h
      omega
    obtain ⟨h2, _, _, _⟩ := rightGo_cons hr hd
    rw [prodA, if_neg hd, prodA_scale, Int.one_mul] at h
    have h3 := prodA_nonneg r 1 (by omega) (rightGo_tail hr)
    have h4 : 0 < prodA 1 r := by
      rcases (show prodA 1 r = 0 ∨ 0 < prodA 1 r from by omega) with e | e
      · rw [e] at h; simp at h
      · exact e
    have h5 := pos_of_prodA r (rightGo_tail hr) h4
    intro j hj
    cases j with
    | zero => simp; omega
    | succ j => simpa using h5 j (by simpa using hj)
theorem within_mem {s t : List Int} (h : Within s t) : ∀ x ∈ t, 0 ≤ x := by
  intro x hx
  obtain ⟨j, hj, e⟩ := List.mem_iff_getElem.1 hx
  have := (h.2 j (by rw [← h.1]; exact hj)).1
  simp only [List.getD, hj, List.getElem?_eq_getElem, Option.getD_some] at this
  rw [← e]; exact this
theorem range_mul {α : Type} (g : Nat → α) (m : Nat) : ∀ (D : Nat), (List.range (D * m)).map g = (List.range D).flatMap fun i => (List.range m).map fun j => g (i * m + j)
  | 0 => by simp
  | D + 1 => by
    rw [Nat.succ_mul, List.range_add, List.map_append, range_mul g m D, List.range_succ, List.flatMap_append]
    simp [List.map_map, Function.comp_def]
theorem prodA_cons_nat {d : Int} {r : List Int} (hr : rightGo 1 (d :: r) = true) : (prodA 1 (d :: r)).toNat = d.toNat * (prodA 1 r).toNat := by
  rw [prodA]
  split
  · rename_i h; simp [h]
  · rename_i h
    obtain ⟨h2, _, _, _⟩ := rightGo_cons hr h
    rw [prodA_scale, Int.one_mul, Int.toNat_mul (by omega) (prodA_nonneg r 1 (by omega) (rightGo_tail hr))]
theorem idxOf_cons {d : Int} {r : List Int} {i j : Nat} (hm : j < (prodA 1 r).toNat) : idxOf (d :: r) ((i * (prodA 1 r).toNat + j : Nat) : Int) = (i : Int) :: idxOf r (j : Int) := by
  obtain ⟨m, hm'⟩ : ∃ m : Nat, prodA 1 r = m := ⟨(prodA 1 r).toNat, by omega⟩
  rw [idxOf, hm']
  rw [hm', Int.toNat_natCast] at hm
  rw [Int.toNat_natCast]
  have e1 : ((i * m + j : Nat) : Int) / (m : Int) = (i : Int) := by
    rw [← Int.natCast_ediv, Nat.add_comm, Nat.add_mul_div_right _ _ (by omega), Nat.div_eq_of_lt hm, Nat.zero_add]
  have e2 : ((i * m + j : Nat) : Int) % (m : Int) = (j : Int) := by
    rw [← Int.natCast_emod, Nat.add_comm, Nat.add_mul_mod_self_right, Nat.mod_eq_of_lt hm]
  rw [e1, e2]
theorem map_const {α : Type} (g : Nat → α) (a : α) (m : Nat) (h : ∀ j, j < m → g j = a) : (List.range m).map g = List.replicate m a := by
  rw [List.eq_replicate_iff]
  refine ⟨by simp, fun b hb => ?_⟩
  obtain ⟨j, hj, e⟩ := List.mem_map.1 hb
  rw [← e]; exact h j (List.mem_range.1 hj)

theorem flatMap_congr' {α β : Type} {f g : α → List β} : ∀ (l : List α), (∀ x ∈ l, f x = g x) → l.flatMap f = l.flatMap g
  | [], _ => rfl
  | x :: r, h => by rw [List.flatMap_cons, List.flatMap_cons, h x (by simp), flatMap_congr' r fun y hy => h y (by simp [hy])]
theorem rput_map {α : Type} (get : Nat → α) (fill : α) : ∀ (s fr : List Int) (o : Nat), rightGo 1 s = true → s.length ≤ 8 → FrOk fr s →
    rputV get fill fr s o = (List.range (prodA 1 s).toNat).map fun (k : Nat) => if inGo fr (idxOf s k) = true then get (o + (W fr (idxOf s k)).toNat) else fill
  | [], fr, o, _, _, hf => by
    have : fr = [] := List.eq_nil_of_length_eq_zero hf.1
    subst this
    simp [rputV, prodA, idxOf, inGo, W]
  | d :: r, [], _, _, _, hf => by have := hf.1; simp at this
  | d :: r, f :: q, o, hr, h8, hf => by
    have hr' := rightGo_tail hr
    have h8' : r.length ≤ 8 := by simp at h8; omega
    have hq := FrOk.right q r 1 1 hf.tail (by omega) (by omega) hr'
    have hql : q.length ≤ 8 := by rw [hf.tail.1]; exact h8'
    rw [rputV, prodA_cons_nat hr, range_mul, List.headD_cons, List.tail_cons, size_prodA hr' h8', size_prodA hq hql]
    apply flatMap_congr'
    intro i hi
    have hnn : ∀ x ∈ q, 0 ≤ x := fun x hx => (rightGo_nonneg q 1 hq x hx).1
    have hidx : ∀ j, j < (prodA 1 r).toNat → Within r (idxOf r j) := fun j hj => idxOf_within r j hr' (by omega) (by omega)
    have hlen : ∀ j : Nat, q.length = (idxOf r (j : Int)).length := fun j => by rw [idxOf_length, hf.tail.1]
    split
    · rename_i hc
      rw [rput_map get fill r q _ hr' h8' hf.tail]
      apply List.map_congr_left
      intro j hj
      have hj' := List.mem_range.1 hj
      rw [idxOf_cons hj', inGo, W]
      have hpos := pos_of_prodA q hq hc.2
      have e1 : prodA 1 q = pp q := prodA_pos_pp hpos
      rw [show decide ((i : Int) < f) = true from by simpa using hc.1, Bool.true_and]
      have hw := W_nn q (idxOf r j) hnn (within_mem (hidx j hj'))
      congr 2
      rw [e1, Int.toNat_add (Int.mul_nonneg (by omega) (by rw [← e1]; omega)) hw, Int.toNat_mul (by omega) (by rw [← e1]; omega), Int.toNat_natCast]
      omega
    · rename_i hc
      symm
      apply map_const
      intro j hj
      rw [idxOf_cons hj, inGo]
      rw [if_neg]
      intro hcon
      simp only [Bool.and_eq_true, decide_eq_true_eq] at hcon
      apply hc
      refine ⟨hcon.1, ?_⟩
      have hpos := inGo_pos q _ (hlen j) (within_mem (hidx j hj)) hcon.2
      rw [prodA_pos_pp hpos]
      exact pp_pos q hpos

theorem padL_map {α : Type} (get : Nat → α) (fill : α) (fr s : List Int) (hl : fr.length = s.length) :
    padL get fill fr s = (List.range (shapeSize s).toNat).map fun (k : Nat) => if inGo fr (idxOf s k) = true then get (W fr (idxOf s k)).toNat else fill := by
  unfold padL
  rw [movedGo_all]
  apply List.map_congr_left
  intro k _
  unfold padEl
  rw [atIn_W _ _ _ (by rw [idxOf_length, hl]), Int.zero_mul, Int.zero_add]
/-- THE LAW: the two ways build the same. -/
theorem rput_eq {α : Type} (get : Nat → α) (fill : α) (fr s : List Int) (hr : shapeRight s = true) (hf : FrOk fr s) : rputV get fill fr s 0 = padL get fill fr s := by
  have h := shapeRight_go hr
  rw [padL_map get fill fr s hf.1, rput_map get fill s fr 0 h.1 h.2 hf, size_prodA h.1 h.2]
  simp only [Nat.zero_add]

theorem W_idxOf : ∀ (s : List Int) (o : Int), rightGo 1 s = true → 0 ≤ o → o < prodA 1 s → W s (idxOf s o) = o ∧ inGo s (idxOf s o) = true
  | [], o, _, h0, h1 => by
    rw [prodA] at h1
    exact ⟨by rw [idxOf, W]; omega; simp, rfl⟩
  | d :: r, o, hr, h0, h1 => by
    obtain ⟨a1, a2, a3, a4, a5, a6⟩ := idx_step hr h0 h1
    obtain ⟨b1, b2⟩ := W_idxOf r (o % prodA 1 r) (rightGo_tail hr) a5 a6
    have hp := pos_of_prodA r (rightGo_tail hr) (by omega)
    rw [idxOf, W, inGo, b1, b2, ← prodA_pos_pp hp]
    refine ⟨?_, by simpa using a4⟩
    have := Int.mul_ediv_add_emod o (prodA 1 r)
    rw [Int.mul_comm] at this
    exact this
/-- Padding to the shape itself. -/
theorem padL_self {α : Type} (get : Nat → α) (fill : α) (s : List Int) (hr : shapeRight s = true) : padL get fill s s = (List.range (shapeSize s).toNat).map get := by
  have h := shapeRight_go hr
  rw [padL_map get fill s s rfl]
  apply List.map_congr_left
  intro k hk
  have hk' := List.mem_range.1 hk
  rw [size_prodA h.1 h.2] at hk'
  obtain ⟨b1, b2⟩ := W_idxOf s k h.1 (by omega) (by omega)
  rw [if_pos b2, b1, Int.toNat_natCast]
/-- Padding with more rows. -/
theorem padL_rows {α : Type} (get : Nat → α) (fill : α) (f d : Int) (r : List Int) (hr : shapeRight (d :: r) = true) (h0 : 0 ≤ f) (hf : f ≤ d) :
    padL get fill (f :: r) (d :: r) = (List.range (shapeSize (f :: r)).toNat).map get ++ List.replicate ((shapeSize (d :: r)).toNat - (shapeSize (f :: r)).toNat) fill := by
  have h := shapeRight_go hr
  have hfr : FrOk (f :: r) (d :: r) := ⟨rfl, fun j hj => by
    cases j with
    | zero => simpa using ⟨h0, hf⟩
    | succ j =>
      have hj' : j < r.length := by simpa using hj
      simp only [List.getD_cons_succ]
      exact ⟨(rightGo_nonneg _ 1 h.1 (r.getD j 0) (by simp [List.getD, hj'])).1, Int.le_refl _⟩⟩
  have hr2 := FrOk.right _ _ 1 1 hfr (by omega) (by omega) h.1
  have hl2 : (f :: r).length ≤ 8 := h.2
  have hz := rightGo_tail h.1
  rw [padL_map get fill (f :: r) (d :: r) (by simp), size_prodA h.1 h.2, size_prodA hr2 hl2, prodA_cons_nat h.1, prodA_cons_nat hr2]
  have hsplit : d.toNat * (prodA 1 r).toNat = f.toNat * (prodA 1 r).toNat + (d.toNat * (prodA 1 r).toNat - f.toNat * (prodA 1 r).toNat) := by
    have : f.toNat * (prodA 1 r).toNat ≤ d.toNat * (prodA 1 r).toNat := Nat.mul_le_mul_right _ (by omega)
    omega
  have key : ∀ i j : Nat, j < (prodA 1 r).toNat → (if inGo (f :: r) (idxOf (d :: r) ((i * (prodA 1 r).toNat + j : Nat) : Int)) = true then get (W (f :: r) (idxOf (d :: r) ((i * (prodA 1 r).toNat + j : Nat) : Int))).toNat else fill) = if (i : Int) < f then get (i * (prodA 1 r).toNat + j) else fill := by
    intro i j hj
    obtain ⟨b1, b2⟩ := W_idxOf r j hz (by omega) (by omega)
    have hp := pos_of_prodA r hz (by omega)
    rw [idxOf_cons hj, inGo, W, b1, b2, ← prodA_pos_pp hp]
    by_cases hi : (i : Int) < f
    · rw [if_pos (by simpa using hi), if_pos hi]
      congr 1
      rw [Int.toNat_add (Int.mul_nonneg (by omega) (by omega)) (by omega), Int.toNat_mul (by omega) (by omega), Int.toNat_natCast, Int.toNat_natCast]
    · rw [if_neg (by simpa using hi), if_neg hi]
  generalize hm : (prodA 1 r).toNat = m at *
  have key2 : ∀ k : Nat, k < d.toNat * m → (if inGo (f :: r) (idxOf (d :: r) (k : Int)) = true then get (W (f :: r) (idxOf (d :: r) (k : Int))).toNat else fill) = if k < f.toNat * m then get k else fill := by
    intro k hk
    have hm0 : 0 < m := by
      rcases Nat.eq_zero_or_pos m with e | e
      · rw [e] at hk; simp at hk
      · exact e
    have h1 := key (k / m) (k % m) (Nat.mod_lt _ hm0)
    rw [Nat.mul_comm (k / m) m, Nat.div_add_mod] at h1
    rw [h1]
    by_cases hc : k < f.toNat * m
    · have : k / m < f.toNat := (Nat.div_lt_iff_lt_mul hm0).2 hc
      rw [if_pos (by omega), if_pos hc]
    · have : ¬ k / m < f.toNat := fun h => hc ((Nat.div_lt_iff_lt_mul hm0).1 h)
      rw [if_neg (by omega), if_neg hc]
  rw [List.map_congr_left (fun k hk => key2 k (List.mem_range.1 hk)), hsplit, List.range_add, List.map_append]
  congr 1
  · apply List.map_congr_left
    intro k hk
    rw [if_pos (List.mem_range.1 hk)]
  · rw [List.map_map]
    rw [map_const _ fill]
    · congr 1; omega
    · intro j _
      simp only [Function.comp]
      rw [if_neg (by omega)]
end Go.Proofs.Ytgkemmdghmklfaa

namespace Go.Proofs.Ytgkemmdghmklfaa
set_option linter.unusedSimpArgs false
set_option linter.unusedVariables false

def padN (k : Int) : Int := if k = 1 then 0 else 32
def padI : Arr := .mk 1 [0] [] []
/-- The padded array. -/
def padV : Arr → List Int → Arr
  | .mk k s n it, t => .mk k t (if k = 3 then [] else padL (fun i => n.getD i 0) (padN k) (leadV s t.length) t) (if k = 3 then padL (fun i => it.getD i default) padI (leadV s t.length) t else [])
theorem lead_prod (s : List Int) : ∀ (m : Nat), prodA 1 (List.replicate m 1 ++ s) = prodA 1 s
  | 0 => rfl
  | m + 1 => by rw [List.replicate_succ, List.cons_append, prodA, if_neg (by omega)]; exact lead_prod s m
theorem lead_go (s : List Int) : ∀ (m : Nat), rightGo 1 (List.replicate m 1 ++ s) = rightGo 1 s
  | 0 => rfl
  | m + 1 => by
    rw [List.replicate_succ, List.cons_append, rightGo, if_neg (by omega), if_neg (by omega), if_neg (by omega)]
    exact lead_go s m
theorem inGo_within : ∀ (s t : List Int), s.length = t.length → (∀ x ∈ t, 0 ≤ x) → inGo s t = true → Within s t
  | [], [], _, _, _ => ⟨rfl, fun j hj => by simp at hj⟩
  | [], _ :: _, h, _, _ => by simp at h
  | _ :: _, [], h, _, _ => by simp at h
  | d :: r, x :: q, h, ht, hi => by
    simp only [inGo, Bool.and_eq_true, decide_eq_true_eq] at hi
    have h1 := inGo_within r q (by simpa using h) (fun x hx => ht x (by simp [hx])) hi.2
    have h2 := ht x (by simp)
    refine ⟨by simpa using h.symm, fun j hj => ?_⟩
    cases j with
    | zero => simp; omega
    | succ j => simpa using h1.2 j (by simpa using hj)
/-- An index inside: its place is one of the array's. -/
theorem padAt_lt {fr t : List Int} (hr : rightGo 1 fr = true) (hl : fr.length = t.length) (ht : ∀ x ∈ t, 0 ≤ x) (hi : inGo fr t = true) : 0 ≤ atIn fr t 0 ∧ atIn fr t 0 < prodA 1 fr := by
  have hp := inGo_pos fr t hl ht hi
  have hw := inGo_within fr t hl ht hi
  rw [atIn_W fr t 0 hl, Int.zero_mul, Int.zero_add, prodA_pos_pp hp]
  exact W_bd fr t hp hw
theorem padL_len {α : Type} (get : Nat → α) (fill : α) (fr s : List Int) : (padL get fill fr s).length = (shapeSize s).toNat := by rw [padL, movedGo_length]
theorem inGo_step {fr t : List Int} {i : Nat} (h1 : i < fr.length) (h2 : i < t.length) : inGo (fr.drop i) (t.drop i) = (decide (t.getD i 0 < fr.getD i 0) && inGo (fr.drop (i + 1)) (t.drop (i + 1))) := by
  rw [drop_getD h1, drop_getD h2, inGo]
theorem atIn_step {fr t : List Int} {i : Nat} {acc : Int} (h1 : i < fr.length) (h2 : i < t.length) : atIn (fr.drop i) (t.drop i) acc = atIn (fr.drop (i + 1)) (t.drop (i + 1)) (acc * fr.getD i 0 + t.getD i 0) := by
  rw [drop_getD h1, drop_getD h2, atIn]
theorem inGo_end {fr t : List Int} {i : Nat} (h2 : t.length ≤ i) : inGo (fr.drop i) (t.drop i) = true := by
  rw [List.drop_of_length_le h2]; cases fr.drop i <;> rfl
theorem atIn_end {fr t : List Int} {i : Nat} {acc : Int} (h2 : t.length ≤ i) : atIn (fr.drop i) (t.drop i) acc = acc := by
  rw [List.drop_of_length_le h2]; cases fr.drop i <;> rfl
end Go.Proofs.Ytgkemmdghmklfaa

namespace Go.Proofs.Ytgkemmdghmklfaa
set_option linter.unusedSimpArgs false
set_option linter.unusedVariables false

def Arr.k : Arr → Int | .mk k _ _ _ => k
def Arr.sh : Arr → List Int | .mk _ s _ _ => s
def Arr.n : Arr → List Int | .mk _ _ n _ => n
def Arr.it : Arr → List Arr | .mk _ _ _ l => l
theorem Arr.eta (x : Arr) : Arr.mk x.k x.sh x.n x.it = x := by cases x; rfl
def zipMax : List Int → List Int → List Int
  | a :: r, b :: q => (if a < b then b else a) :: zipMax r q
  | _, _ => []
theorem zipMax_len : ∀ (a b : List Int), a.length = b.length → (zipMax a b).length = a.length
  | [], [], _ => rfl
  | [], _ :: _, h => by simp at h
  | _ :: _, [], h => by simp at h
  | a :: r, b :: q, h => by rw [zipMax, List.length_cons, zipMax_len r q (by simpa using h), List.length_cons]
theorem zipMax_getD : ∀ (a b : List Int) (j : Nat), a.length = b.length → j < a.length → (zipMax a b).getD j 0 = if a.getD j 0 < b.getD j 0 then b.getD j 0 else a.getD j 0
  | [], [], _, _, hj => by simp at hj
  | [], _ :: _, _, h, _ => by simp at h
  | _ :: _, [], _, h, _ => by simp at h
  | a :: r, b :: q, 0, h, _ => by rw [zipMax]; simp
  | a :: r, b :: q, j + 1, h, hj => by rw [zipMax]; simpa using zipMax_getD r q j (by simpa using h) (by simpa using hj)
def rankMax : Nat → List Arr → Nat
  | m, [] => m
  | m, x :: r => rankMax (if m < x.sh.length then x.sh.length else m) r
theorem rankMax_ge : ∀ (l : List Arr) (m : Nat), m ≤ rankMax m l ∧ ∀ x ∈ l, x.sh.length ≤ rankMax m l
  | [], m => ⟨Nat.le_refl _, fun x hx => by simp at hx⟩
  | y :: r, m => by
    rw [rankMax]
    obtain ⟨h1, h2⟩ := rankMax_ge r (if m < y.sh.length then y.sh.length else m)
    have h3 : m ≤ (if m < y.sh.length then y.sh.length else m) ∧ y.sh.length ≤ (if m < y.sh.length then y.sh.length else m) := by split <;> omega
    refine ⟨Nat.le_trans h3.1 h1, fun x hx => ?_⟩
    rcases List.mem_cons.1 hx with rfl | hx
    · exact Nat.le_trans h3.2 h1
    · exact h2 x hx
theorem rankMax_le : ∀ (l : List Arr) (m b : Nat), m ≤ b → (∀ x ∈ l, x.sh.length ≤ b) → rankMax m l ≤ b
  | [], _, _, h, _ => h
  | y :: r, m, b, h, hl => by
    rw [rankMax]
    exact rankMax_le r _ b (by have := hl y (by simp); split <;> omega) fun x hx => hl x (by simp [hx])
def commonGo (R : Nat) : List Int → List Arr → List Int
  | o, [] => o
  | o, x :: r => commonGo R (zipMax o (leadV x.sh R)) r
def commonV (l : List Arr) : List Int := commonGo (rankMax 0 l) (List.replicate (rankMax 0 l) 0) l
theorem commonGo_len (R : Nat) : ∀ (l : List Arr) (o : List Int), o.length = R → (∀ x ∈ l, x.sh.length ≤ R) → (commonGo R o l).length = R
  | [], o, h, _ => h
  | x :: r, o, h, hl => by
    rw [commonGo]
    have h1 := leadV_len (hl x (by simp))
    exact commonGo_len R r _ (by rw [zipMax_len _ _ (by omega), h]) fun y hy => hl y (by simp [hy])
theorem commonV_len (l : List Arr) : (commonV l).length = rankMax 0 l := commonGo_len _ l _ (by simp) (rankMax_ge l 0).2
/-- Each cell fits. -/
theorem commonGo_ge (R : Nat) : ∀ (l : List Arr) (o : List Int), o.length = R → (∀ x ∈ l, x.sh.length ≤ R) → ∀ j, j < R → o.getD j 0 ≤ (commonGo R o l).getD j 0 ∧ ∀ x ∈ l, (leadV x.sh R).getD j 0 ≤ (commonGo R o l).getD j 0
  | [], o, _, _, j, _ => ⟨Int.le_refl _, fun x hx => by simp at hx⟩
  | y :: r, o, h, hl, j, hj => by
    rw [commonGo]
    have h1 := leadV_len (hl y (by simp))
    obtain ⟨h2, h3⟩ := commonGo_ge R r (zipMax o (leadV y.sh R)) (by rw [zipMax_len _ _ (by omega), h]) (fun x hx => hl x (by simp [hx])) j hj
    rw [zipMax_getD _ _ j (by omega) (by omega)] at h2
    have h4 : o.getD j 0 ≤ (commonGo R (zipMax o (leadV y.sh R)) r).getD j 0 ∧ (leadV y.sh R).getD j 0 ≤ (commonGo R (zipMax o (leadV y.sh R)) r).getD j 0 := by
      split at h2 <;> omega
    refine ⟨h4.1, fun x hx => ?_⟩
    rcases List.mem_cons.1 hx with rfl | hx
    · exact h4.2
    · exact h3 x hx
theorem common_fits {l : List Arr} {x : Arr} (hx : x ∈ l) (hr : rightGo 1 x.sh = true) : FrOk (leadV x.sh (commonV l).length) (commonV l) := by
  rw [commonV_len]
  have h1 := (rankMax_ge l 0).2 x hx
  refine ⟨by rw [leadV_len h1, commonV_len], fun j hj => ⟨?_, ?_⟩⟩
  · have h2 := leadV_len h1
    rw [commonV_len] at hj
    have hm : (leadV x.sh (rankMax 0 l)).getD j 0 ∈ leadV x.sh (rankMax 0 l) := by simp [List.getD, show j < (leadV x.sh (rankMax 0 l)).length by omega]
    rw [leadV] at hm
    rcases List.mem_append.1 hm with h | h
    · have := List.eq_of_mem_replicate h
      rw [leadV]; omega
    · rw [leadV]; exact (rightGo_nonneg x.sh 1 hr _ h).1
  · rw [commonV_len] at hj
    exact (commonGo_ge _ l _ (by simp) (rankMax_ge l 0).2 j hj).2 x hx
/-- The error of the arguments. -/
def wrongV (frame : List Int) (l : List Arr) (like : Arr) : Int :=
  if shapeRight frame = false ∨ (l.length : Int) ≠ shapeSize frame ∨ (l = [] ∧ rightV like ≠ 0) then 1 else if l.all (fun x => rightV x == 0) = false then 1 else if l.all (fun x => x.k == (l.headD default).k) = false then 14 else 0
/-- The joined array, ahead of the last test. -/
def joinedV (frame : List Int) (l : List Arr) : Arr :=
  .mk (l.headD default).k (frame ++ commonV l) (l.flatMap fun x => (padV x (commonV l)).n) (l.flatMap fun x => (padV x (commonV l)).it)
def joinV (frame : List Int) (l : List Arr) (like : Arr) : Arr × Int :=
  if wrongV frame l like ≠ 0 then (Arr.zero, wrongV frame l like)
  else if l = [] then (if shapeRight (frame ++ like.sh) = true then (.mk like.k (frame ++ like.sh) [] [], 0) else (Arr.zero, 21))
  else if shapeRight (frame ++ commonV l) = false then (Arr.zero, 21)
  else if rightV (joinedV frame l) = 0 then (joinedV frame l, 0) else (Arr.zero, 21)
end Go.Proofs.Ytgkemmdghmklfaa

namespace Go.Proofs.Ytgkemmdghmklfaa
set_option linter.unusedSimpArgs false
set_option linter.unusedVariables false
open Go.RowKit

def cellsV (x : Arr) (k : Int) : List Arr := match x with
  | .mk kx s n it => if rightV (.mk kx s n it) ≠ 0 then [] else
    (List.range (shapeSize (s.take (s.length - (rankV k s.length).toNat))).toNat).map fun i =>
      partV (.mk kx s n it) (i * (shapeSize (s.drop (s.length - (rankV k s.length).toNat))).toNat) (shapeSize (s.drop (s.length - (rankV k s.length).toNat))).toNat (s.drop (s.length - (rankV k s.length).toNat))
/-- Some slice, in new blocks, that reads as the list of arrays. -/
def RdAA (B : Nat) (w : World) (l : List Arr) (v : Value) : Prop := ∃ (p : Option Addr) (c : Nat), v = .slice p l.length c ∧ ItOk l.length c ∧ ItemsAt (fun b => B ≤ b) w p 0 l

theorem run_make_arrs (n : Nat) (hn : n ≤ 65536) (w : World) : (Instr.makeSlice 24 (.int .i64 0) (.int .i64 (n : Int))).run Try.prog w = .ok (.slice (some ⟨w.heap.size, 0, none⟩) 0 n) (w.alloc (.cells (madeCells #[.int .i64 0, .slice none 0 0, .slice none 0 0, .slice none 0 0] (n * 4)) 26)) := by
  obtain ⟨i0, hi, hz0, hz1, hz2⟩ := info_parts infoA
  have := run_make (P := Try.prog) w 24 26 i0 _ Try.underlying24 hi hz0 .i64 .i64 0 n (by omega) (by omega) (by rw [hz2]; omega) (by omega)
  rw [hz1] at this
  simpa [Value.cells] using this
theorem OwnA.made (X : Nat → Prop) (w : World) (n : Nat) (hn : n ≤ 65536) (hX : ¬ X w.heap.size) : OwnA w.heap.size X (w.alloc (.cells (madeCells #[.int .i64 0, .slice none 0 0, .slice none 0 0, .slice none 0 0] (n * 4)) 26)) (.slice (some ⟨w.heap.size, 0, none⟩) 0 n) 0 [] := by
  refine ⟨rfl, fun g hg => ?_, [], ⟨by simp, .inr ⟨w.heap.size, n, _, rfl, Nat.le_refl _, heap_alloc_new _ _, Nat.zero_le _, by unfold maxLen; omega, by simp [madeCells], by simp⟩⟩, by unfold CellsRead; trivial⟩
  simp only [Value.ownBlock, Option.some.injEq] at hg
  rw [← hg]; exact hX

theorem OwnA.lt {B : Nat} {X : Nat → Prop} {w : World} {v : Value} {n : Nat} {l : List Arr} (h : OwnA B X w v n l) : ∀ g, v.ownBlock = some g → B ≤ g ∧ g < w.heap.size := by
  obtain ⟨_, _, cells, h1, _⟩ := h
  exact h1.lt
theorem OwnA.apart0 {B : Nat} {w : World} {v : Value} {n : Nat} {l : List Arr} (h : OwnA B (fun _ => False) w v n l) (hB : B ≤ w.heap.size) (q : Nat) (hq : w.heap.size ≤ q) : Apart B (fun _ => False) v q :=
  ⟨Nat.le_trans hB hq, fun h => h, fun e => by have := (h.lt q e).2; omega⟩
set_option maxRecDepth 100000 in
set_option maxHeartbeats 4000000 in
theorem ccells_any (F : Nat → Prop) (x : Arr) (c0 c1 c2 c3 : Value) (k : Int) (w : World) (hx : ArrAt F w x c0 c1 c2 c3) (hk : -9223372036854775808 ≤ k ∧ k ≤ 9223372036854775807) :
    Calls Try.prog 136 #[.agg #[c0, c1, c2, c3], .int .i64 k] w fun e w' => ∃ v, e = .returned v ∧ RdAA w.heap.size w' (cellsV x k) v ∧ Ext w w' := by
  obtain ⟨kx, s, nx, ix⟩ := x
  have hx' := hx
  unfold ArrAt at hx'
  obtain ⟨rfl, hkx, ⟨p1, m1, rfl, ⟨o1, o1', o1''⟩, i1⟩, ⟨p2, m2, rfl, ⟨o2, o2', o2''⟩, i2⟩, ⟨p3, m3, rfl, ⟨o3, o3', o3''⟩, i3⟩⟩ := hx'
  have HX := Lib.hid hx
  have HS := Lib.hid i1
  clear hx i1 i2 i3
  have HV : Hid (cellsV (.mk kx s nx ix) k = if rightV (.mk kx s nx ix) ≠ 0 then [] else
    (List.range (shapeSize (s.take (s.length - (rankV k s.length).toNat))).toNat).map fun i =>
      partV (.mk kx s nx ix) (i * (shapeSize (s.drop (s.length - (rankV k s.length).toNat))).toNat) (shapeSize (s.drop (s.length - (rankV k s.length).toNat))).toNat (s.drop (s.length - (rankV k s.length).toNat))) := rfl
  generalize cellsV (.mk kx s nx ix) k = fv at *
  have HRP := Lib.hid (@right_parts kx s nx ix)
  go_enter Try.func136, Try.ntmps136
  have hE0 : Ext w (w.alloc (.cells #[.int .i64 kx, .slice p1 s.length m1, .slice p2 nx.length m2, .slice p3 ix.length m3] 26)) := (Ext.refl _).alloc _
  have hB := box_new w (.int .i64 kx) (.slice p1 s.length m1) (.slice p2 nx.length m2) (.slice p3 ix.length m3)
  have HR := Lib.hid (right_any F _ _ _ _ _ _ (HX.out.ext hE0))
  have HE := Lib.hid hE0
  have HB := Lib.hid hB
  clear hE0 hB
  go_wp2_with fail
  refine HR.out.mono ?_
  rintro e w2 ⟨rfl, hE1⟩
  replace HE := Lib.hid (HE.out.trans hE1)
  have HBx := Lib.hid (HB.out.ext hE1)
  clear HR HB hE1
  generalize rightV (.mk kx s nx ix) = r at *
  by_cases hr : r = 0
  rotate_left
  · have hr1 : (r != 0) = true := by simpa using hr
    have HV2 := Lib.hid (show fv = [] by rw [HV.out, if_pos hr])
    clear hr
    go_wp2_with fail
    go_ret
    refine ⟨_, rfl, ?_, HE.out⟩
    rw [HV2.out]
    exact ⟨none, 0, rfl, ⟨by simp, by simp, by simp⟩, by unfold ItemsAt; trivial⟩
  subst hr
  obtain ⟨_, h8, hrt, hn3, hi3⟩ := HRP.out rfl
  have hbd := rankV_bd k s.length (by omega)
  obtain ⟨rv, hrv⟩ : ∃ rv : Nat, rankV k s.length = rv := ⟨(rankV k s.length).toNat, by omega⟩
  rw [hrv] at hbd
  have HRK := Lib.hid (show ∀ w, Calls Try.prog 158 #[.int .i64 k, .int .i64 (s.length : Int)] w fun e w' => e = .returned (.int .i64 (rv : Int)) ∧ Ext w w' from fun w => by
    have h := crank_any k s.length w hk (by omega)
    rw [hrv] at h
    exact same_ext h)
  obtain ⟨n, hn⟩ : ∃ n, s.length - rv = n := ⟨_, rfl⟩
  obtain ⟨hsp, ht0, ht1, hd0, hd1⟩ := size_split hrt h8 n
  have HV2 := Lib.hid (show fv = (List.range (shapeSize (s.take n)).toNat).map fun i => partV (.mk kx s nx ix) (i * (shapeSize (s.drop n)).toNat) (shapeSize (s.drop n)).toNat (s.drop n) by rw [HV.out, if_neg (by simp), hrv, Int.toNat_natCast, hn])
  have hnl : n ≤ s.length := by omega
  have htl : (s.take n).length = n := by rw [List.length_take]; omega
  have hdl : (s.drop n).length = s.length - n := by rw [List.length_drop]
  have hct := HS.out.cut (n := n) 0 m1 o1
  rw [List.drop_zero] at hct
  have hcd := HS.out.cut (n := s.length - n) n m1 o1
  rw [List.take_of_length_le (by omega)] at hcd
  have hws : IntKind.i64.wrap ((s.length : Int) - (rv : Int)) = (n : Int) := by rw [show (s.length : Int) - (rv : Int) = (n : Int) by omega]; exact IntWalk.i64_in _ (by omega)
  have hrt1 := fun w => slice_h p1 s.length m1 w n (by omega)
  have hrd1 := fun w => slice_l p1 s.length m1 w n (by omega)
  generalize cutAt p1 0 m1 1 = pt at *
  generalize cutAt p1 n m1 1 = pd at *
  obtain ⟨ln, hln⟩ : ∃ ln, s.length - n = ln := ⟨_, rfl⟩
  obtain ⟨md, hmd⟩ : ∃ md, m1 - n = md := ⟨_, rfl⟩
  rw [hln] at hrd1 hdl
  rw [hmd] at hrd1
  have hlm : ln ≤ md ∧ md ≤ 9223372036854775807 ∧ ln ≤ 8 := by omega
  have hs1 := fun (w' : World) (e : Ext w w') => same_ext (size_any F pt m1 (s.take n) w' (hct.ext e) (by unfold lenMax; omega))
  have hs2 := fun (w' : World) (e : Ext w w') => same_ext (size_any F pd md (s.drop n) w' (hcd.ext e) (by unfold lenMax; omega))
  rw [htl] at hs1
  rw [hdl] at hs2
  generalize htn : s.take n = tn at *
  generalize hdn : s.drop n = dn at *
  obtain ⟨cn, hcn⟩ : ∃ cn : Nat, shapeSize tn = cn := ⟨(shapeSize tn).toNat, by omega⟩
  obtain ⟨zn, hzn⟩ : ∃ zn : Nat, shapeSize dn = zn := ⟨(shapeSize dn).toNat, by omega⟩
  rw [hcn] at hs1 hsp ht1
  rw [hzn] at hs2 hsp hd1
  have HV3 := Lib.hid (show fv = (List.range cn).map fun i => partV (.mk kx s nx ix) (i * zn) zn dn by rw [HV2.out, hcn, hzn, Int.toNat_natCast, Int.toNat_natCast])
  have HS1 := Lib.hid hs1
  have HS2 := Lib.hid hs2
  have hnc : kx ≠ 3 → nx.length = cn * zn := fun h => by have := (hn3 h).2; rw [hsp] at this; exact_mod_cast this
  have hic : kx = 3 → ix.length = cn * zn := fun h => by have := (hi3 h).2; rw [hsp] at this; exact_mod_cast this
  have HNC := Lib.hid hnc
  have HIC := Lib.hid hic
  have hc6 : cn ≤ 65536 := by omega
  have hz6 : zn ≤ 65536 := by omega
  have HDL := Lib.hid hdl
  have HCD := Lib.hid hcd
  have HEw := Lib.hid HE.out
  clear hct hcd hrv htl hdl HV HV2 hn hs1 hs2 hsp ht0 ht1 hd0 hd1 hcn hzn hnc hic htn hdn hrt hn3 hi3 HRP hln hmd
  go_wp2_with fail
  have HAx : Hid True := Lib.hid trivial
  refine wp_region_x1 [MProp.is (.pointer (some ⟨w.heap.size, 1, none⟩)), MProp.is (.slice p1 s.length m1), MProp.is (.int .i64 (s.length : Int)), MProp.is (.int .i64 k), MProp.is (.pointer (some ⟨w.heap.size, 1, none⟩)), MProp.is (.slice p1 s.length m1), MProp.is (.int .i64 (s.length : Int)), MProp.is (.int .i64 (rv : Int)), MProp.is (.int .i64 (n : Int))] [0, 1, 2, 3, 4, 5, 6, 7, 8] [] [13, 14, 15, 16, 17, 18, 19, 20, 21] 9 (by kernel_rfl) (by kernel_rfl) (by kernel_rfl) rfl ?_ ?_ ?_
  · refine mem_cons_m ?_ (mem_cons_m ?_ (mem_cons_m ?_ (mem_cons_m ?_ (mem_cons_m ?_ (mem_cons_m ?_ (mem_cons_m ?_ (mem_cons_m ?_ (mem_cons_m ?_ (mem_nil_m)))))))))
    · refine ⟨_, 13, rfl, by kernel_rfl, ?_⟩
      intro u w9 X hE hX hd K hK
      clear hd
      simp only [overlay, List.setIfInBounds_toArray, List.set] at hK ⊢
      go_wp2_with fail
      exact hK _ _ X (Ext.refl _) kept_m hX rfl
    · refine ⟨_, 14, rfl, by kernel_rfl, ?_⟩
      intro u w9 X hE hX hd K hK
      have d0 : u 13 = .pointer (some ⟨w.heap.size, 1, none⟩) := hd 0 (by kernel_rfl)
      clear hd
      simp only [overlay, List.setIfInBounds_toArray, List.set, d0] at hK ⊢
      have e9 : Ext w2 w9 := (Ext.refl w2).drew.trans hE
      obtain ⟨s0, s1, s2, s3⟩ := (HBx.out.ext e9).cell
      go_wp2_with fail
      exact hK _ _ X (Ext.refl _) kept_m hX rfl
    · refine ⟨_, 15, rfl, by kernel_rfl, ?_⟩
      intro u w9 X hE hX hd K hK
      have d1 : u 14 = .slice p1 s.length m1 := hd 1 (by kernel_rfl)
      clear hd
      simp only [overlay, List.setIfInBounds_toArray, List.set, d1] at hK ⊢
      go_wp2_with fail
      exact hK _ _ X (Ext.refl _) kept_m hX rfl
    · refine ⟨_, 16, rfl, by kernel_rfl, ?_⟩
      intro u w9 X hE hX hd K hK
      clear hd
      simp only [overlay, List.setIfInBounds_toArray, List.set] at hK ⊢
      go_wp2_with fail
      exact hK _ _ X (Ext.refl _) kept_m hX rfl
    · refine ⟨_, 17, rfl, by kernel_rfl, ?_⟩
      intro u w9 X hE hX hd K hK
      clear hd
      simp only [overlay, List.setIfInBounds_toArray, List.set] at hK ⊢
      go_wp2_with fail
      exact hK _ _ X (Ext.refl _) kept_m hX rfl
    · refine ⟨_, 18, rfl, by kernel_rfl, ?_⟩
      intro u w9 X hE hX hd K hK
      have d4 : u 17 = .pointer (some ⟨w.heap.size, 1, none⟩) := hd 4 (by kernel_rfl)
      clear hd
      simp only [overlay, List.setIfInBounds_toArray, List.set, d4] at hK ⊢
      have e9 : Ext w2 w9 := (Ext.refl w2).drew.trans hE
      obtain ⟨s0, s1, s2, s3⟩ := (HBx.out.ext e9).cell
      go_wp2_with fail
      exact hK _ _ X (Ext.refl _) kept_m hX rfl
    · refine ⟨_, 19, rfl, by kernel_rfl, ?_⟩
      intro u w9 X hE hX hd K hK
      have d5 : u 18 = .slice p1 s.length m1 := hd 5 (by kernel_rfl)
      clear hd
      simp only [overlay, List.setIfInBounds_toArray, List.set, d5] at hK ⊢
      go_wp2_with fail
      exact hK _ _ X (Ext.refl _) kept_m hX rfl
    · refine ⟨_, 20, rfl, by kernel_rfl, ?_⟩
      intro u w9 X hE hX hd K hK
      have d3 : u 16 = .int .i64 k := hd 3 (by kernel_rfl)
      have d6 : u 19 = .int .i64 (s.length : Int) := hd 6 (by kernel_rfl)
      clear hd
      simp only [overlay, List.setIfInBounds_toArray, List.set, d3, d6] at hK ⊢
      have e9 : Ext w2 w9 := (Ext.refl w2).drew.trans hE
      go_wp2_with fail
      refine (HRK.out w9).mono ?_
      rintro e w8 ⟨rfl, hE8⟩
      go_wp2_with fail
      exact hK _ _ X hE8 kept_m (hX.ext hE8) rfl
    · refine ⟨_, 21, rfl, by kernel_rfl, ?_⟩
      intro u w9 X hE hX hd K hK
      have d2 : u 15 = .int .i64 (s.length : Int) := hd 2 (by kernel_rfl)
      have d7 : u 20 = .int .i64 (rv : Int) := hd 7 (by kernel_rfl)
      clear hd
      simp only [overlay, List.setIfInBounds_toArray, List.set, d2, d7] at hK ⊢
      go_wp2_with fail
      exact hK _ _ X (Ext.refl _) kept_m hX rfl
  · exact mem_nil_m
  intro u w9 X hE hX hd
  have d0 : u 13 = .pointer (some ⟨w.heap.size, 1, none⟩) := hd 0 (by decide)
  have d1 : u 14 = .slice p1 s.length m1 := hd 1 (by decide)
  have d2 : u 15 = .int .i64 (s.length : Int) := hd 2 (by decide)
  have d3 : u 16 = .int .i64 k := hd 3 (by decide)
  have d4 : u 17 = .pointer (some ⟨w.heap.size, 1, none⟩) := hd 4 (by decide)
  have d5 : u 18 = .slice p1 s.length m1 := hd 5 (by decide)
  have d6 : u 19 = .int .i64 (s.length : Int) := hd 6 (by decide)
  have d7 : u 20 = .int .i64 (rv : Int) := hd 7 (by decide)
  have d8 : u 21 = .int .i64 (n : Int) := hd 8 (by decide)
  clear hd
  simp only [overlay, List.setIfInBounds_toArray, List.set, d0, d1, d2, d3, d4, d5, d6, d7, d8]
  have e9 : Ext w2 w9 := (Ext.refl w2).drew.trans hE
  clear d0 d1 d2 d3 d4 d5 d6 d7 d8
  clear hX hE
  clear u
  obtain ⟨wk2, rfl⟩ : ∃ wx : World, wx = w9 := ⟨_, rfl⟩
  replace HBx := Lib.hid (HBx.out.ext e9)
  replace HE := Lib.hid (HE.out.trans (e9))
  clear e9
  go_wp2_with fail
  refine OnlyN.mk ?_
  go_wp2_with fail
  refine wp_region_x1 [MProp.is (.pointer (some ⟨w.heap.size, 1, none⟩)), MProp.is (.slice p1 s.length m1), MProp.is (.int .i64 (n : Int)), MProp.is (.slice pt n m1), MProp.is (.int .i64 (cn : Int)), MProp.is (.pointer (some ⟨w.heap.size, 1, none⟩)), MProp.is (.slice p1 s.length m1), MProp.is (.int .i64 (n : Int)), MProp.is (.slice pd ln md), MProp.is (.int .i64 (zn : Int)), MProp.is (.int .i64 (cn : Int))] [0, 1, 2, 3, 4, 5, 6, 7, 8, 9, 10] [] [22, 23, 24, 25, 26, 27, 28, 29, 30, 31, 6] 11 (by kernel_rfl) (by kernel_rfl) (by kernel_rfl) rfl ?_ ?_ ?_
  · refine mem_cons_m ?_ (mem_cons_m ?_ (mem_cons_m ?_ (mem_cons_m ?_ (mem_cons_m ?_ (mem_cons_m ?_ (mem_cons_m ?_ (mem_cons_m ?_ (mem_cons_m ?_ (mem_cons_m ?_ (mem_cons_m ?_ (mem_nil_m)))))))))))
    · refine ⟨_, 22, rfl, by kernel_rfl, ?_⟩
      intro u w9 X hE hX hd K hK
      clear hd
      simp only [overlay, List.setIfInBounds_toArray, List.set] at hK ⊢
      go_wp2_with fail
      exact hK _ _ X (Ext.refl _) kept_m hX rfl
    · refine ⟨_, 23, rfl, by kernel_rfl, ?_⟩
      intro u w9 X hE hX hd K hK
      have d0 : u 22 = .pointer (some ⟨w.heap.size, 1, none⟩) := hd 0 (by kernel_rfl)
      clear hd
      simp only [overlay, List.setIfInBounds_toArray, List.set, d0] at hK ⊢
      have e9 : Ext wk2 w9 := (Ext.refl wk2).drew.trans hE
      obtain ⟨s0, s1, s2, s3⟩ := (HBx.out.ext e9).cell
      go_wp2_with fail
      exact hK _ _ X (Ext.refl _) kept_m hX rfl
    · refine ⟨_, 24, rfl, by kernel_rfl, ?_⟩
      intro u w9 X hE hX hd K hK
      clear hd
      simp only [overlay, List.setIfInBounds_toArray, List.set] at hK ⊢
      go_wp2_with fail
      exact hK _ _ X (Ext.refl _) kept_m hX rfl
    · refine ⟨_, 25, rfl, by kernel_rfl, ?_⟩
      intro u w9 X hE hX hd K hK
      have d1 : u 23 = .slice p1 s.length m1 := hd 1 (by kernel_rfl)
      have d2 : u 24 = .int .i64 (n : Int) := hd 2 (by kernel_rfl)
      clear hd
      simp only [overlay, List.setIfInBounds_toArray, List.set, d1, d2] at hK ⊢
      go_wp2_with fail
      exact hK _ _ X (Ext.refl _) kept_m hX rfl
    · refine ⟨_, 26, rfl, by kernel_rfl, ?_⟩
      intro u w9 X hE hX hd K hK
      have d3 : u 25 = .slice pt n m1 := hd 3 (by kernel_rfl)
      clear hd
      simp only [overlay, List.setIfInBounds_toArray, List.set, d3] at hK ⊢
      have e9 : Ext wk2 w9 := (Ext.refl wk2).drew.trans hE
      go_wp2_with fail
      refine (HS1.out w9 (HE.out.trans e9)).mono ?_
      rintro e w8 ⟨rfl, hE8⟩
      go_wp2_with fail
      exact hK _ _ X hE8 kept_m (hX.ext hE8) rfl
    · refine ⟨_, 27, rfl, by kernel_rfl, ?_⟩
      intro u w9 X hE hX hd K hK
      clear hd
      simp only [overlay, List.setIfInBounds_toArray, List.set] at hK ⊢
      go_wp2_with fail
      exact hK _ _ X (Ext.refl _) kept_m hX rfl
    · refine ⟨_, 28, rfl, by kernel_rfl, ?_⟩
      intro u w9 X hE hX hd K hK
      have d5 : u 27 = .pointer (some ⟨w.heap.size, 1, none⟩) := hd 5 (by kernel_rfl)
      clear hd
      simp only [overlay, List.setIfInBounds_toArray, List.set, d5] at hK ⊢
      have e9 : Ext wk2 w9 := (Ext.refl wk2).drew.trans hE
      obtain ⟨s0, s1, s2, s3⟩ := (HBx.out.ext e9).cell
      go_wp2_with fail
      exact hK _ _ X (Ext.refl _) kept_m hX rfl
    · refine ⟨_, 29, rfl, by kernel_rfl, ?_⟩
      intro u w9 X hE hX hd K hK
      clear hd
      simp only [overlay, List.setIfInBounds_toArray, List.set] at hK ⊢
      go_wp2_with fail
      exact hK _ _ X (Ext.refl _) kept_m hX rfl
    · refine ⟨_, 30, rfl, by kernel_rfl, ?_⟩
      intro u w9 X hE hX hd K hK
      have d6 : u 28 = .slice p1 s.length m1 := hd 6 (by kernel_rfl)
      have d7 : u 29 = .int .i64 (n : Int) := hd 7 (by kernel_rfl)
      clear hd
      simp only [overlay, List.setIfInBounds_toArray, List.set, d6, d7] at hK ⊢
      go_wp2_with fail
      exact hK _ _ X (Ext.refl _) kept_m hX rfl
    · refine ⟨_, 31, rfl, by kernel_rfl, ?_⟩
      intro u w9 X hE hX hd K hK
      have d8 : u 30 = .slice pd ln md := hd 8 (by kernel_rfl)
      clear hd
      simp only [overlay, List.setIfInBounds_toArray, List.set, d8] at hK ⊢
      have e9 : Ext wk2 w9 := (Ext.refl wk2).drew.trans hE
      go_wp2_with fail
      refine (HS2.out w9 (HE.out.trans e9)).mono ?_
      rintro e w8 ⟨rfl, hE8⟩
      go_wp2_with fail
      exact hK _ _ X hE8 kept_m (hX.ext hE8) rfl
    · refine ⟨_, 6, rfl, by kernel_rfl, ?_⟩
      intro u w9 X hE hX hd K hK
      have d4 : u 26 = .int .i64 (cn : Int) := hd 4 (by kernel_rfl)
      clear hd
      simp only [overlay, List.setIfInBounds_toArray, List.set, d4] at hK ⊢
      go_wp2_with fail
      exact hK _ _ X (Ext.refl _) kept_m hX rfl
  · exact mem_nil_m
  intro u w9 X hE hX hd
  have d0 : u 22 = .pointer (some ⟨w.heap.size, 1, none⟩) := hd 0 (by decide)
  have d1 : u 23 = .slice p1 s.length m1 := hd 1 (by decide)
  have d2 : u 24 = .int .i64 (n : Int) := hd 2 (by decide)
  have d3 : u 25 = .slice pt n m1 := hd 3 (by decide)
  have d4 : u 26 = .int .i64 (cn : Int) := hd 4 (by decide)
  have d5 : u 27 = .pointer (some ⟨w.heap.size, 1, none⟩) := hd 5 (by decide)
  have d6 : u 28 = .slice p1 s.length m1 := hd 6 (by decide)
  have d7 : u 29 = .int .i64 (n : Int) := hd 7 (by decide)
  have d8 : u 30 = .slice pd ln md := hd 8 (by decide)
  have d9 : u 31 = .int .i64 (zn : Int) := hd 9 (by decide)
  have d10 : u 6 = .int .i64 (cn : Int) := hd 10 (by decide)
  clear hd
  simp only [overlay, List.setIfInBounds_toArray, List.set, d0, d1, d2, d3, d4, d5, d6, d7, d8, d9, d10]
  have e9 : Ext wk2 w9 := (Ext.refl wk2).drew.trans hE
  clear d0 d1 d2 d3 d4 d5 d6 d7 d8 d9 d10
  clear hX hE
  generalize u 25 = t25z3
  generalize u 30 = t30z3
  clear u
  obtain ⟨wk4, rfl⟩ : ∃ wx : World, wx = w9 := ⟨_, rfl⟩
  replace HBx := Lib.hid (HBx.out.ext e9)
  replace HE := Lib.hid (HE.out.trans (e9))
  clear e9
  go_wp2_with fail
  refine OnlyN.mk ?_
  have hmk := run_make_arrs cn hc6
  have hS0 := OwnA.made (fun _ => False) wk4 cn hc6 (fun h => h)
  have hEa : Ext wk4 (wk4.alloc (.cells (madeCells #[.int .i64 0, .slice none 0 0, .slice none 0 0, .slice none 0 0] (cn * 4)) 26)) := (Ext.refl _).alloc _
  have HS0 := Lib.hid hS0
  have HEA := Lib.hid hEa
  clear hS0 hEa
  go_wp2_with fail
  generalize hg : (fun i : Nat => partV (.mk kx s nx ix) (i * zn) zn dn) = g at *
  have HP := Lib.hid (show ∀ (i : Nat) (w' : World), i < cn → Ext w w' → Calls Try.prog 159 #[.agg #[.int .i64 kx, .slice p1 s.length m1, .slice p2 nx.length m2, .slice p3 ix.length m3], .int .i64 ((i * zn : Nat) : Int), .int .i64 (zn : Int), .slice pd ln md] w' (GivesArr (g i) w') from fun i w' hi e => by
    have hle : i * zn + zn ≤ cn * zn := by
      have := Nat.mul_le_mul_right zn (show i + 1 ≤ cn from hi)
      rwa [Nat.succ_mul] at this
    have h := part_any F F kx s nx ix _ _ _ _ (i * zn) zn dn pd md w' (HX.out.ext e) (fun h => by rw [HNC.out h]; exact hle) (fun h => by rw [HIC.out h]; exact hle) (HCD.out.ext e) ⟨by rw [HDL.out]; omega, by omega, by rw [HDL.out]; omega⟩
    rw [HDL.out] at h
    rw [← hg]
    exact h)
  have HV4 := Lib.hid (show fv = (List.range cn).map g from HV3.out)
  clear hg HV3 HNC HIC HCD HDL hmk
  generalize wk4.alloc (.cells (madeCells #[.int .i64 0, .slice none 0 0, .slice none 0 0, .slice none 0 0] (cn * 4)) 26) = w5 at *
  go_loopw [8, 35] (fun ov iv wr => ∃ (i : Nat) (p : Option Addr) (c : Nat), ov = .slice p i c ∧ iv = .int .i64 (i : Int) ∧ i ≤ cn ∧ OwnA wk4.heap.size (fun _ => False) wr (.slice p i c) i ((List.range i).map g) ∧ Ext wk4 wr) (fun _ iv _ => cn - (intOf iv).toNat)
  case atStart => exact ⟨0, _, _, rfl, rfl, Nat.zero_le _, HS0.out, HEA.out⟩
  case round =>
    obtain ⟨i, p, c, rfl, rfl, hic, hO, hE⟩ := hrel
    clear HS0 HEA
    by_cases hlt : i < cn
    · have hmul : i * zn ≤ 65536 * 65536 := Nat.mul_le_mul (by omega) hz6
      have hwm : IntKind.i64.wrap ((i : Int) * (zn : Int)) = ((i * zn : Nat) : Int) := by rw [← Int.natCast_mul, IntWalk.i64_in _ (by omega)]
      clear hmul
      have HPI := HP.out i
      generalize ((i * zn : Nat) : Int) = iz at *
      replace HPI := Lib.hid HPI
      obtain ⟨s0, s1, s2, s3⟩ := (HBx.out.ext hE).cell
      go_wp2_with fail
      clear s0 s1 s2 s3
      have hS0 : Ext wk4 wr.drew := hE.drew
      refine wp_region_g [0, 1, 2, 3, 4, 5, 6, 7, 8] [9, 10, 11, 12, 13] (fun w' => Ext wk4 w') (by kernel_rfl) (by kernel_rfl) hS0 ?_
      iterate 9
        refine wpHead_cons (v := ?_) rfl (by rfl) (fun w' hS => ?_) ?_
        rotate_left
        · obtain ⟨sb0, sb1, sb2, sb3⟩ := (HBx.out.ext hS).cell
          go_simp
          try with_reducible rfl
        try simp only [Act.put, List.setIfInBounds_toArray, List.set]
      unfold wpHead
      refine wpTail_cons rfl (fun K hK => ?_)
      go_wp2_with fail
      refine hK _ _ hS0 ?_
      try simp only [Act.put, List.setIfInBounds_toArray, List.set]
      refine wpTail_cons rfl (fun K hK => ?_)
      go_wp2_with fail
      refine (HPI.out _ hlt (HE.out.trans hS0)).mono ?_
      rintro e w3 ⟨y0', y1', y2', y3', rfl, hy', hE3⟩
      obtain ⟨yk, pq1, mm1, n1, pq2, mm2, n2, pq3, mm3, n3, rfl, rfl, rfl, rfl⟩ := hy'.form
      have hS3 := hS0.trans hE3
      go_wp2_with fail
      refine hK _ _ hS3 ?_
      try simp only [Act.put, List.setIfInBounds_toArray, List.set]
      refine wpTail_cons rfl (fun K hK => ?_)
      go_wp2_with fail
      have hEb : Ext w3 (w3.alloc (.cells #[.int .i64 yk, .slice pq1 mm1 n1, .slice pq2 mm2 n2, .slice pq3 mm3 n3] 26)) := (Ext.refl _).alloc _
      have hbx := box_new w3 (.int .i64 yk) (.slice pq1 mm1 n1) (.slice pq2 mm2 n2) (.slice pq3 mm3 n3)
      have hEw := (Ext.refl wr).drew.trans hE3
      have hO4 := hO.ext (hEw.trans hEb)
      have hY4 := ArrAt.mono (G := Apart wk4.heap.size (fun _ => False) (.slice p i c)) (fun q hq _ => ⟨hO.apart0 hE.lt q hq, rfl⟩) _ _ _ _ _ (hy'.ext hEb)
      have hS4 := hS3.trans hEb
      clear hO hy' hE3 hS3 hEw hS0
      generalize w3.alloc (.cells #[.int .i64 yk, .slice pq1 mm1 n1, .slice pq2 mm2 n2, .slice pq3 mm3 n3] 26) = w4 at *
      refine hK _ _ hS4 ?_
      try simp only [Act.put, List.setIfInBounds_toArray, List.set]
      refine wpTail_cons rfl (fun K hK => ?_)
      refine wpList_append_arr rfl _ _ rfl wk4.heap.size (fun _ => False) _ i _ (g i) _ _ _ _ rfl hO4 _ _ rfl hbx (fun _ h => h.elim) hY4 (by omega) hS4.lt ?_
      intro gb cap w8 hon8 hgrow hat8 _ hgb
      have hS8 : Ext wk4 w8 := hS4.grown hgrow hS4.lt (fun q e => (hO4.lt q e).1)
      refine hK _ _ hS8 ?_
      try simp only [Act.put, List.setIfInBounds_toArray, List.set]
      refine wpTail_free1 rfl (by kernel_rfl) ?_
      clear hO4 hbx hY4 hS4 hEb hgrow hat8
      go_wp2_with fail
      refine OnlyN.mk ?_
      (try simp only [Exit.inBlock, Exit.then])
      go_wp2_with fail
      go_roundw
      case rel => exact ⟨i + 1, _, _, rfl, by go_num, by omega, by rw [List.range_succ, List.map_append]; exact hon8, hS8⟩
      case measure => simp [intOf]; omega
    · have hie : i = cn := by omega
      subst hie
      go_wp2_with fail
      go_ret
      obtain ⟨p9, c9, hv9, hk9, hi9⟩ := hO.items (by omega)
      have hE9 := HE.out.trans hE
      refine ⟨_, rfl, ?_, hE9⟩
      rw [HV4.out, hv9]
      exact ⟨p9, c9, rfl, hk9, ItemsAt.mono (fun b hb _ => ⟨Nat.le_trans HE.out.lt hb.1, rfl⟩) _ _ _ hi9⟩

end Go.Proofs.Ytgkemmdghmklfaa

namespace Go.Proofs.Ytgkemmdghmklfaa
set_option linter.unusedSimpArgs false
set_option linter.unusedVariables false
open Go.RowKit

set_option maxRecDepth 100000 in
set_option maxHeartbeats 4000000 in
theorem rframe_any (F : Nat → Prop) (x : Arr) (c0 c1 c2 c3 : Value) (k : Int) (w : World) (hx : ArrAt F w x c0 c1 c2 c3) (hk : -9223372036854775808 ≤ k ∧ k ≤ 9223372036854775807) :
    Calls Try.prog 108 #[.agg #[c0, c1, c2, c3], .int .i64 k] w fun e w' => ∃ v, e = .returned v ∧ RdAll w' (frameV x k) v ∧ Ext w w' := by
  obtain ⟨kx, s, nx, ix⟩ := x
  have hx' := hx
  unfold ArrAt at hx'
  obtain ⟨rfl, hkx, ⟨p1, m1, rfl, ⟨o1, o1', o1''⟩, i1⟩, ⟨p2, m2, rfl, ⟨o2, o2', o2''⟩, i2⟩, ⟨p3, m3, rfl, ⟨o3, o3', o3''⟩, i3⟩⟩ := hx'
  have HX := Lib.hid hx
  have HS := Lib.hid i1
  clear hx i1 i2 i3
  have HV : Hid (frameV (.mk kx s nx ix) k = if rightV (.mk kx s nx ix) ≠ 0 then [] else s.take (s.length - (rankV k s.length).toNat)) := rfl
  generalize frameV (.mk kx s nx ix) k = fv at *
  go_enter Try.func108, Try.ntmps108
  have hE0 : Ext w (w.alloc (.cells #[.int .i64 kx, .slice p1 s.length m1, .slice p2 nx.length m2, .slice p3 ix.length m3] 26)) := (Ext.refl _).alloc _
  have hB := box_new w (.int .i64 kx) (.slice p1 s.length m1) (.slice p2 nx.length m2) (.slice p3 ix.length m3)
  have HR := Lib.hid (rright6_any F _ _ _ _ _ _ (HX.out.ext hE0))
  have HE := Lib.hid hE0
  have HB := Lib.hid hB
  clear hE0 hB
  go_wp2_with fail
  refine HR.out.mono ?_
  rintro e w2 ⟨rfl, hE1⟩
  replace HE := Lib.hid (HE.out.trans hE1)
  have HBx := Lib.hid (HB.out.ext hE1)
  clear HR HB hE1
  generalize rightV (.mk kx s nx ix) = r at *
  by_cases hr : r = 0
  rotate_left
  · have hr1 : (r != 0) = true := by simpa using hr
    have HV2 := Lib.hid (show fv = [] by rw [HV.out, if_pos hr])
    clear hr
    go_wp2_with fail
    go_ret
    refine ⟨_, rfl, ?_, HE.out⟩
    rw [HV2.out]
    exact ⟨none, 0, rfl, ⟨by simp, by simp, by simp⟩, fun i hi => by simp at hi⟩
  subst hr
  have hbd := rankV_bd k s.length (by omega)
  obtain ⟨rv, hrv⟩ : ∃ rv : Nat, rankV k s.length = rv := ⟨(rankV k s.length).toNat, by omega⟩
  rw [hrv] at hbd
  have HRK := Lib.hid (show ∀ m, Calls Try.prog 96 #[.int .i64 k, .int .i64 (s.length : Int)] (w2.drewN m) fun e w' => e = .returned (.int .i64 (rv : Int)) ∧ ∃ m', w' = w2.drewN m' from fun m => by
    have h := rrank_any k s.length (w2.drewN m) hk (by omega)
    rw [hrv] at h
    exact quiet_mine h)
  obtain ⟨n, hn⟩ : ∃ n, s.length - rv = n := ⟨_, rfl⟩
  have HV2 := Lib.hid (show fv = s.take n by rw [HV.out, if_neg (by simp), hrv, Int.toNat_natCast, hn])
  have hsub : (s.length : Int) - (rv : Int) = (n : Int) := by omega
  have hws : IntKind.i64.wrap ((s.length : Int) - (rv : Int)) = (n : Int) := by rw [hsub]; exact IntWalk.i64_in _ (by omega)
  have hnl : n ≤ s.length := by omega
  have hrun := fun w => slice_h p1 s.length m1 w n (by omega)
  have htl : (s.take n).length = n := by rw [List.length_take]; omega
  have HTL := Lib.hid htl
  have hcut := HS.out.cut (n := n) 0 m1 o1
  rw [List.drop_zero] at hcut
  generalize cutAt p1 0 m1 1 = pc at *
  have HCUT := Lib.hid hcut
  obtain ⟨s0, s1, s2, s3⟩ := HBx.out.cell
  clear hcut hrv hn htl HV
  go_wp2_with fail
  go_quiet ((go_at_call 96; exact HRK.out _))
  have hEn := (Ext.refl w2).drewN nq
  replace HE := Lib.hid (HE.out.trans hEn)
  replace HBx := Lib.hid (HBx.out.ext hEn)
  clear s0 s1 s2 s3 hEn HRK
  obtain ⟨w3, hw3⟩ : ∃ wx : World, wx = w2.drewN nq := ⟨_, rfl⟩
  rw [← hw3] at HE HBx ⊢
  clear hw3
  obtain ⟨s0, s1, s2, s3⟩ := HBx.out.cell
  have hlt := HBx.out.lt
  have HRW : Hid (RowI (w3.alloc (.cells #[] 3)) w3.heap.size []) := rowI_new' w3 []
  have HTK := HCUT.out
  have hxs : ∀ (l : List Int) (hl : l.length = n) (P : Value → Prop), P (.slice pc l.length m1) → P (.slice pc n m1) := fun l hl P h => by rw [hl] at h; exact h
  obtain ⟨t, ht⟩ : ∃ t, t = s.take n := ⟨_, rfl⟩
  rw [← ht] at HTK HTL HV2
  have htn : n = t.length := HTL.out.symm
  clear ht hxs
  subst htn
  have HTK2 := Lib.hid HTK
  clear HTK
  go_wp2_with (at_builtin; refine wpList_append_zero rfl _ _ rfl F w3.heap.size (fun _ => False) w3.heap.size pc m1 t rfl HRW.out (Nat.le_refl _) (fun h => h) rfl (HTK2.out.ext (HE.out.trans ((Ext.refl _).alloc _))) (fun _ h => h.elim) (by omega) (by simp) ?_)
  intro v w4 hO hE4
  obtain ⟨p8, c8, rfl, hk8, hi8⟩ := hO.ints
  have hE5 := HE.out.trans (((Ext.refl w3).alloc (.cells #[] 3)).trans hE4)
  clear s0 s1 s2 s3 hlt hO hE4
  go_wp2_with fail
  go_ret
  refine ⟨_, rfl, ?_, hE5⟩
  rw [HV2.out]
  exact ⟨p8, c8, rfl, hk8, hi8.mono fun _ _ _ => ⟨trivial, rfl⟩⟩
end Go.Proofs.Ytgkemmdghmklfaa

namespace Go.Proofs.Ytgkemmdghmklfaa
set_option linter.unusedSimpArgs false
set_option linter.unusedVariables false
open Go.RowKit

mutual
/-- count, as the machine counts. -/
def cntV : Arr → Int
  | .mk _ _ n it => cntGo (IntKind.i64.wrap ((n.length : Int) + it.length)) it
def cntGo : Int → List Arr → Int
  | c, [] => c
  | c, x :: r => cntGo (IntKind.i64.wrap (c + cntV x)) r
end
theorem i64_wrap_bd (z : Int) : -9223372036854775808 ≤ IntKind.i64.wrap z ∧ IntKind.i64.wrap z ≤ 9223372036854775807 := by
  rw [IntWalk.i64_left]
  have := wrap64_wf z
  simp only [Lit.wf] at this
  have h : (decide ((-9223372036854775808 : Int) ≤ wrap64 z) && decide (wrap64 z ≤ (9223372036854775807 : Int))) = true := this
  simpa using h
mutual
theorem cntV_bd : ∀ (t : Arr), -9223372036854775808 ≤ cntV t ∧ cntV t ≤ 9223372036854775807
  | .mk _ _ n it => by
    rw [cntV]
    exact cntGo_bd _ it (i64_wrap_bd _)
theorem cntGo_bd : ∀ (c : Int) (l : List Arr), (-9223372036854775808 ≤ c ∧ c ≤ 9223372036854775807) → -9223372036854775808 ≤ cntGo c l ∧ cntGo c l ≤ 9223372036854775807
  | c, [], h => by rw [cntGo]; exact h
  | c, x :: r, h => by
    rw [cntGo]
    exact cntGo_bd _ r (i64_wrap_bd _)
end

set_option maxRecDepth 100000 in
set_option maxHeartbeats 2000000 in
theorem count_any (F : Nat → Prop) : ∀ (m : Nat) (t : Arr) (c0 c1 c2 c3 : Value) (w : World), SizeOf.sizeOf t < m → ArrAt F w t c0 c1 c2 c3 →
    Calls Try.prog 135 #[.agg #[c0, c1, c2, c3]] w fun e w' => e = .returned (.int .i64 (cntV t)) ∧ Ext w w' := by
  intro m
  induction m with
  | zero => intro t c0 c1 c2 c3 w hm; omega
  | succ m ih =>
    intro t c0 c1 c2 c3 w hm h
    obtain ⟨k, s, n, it⟩ := t
    unfold ArrAt at h
    obtain ⟨rfl, hk, ⟨p1, k1, rfl, ⟨o1, o1', o1''⟩, i1⟩, ⟨p2, k2, rfl, ⟨o2, o2', o2''⟩, i2⟩, ⟨p3, k3, rfl, ⟨o3, o3', o3''⟩, i3⟩⟩ := h
    have IH := Lib.hid ih
    have I3 := Lib.hid i3
    have HM := Lib.hid hm
    clear ih i1 i2 i3 hm
    generalize hans : cntV (.mk k s n it) = ans
    rw [cntV, IntWalk.i64_in _ (by omega)] at hans
    have HANS := Lib.hid hans
    clear hans
    go_enter Try.func135, Try.ntmps135
    go_wp2_with fail
    have hE0 : Ext w (w.alloc (.cells #[.int .i64 k, .slice p1 s.length k1, .slice p2 n.length k2, .slice p3 it.length k3] 26)) := (Ext.refl _).alloc _
    have hB := box_new w (.int .i64 k) (.slice p1 s.length k1) (.slice p2 n.length k2) (.slice p3 it.length k3)
    generalize w.alloc (.cells #[.int .i64 k, .slice p1 s.length k1, .slice p2 n.length k2, .slice p3 it.length k3] 26) = w1 at hE0 hB ⊢
    have HB := Lib.hid hB
    clear hB
    go_loopw [3, 4] (fun nv i wr => ∃ (j : Nat) (q : Int), j ≤ it.length ∧ i = .int .i64 j ∧ nv = .int .i64 q ∧ -9223372036854775808 ≤ q ∧ q ≤ 9223372036854775807 ∧ Ext w1 wr ∧ Hid (cntGo q (it.drop j) = ans)) (fun _ i _ => it.length - (intOf i).toNat)
    case atStart => exact ⟨0, _, Nat.zero_le _, rfl, rfl, by omega, by omega, Ext.refl _, HANS.out⟩
    case round =>
      obtain ⟨j, q, hj, rfl, rfl, hq0, hq1, hE2, HR⟩ := hrel
      clear HANS
      obtain ⟨s0, s1, s2, s3⟩ := (HB.out.ext hE2).cell
      by_cases hlt : j < it.length
      · obtain ⟨b, off, x0, x1, x2, x3, rfl, _, g0, g1, g2, g3, hx⟩ := ItemsAt.get it _ 0 j I3.out hlt
        rw [Nat.zero_add] at g0 g1 g2 g3
        have G0 := (hE0.trans hE2).cell g0
        have G1 := (hE0.trans hE2).cell g1
        have G2 := (hE0.trans hE2).cell g2
        have G3 := (hE0.trans hE2).cell g3
        have hsz : SizeOf.sizeOf it[j] < m := by
          have h1 := List.sizeOf_lt_of_mem (List.getElem_mem hlt)
          have h2 := HM.out
          simp at h2
          omega
        have HCALL := Lib.hid (fun w' e => IH.out it[j] x0 x1 x2 x3 w' hsz (hx.ext (w' := w') e))
        have HD := hid_intro (List.drop_eq_getElem_cons hlt)
        have hwb := cntV_bd it[j]
        clear g0 g1 g2 g3 hsz
        obtain ⟨y0, q1, l1, m1, q2, l2, m2, q3, l3, m3, rfl, rfl, rfl, rfl⟩ := hx.form
        clear hx
        generalize it[j] = x at *
        have HN : Hid (cntGo (IntKind.i64.wrap (q + cntV x)) (it.drop (j + 1)) = ans) := by
          have := HR.out
          rw [HD.out, cntGo] at this
          exact this
        clear HR HD
        generalize cntV x = cx at *
        have hwq := i64_wrap_bd (q + cx)
        have hspell : IntKind.i64.wrap (q + cx) = wrap64 (q + cx) := IntWalk.i64_left _
        have HSP := Lib.hid hspell
        clear hspell
        rw [HSP.out] at hwq
        go_wp2_with fail
        refine (HCALL.out _ (hE0.trans hE2)).mono ?_
        rintro e w4 ⟨rfl, hE4⟩
        go_wp2_with fail
        go_roundw
        case rel => exact ⟨j + 1, IntKind.i64.wrap (q + cx), by omega, by go_num, by first | rfl | (rw [HSP.out]), by rw [HSP.out]; omega, by rw [HSP.out]; omega, hE2.trans hE4, HN.out⟩
        case measure => simp [intOf]; omega
      · have HF : Hid (q = ans) := by
          have := HR.out
          rw [List.drop_of_length_le (by omega), cntGo] at this
          exact this
        have hE9 := hE0.trans hE2
        clear HR
        go_wp2_with fail
        go_ret
        exact ⟨ret_int HF.out, hE9⟩

def fewV (t : Arr) (n : Int) : Bool := match t with
  | .mk k s nn it => decide (s.length ≤ 20) && decide (cntV (.mk k s nn it) ≤ n)
set_option maxHeartbeats 1000000 in
theorem few_any (F : Nat → Prop) (t : Arr) (c0 c1 c2 c3 : Value) (n : Int) (w : World) (h : ArrAt F w t c0 c1 c2 c3) :
    Calls Try.prog 85 #[.agg #[c0, c1, c2, c3], .int .i64 n] w fun e w' => e = .returned (.bool (fewV t n)) ∧ Ext w w' := by
  have HC := Lib.hid (fun w' e => count_any F _ t c0 c1 c2 c3 w' (Nat.lt_succ_self _) (h.ext (w' := w') e))
  obtain ⟨k, s, nn, it⟩ := t
  unfold ArrAt at h
  obtain ⟨rfl, hk, ⟨p1, k1, rfl, ⟨o1, o1', o1''⟩, i1⟩, ⟨p2, k2, rfl, ⟨o2, o2', o2''⟩, i2⟩, ⟨p3, k3, rfl, ⟨o3, o3', o3''⟩, i3⟩⟩ := h
  clear i1 i2 i3
  unfold fewV
  dsimp only
  generalize cntV (.mk k s nn it) = cv at *
  by_cases h20 : s.length ≤ 20
  · have h1 : Hid ((decide (s.length ≤ 20) && decide (cv ≤ n)) = decide (cv ≤ n)) := by
      show _ = _
      simp [h20]
    have h20' : (s.length : Int) ≤ 20 := by omega
    rw [h1.out]
    go_enter Try.func85, Try.ntmps85
    go_wp2_with fail
    refine (HC.out _ ((Ext.refl _).alloc _)).mono ?_
    rintro e w4 ⟨rfl, hE4⟩
    go_wp2_with fail
    go_ret
    exact ⟨rfl, Ext.trans ((Ext.refl _).alloc _) hE4⟩
  · have h1 : Hid ((decide (s.length ≤ 20) && decide (cv ≤ n)) = false) := by
      show _ = _
      simp [h20]
    have h20' : ¬ (s.length : Int) ≤ 20 := by omega
    rw [h1.out]
    go_enter Try.func85, Try.ntmps85
    go_wp2_with fail
    go_ret
    exact ⟨rfl, (Ext.refl _).alloc _⟩
end Go.Proofs.Ytgkemmdghmklfaa

namespace Go.Proofs.Ytgkemmdghmklfaa
set_option linter.unusedSimpArgs false
set_option linter.unusedVariables false
open Go.RowKit

theorem visit_nn (x : Arr) : 0 ≤ (visitV x).2.1 ∧ 0 ≤ (visitV x).2.2 := by
  have h := visitV_bd (SizeOf.sizeOf x + 1) x (by omega)
  omega
theorem items_mono : ∀ (l : List Arr) (d wt d0 wt0 d' w' : Int), d0 ≤ d → wt0 ≤ wt → itemsV l d wt = some (d', w') → ∃ a b, itemsV l d0 wt0 = some (a, b) ∧ a ≤ d' ∧ b ≤ w'
  | [], d, wt, d0, wt0, d', w', h1, h2, h => by
    rw [itemsV] at h
    cases h
    exact ⟨d0, wt0, by rw [itemsV], h1, h2⟩
  | x :: r, d, wt, d0, wt0, d', w', h1, h2, h => by
    rw [itemsV] at h
    rw [itemsV]
    split at h
    · cases h
    · rename_i hx
      rw [if_neg hx]
      exact items_mono r _ _ _ _ d' w' (by omega) (by omega) h
theorem items_grow : ∀ (l : List Arr) (d wt d' w' : Int), wt ≤ 262145 → itemsV l d wt = some (d', w') → d ≤ d' ∧ wt ≤ w'
  | [], d, wt, d', w', _, h => by
    rw [itemsV] at h
    cases h
    exact ⟨Int.le_refl _, Int.le_refl _⟩
  | x :: r, d, wt, d', w', hw, h => by
    rw [itemsV] at h
    split at h
    · cases h
    · have hn := visit_nn x
      obtain ⟨h1, h2⟩ := items_grow r _ _ d' w' (by omega) h
      omega
theorem items_app : ∀ (l1 l2 : List Arr) (d wt d' w' : Int), itemsV (l1 ++ l2) d wt = some (d', w') → ∃ a b, itemsV l1 d wt = some (a, b) ∧ itemsV l2 a b = some (d', w')
  | [], l2, d, wt, d', w', h => ⟨d, wt, by rw [itemsV], h⟩
  | x :: r, l2, d, wt, d', w', h => by
    rw [List.cons_append, itemsV] at h
    rw [itemsV]
    split at h
    · cases h
    · rename_i hx
      rw [if_neg hx]
      exact items_app r l2 _ _ d' w' h
theorem items_cap : ∀ (l : List Arr) (d wt d' w' : Int), wt ≤ 262145 → itemsV l d wt = some (d', w') → w' ≤ 262145
  | [], d, wt, d', w', hw, h => by
    rw [itemsV] at h
    cases h
    exact hw
  | x :: r, d, wt, d', w', hw, h => by
    rw [itemsV] at h
    split at h
    · cases h
    · exact items_cap r _ _ d' w' (by omega) h
/-- A part of the items. -/
theorem items_part {l : List Arr} {wt d' w' : Int} (a z : Nat) (wt0 : Int) (h0 : 0 ≤ wt0) (hwt : wt0 ≤ wt) (hw : wt ≤ 262145) (h : itemsV l 0 wt = some (d', w')) : ∃ d2 w2, itemsV ((l.drop a).take z) 0 wt0 = some (d2, w2) ∧ d2 ≤ d' ∧ w2 ≤ w' := by
  have h1 : itemsV (l.take a ++ ((l.drop a).take z ++ (l.drop a).drop z)) 0 wt = some (d', w') := by rw [List.take_append_drop, List.take_append_drop]; exact h
  obtain ⟨a1, b1, h2, h3⟩ := items_app _ _ _ _ _ _ h1
  obtain ⟨a2, b2, h4, h5⟩ := items_app _ _ _ _ _ _ h3
  obtain ⟨g1, g2⟩ := items_grow _ _ _ _ _ hw h2
  have c1 := items_cap _ _ _ _ _ hw h2
  have c2 := items_cap _ _ _ _ _ c1 h4
  obtain ⟨g3, g4⟩ := items_grow _ _ _ _ _ c2 h5
  obtain ⟨a3, b3, h6, h7, h8⟩ := items_mono _ _ _ 0 wt0 _ _ g1 (by omega) h4
  exact ⟨a3, b3, h6, by omega, by omega⟩
theorem right_inv {k : Int} {s n : List Int} {it : List Arr} (h : rightV (.mk k s n it) = 0) : n.any (badNum k) = false ∧ ∃ d w, itemsV it 0 ((n.length : Int) + it.length) = some (d, w) ∧ d ≤ 16 ∧ w ≤ 262144 := by
  unfold rightV at h
  rw [visitV] at h
  split at h
  · rename_i h1; exact absurd h h1
  · split at h
    · cases h
    · rename_i hb
      refine ⟨by simpa using hb, ?_⟩
      split at h
      · cases h
      · rename_i d wt he
        split at h
        · cases h
        · exact ⟨d, wt, he, by omega, by omega⟩
theorem right_mk {k : Int} {s n : List Int} {it : List Arr} {d w : Int} (hk : k = 1 ∨ k = 2 ∨ k = 3) (hs : shapeRight s = true) (hn : k ≠ 3 → it = [] ∧ (n.length : Int) = shapeSize s) (hi : k = 3 → n = [] ∧ (it.length : Int) = shapeSize s) (hb : n.any (badNum k) = false)
    (hit : itemsV it 0 ((n.length : Int) + it.length) = some (d, w)) (hd : d ≤ 16) (hw : w ≤ 262144) : rightV (.mk k s n it) = 0 := by
  have h8 := shapeRight_go hs
  have hneg : s.any isNeg = false := by
    rw [List.any_eq_false]
    intro x hx
    have := (rightGo_nonneg s 1 h8.1 x hx).1
    simp [isNeg]; omega
  have hf : formV (.mk k s n it) = 0 := by
    unfold formV
    dsimp only
    by_cases h3 : k = 3
    · obtain ⟨h1, h2⟩ := hi h3
      rw [if_pos h3, formOf, if_neg (by omega), if_neg (by omega), hneg, if_neg (by simp), hs, if_neg (by simp), h2]
      simp [h1]
    · obtain ⟨h1, h2⟩ := hn h3
      rw [if_neg h3, formOf, if_neg (by omega), if_neg (by omega), hneg, if_neg (by simp), hs, if_neg (by simp), h2]
      simp [h1]
  unfold rightV
  rw [visitV, if_neg (by rw [hf]; simp), if_neg (by rw [hb]; simp), hit]
  dsimp only
  rw [if_neg (by omega)]
/-- A part of a right array. -/
theorem part_right {k : Int} {s n : List Int} {it : List Arr} (h : rightV (.mk k s n it) = 0) (a z : Nat) (t : List Int) (ht : shapeRight t = true) (hz : shapeSize t = z) (hn : k ≠ 3 → a + z ≤ n.length) (hi : k = 3 → a + z ≤ it.length) : rightV (partV (.mk k s n it) a z t) = 0 := by
  obtain ⟨hk, h8, hr, hn3, hi3⟩ := right_parts h
  obtain ⟨hb, d, w, hit, hd, hw⟩ := right_inv h
  unfold partV
  by_cases h3 : k = 3
  · have hil := hi h3
    simp only [if_pos h3]
    have hs := shapeSize_hi s
    obtain ⟨e1, e2⟩ := hi3 h3
    obtain ⟨d2, w2, g1, g2, g3⟩ := items_part a z (((([] : List Int).length : Int)) + ((it.drop a).take z).length) (by omega) (by simp; omega) (by rw [e1]; simp; omega) hit
    refine right_mk hk ht (fun h => absurd h3 h) (fun _ => ⟨rfl, ?_⟩) rfl g1 (by omega) (by omega)
    rw [hz, List.length_take, List.length_drop]; omega
  · have hnl := hn h3
    simp only [if_neg h3]
    refine right_mk hk ht (fun _ => ⟨rfl, ?_⟩) (fun h => absurd h h3) ?_ (d := 0) (w := (((n.drop a).take z).length : Int) + (([] : List Arr).length : Int)) (by rw [itemsV]) (by omega) ?_
    · rw [hz, List.length_take, List.length_drop]; omega
    · rw [List.any_eq_false] at hb ⊢
      exact fun x hx => hb x (List.mem_of_mem_drop (List.mem_of_mem_take hx))
    · have hs := shapeSize_hi s
      have := (hn3 h3).2
      simp only [List.length_take, List.length_drop, List.length_nil]
      omega
theorem range_getD {α : Type} (l : List α) (d : α) : (List.range l.length).map (fun i => l.getD i d) = l := by
  apply List.ext_getElem (by simp)
  intro i h1 h2
  simp [List.getD, h2]
/-- An array padded to its own shape is itself. -/
theorem padV_self {x : Arr} (h : rightV x = 0) : padV x x.sh = x := by
  obtain ⟨k, s, n, it⟩ := x
  obtain ⟨hk, h8, hr, hn3, hi3⟩ := right_parts h
  have hs : shapeRight s = true := by simp only [shapeRight, Bool.and_eq_true, decide_eq_true_eq]; exact ⟨h8, hr⟩
  simp only [Arr.sh, padV]
  rw [leadV_self, padL_self _ _ _ hs, padL_self _ _ _ hs]
  by_cases h3 : k = 3
  · obtain ⟨h1, h2⟩ := hi3 h3
    rw [if_pos h3, if_pos h3, ← h2, Int.toNat_natCast, range_getD, h1]
  · obtain ⟨h1, h2⟩ := hn3 h3
    rw [if_neg h3, if_neg h3, ← h2, Int.toNat_natCast, range_getD, h1]
theorem chunks {α : Type} (l : List α) (z : Nat) : ∀ (c : Nat), (List.range c).flatMap (fun i => (l.drop (i * z)).take z) = l.take (c * z)
  | 0 => by simp
  | c + 1 => by
    rw [List.range_succ, List.flatMap_append, chunks l z c, Nat.succ_mul, List.take_add]
    simp
theorem zipMax_le : ∀ (a b : List Int), a.length = b.length → (∀ j, j < a.length → a.getD j 0 ≤ b.getD j 0) → zipMax a b = b
  | [], [], _, _ => rfl
  | [], _ :: _, h, _ => by simp at h
  | _ :: _, [], h, _ => by simp at h
  | a :: r, b :: q, h, hj => by
    have h0 := hj 0 (by simp)
    simp only [List.getD_cons_zero] at h0
    rw [zipMax, zipMax_le r q (by simpa using h) (fun j h' => by simpa using hj (j + 1) (by simpa using h'))]
    congr 1
    split <;> omega
theorem rankMax_same {L : Nat} : ∀ (l : List Arr) (m : Nat), m ≤ L → (∀ x ∈ l, x.sh.length = L) → (m = L ∨ l ≠ []) → rankMax m l = L
  | [], m, _, _, h => by rcases h with h | h; exact h; exact absurd rfl h
  | x :: r, m, hm, hl, _ => by
    rw [rankMax, hl x (by simp)]
    exact rankMax_same r _ (by split <;> omega) (fun y hy => hl y (by simp [hy])) (.inl (by split <;> omega))
theorem commonGo_same {t : List Int} : ∀ (l : List Arr) (o : List Int), o.length = t.length → (∀ j, j < o.length → o.getD j 0 ≤ t.getD j 0) → (∀ x ∈ l, x.sh = t) → (o = t ∨ l ≠ []) → commonGo t.length o l = t
  | [], o, _, _, _, h => by rcases h with h | h; exact h; exact absurd rfl h
  | x :: r, o, ho, hj, hl, _ => by
    rw [commonGo, hl x (by simp), leadV_self, zipMax_le o t ho hj]
    exact commonGo_same r t rfl (fun j _ => Int.le_refl _) (fun y hy => hl y (by simp [hy])) (.inl rfl)
theorem commonV_same {l : List Arr} {t : List Int} (hl : ∀ x ∈ l, x.sh = t) (hne : l ≠ []) (ht : ∀ d ∈ t, 0 ≤ d) : commonV l = t := by
  unfold commonV
  rw [rankMax_same l 0 (Nat.zero_le _) (fun x hx => by rw [hl x hx]) (.inr hne)]
  refine commonGo_same l _ (by simp) (fun j hj => ?_) hl (.inr hne)
  have h2 : j < t.length := by simpa using hj
  have h3 := ht (t.getD j 0) (by simp [List.getD, h2])
  simpa [List.getD, h2] using h3
theorem size_take_pos {s : List Int} (h : rightGo 1 s = true) (h8 : s.length ≤ 8) (k : Nat) : (shapeSize (s.take k) = 0 ↔ (0 : Int) ∈ s.take k) := by
  have h1 := rightGo_take s 1 k h
  have h2 : (s.take k).length ≤ 8 := by rw [List.length_take]; omega
  rw [size_prodA h1 h2]
  have h0 := prodA_nonneg _ 1 (by omega) h1
  constructor
  · intro he
    refine Classical.byContradiction fun hm => ?_
    have hp : Pos (s.take k) := fun j hj => by
      have hmem : (s.take k).getD j 0 ∈ s.take k := by simp only [List.getD, hj, List.getElem?_eq_getElem, Option.getD_some]; exact List.getElem_mem hj
      have h4 := (rightGo_nonneg _ 1 h1 _ hmem).1
      have h5 : (s.take k).getD j 0 ≠ 0 := fun e => hm (by rw [← e]; exact hmem)
      omega
    rw [prodA_pos_pp hp] at he
    have := pp_pos _ hp
    omega
  · intro hm
    rw [prodA_vol, if_pos]
    rw [List.any_eq_true]
    exact ⟨0, hm, rfl⟩

/-- The cells of a right array: f axes of frame, c cells of z elements. -/
structure CellsOk (x : Arr) (k : Int) (f c z : Nat) : Prop where
  hf : f ≤ x.sh.length
  fr : frameV x k = x.sh.take f
  rk : (f : Int) + rankV k x.sh.length = x.sh.length
  ce : cellsV x k = (List.range c).map fun i => partV x (i * z) z (x.sh.drop f)
  sc : shapeSize (x.sh.take f) = c
  sz : shapeSize (x.sh.drop f) = z
  nn : x.k ≠ 3 → x.it = [] ∧ x.n.length = c * z
  ii : x.k = 3 → x.n = [] ∧ x.it.length = c * z
theorem cells_ok {x : Arr} (h : rightV x = 0) (k : Int) : ∃ f c z, CellsOk x k f c z := by
  obtain ⟨kx, s, n, it⟩ := x
  obtain ⟨hk, h8, hr, hn3, hi3⟩ := right_parts h
  have hb := rankV_bd k s.length (by omega)
  obtain ⟨hs1, hs2, hs3, hs4, hs5⟩ := size_split hr h8 (s.length - (rankV k s.length).toNat)
  refine ⟨s.length - (rankV k s.length).toNat, (shapeSize (s.take (s.length - (rankV k s.length).toNat))).toNat, (shapeSize (s.drop (s.length - (rankV k s.length).toNat))).toNat, ?_, ?_, ?_, ?_, ?_, ?_, ?_, ?_⟩
  · simp only [Arr.sh]; omega
  · simp only [frameV, Arr.sh, h]; simp
  · simp only [Arr.sh]; omega
  · simp only [cellsV, Arr.sh, h]; simp
  · simp only [Arr.sh]; omega
  · simp only [Arr.sh]; omega
  · intro h3
    obtain ⟨e1, e2⟩ := hn3 h3
    refine ⟨e1, ?_⟩
    simp only [Arr.n]
    have : ((n.length : Nat) : Int) = (((shapeSize (s.take (s.length - (rankV k s.length).toNat))).toNat * (shapeSize (s.drop (s.length - (rankV k s.length).toNat))).toNat : Nat) : Int) := by
      rw [e2, hs1, Int.natCast_mul, Int.toNat_of_nonneg hs2, Int.toNat_of_nonneg hs4]
    exact_mod_cast this
  · intro h3
    obtain ⟨e1, e2⟩ := hi3 h3
    refine ⟨e1, ?_⟩
    simp only [Arr.it]
    have : ((it.length : Nat) : Int) = (((shapeSize (s.take (s.length - (rankV k s.length).toNat))).toNat * (shapeSize (s.drop (s.length - (rankV k s.length).toNat))).toNat : Nat) : Int) := by
      rw [e2, hs1, Int.natCast_mul, Int.toNat_of_nonneg hs2, Int.toNat_of_nonneg hs4]
    exact_mod_cast this
theorem cell_facts {x : Arr} {k : Int} {f c z : Nat} (h : rightV x = 0) (o : CellsOk x k f c z) {i : Nat} (hi : i < c) : rightV (partV x (i * z) z (x.sh.drop f)) = 0 ∧ (partV x (i * z) z (x.sh.drop f)).n.length + (partV x (i * z) z (x.sh.drop f)).it.length = z ∧ (partV x (i * z) z (x.sh.drop f)).sh = x.sh.drop f ∧ (partV x (i * z) z (x.sh.drop f)).k = x.k := by
  obtain ⟨kx, s, n, it⟩ := x
  obtain ⟨hk, h8, hr, hn3, hi3⟩ := right_parts h
  have hle : i * z + z ≤ c * z := by
    have := Nat.mul_le_mul_right z (show i + 1 ≤ c from hi)
    rwa [Nat.succ_mul] at this
  have ho1 := o.nn
  have ho2 := o.ii
  simp only [Arr.k, Arr.n, Arr.it] at ho1 ho2
  have ht : shapeRight (s.drop f) = true := by simp only [shapeRight, Bool.and_eq_true, decide_eq_true_eq]; exact ⟨by rw [List.length_drop]; omega, rightGo_drop s f hr⟩
  refine ⟨part_right h (i * z) z _ ht o.sz (fun h3 => by rw [(ho1 h3).2]; exact hle) (fun h3 => by rw [(ho2 h3).2]; exact hle), ?_, rfl, rfl⟩
  simp only [partV, Arr.sh, Arr.n, Arr.it]
  by_cases h3 : kx = 3
  · have := (ho2 h3).2
    rw [if_pos h3, if_pos h3]
    simp only [List.length_nil, List.length_take, List.length_drop]; omega
  · have := (ho1 h3).2
    rw [if_neg h3, if_neg h3]
    simp only [List.length_nil, List.length_take, List.length_drop]; omega
/-- THE LAW: joining the cells yields the array. -/
theorem join_back {x : Arr} {k : Int} {f c z : Nat} (h : rightV x = 0) (o : CellsOk x k f c z) (hc : 0 < c) (b : Arr) : joinV (frameV x k) (cellsV x k) b = (x, 0) := by
  have hcf := fun i (hi : i < c) => cell_facts h o hi
  rw [o.fr, o.ce]
  obtain ⟨kx, s, n, it⟩ := x
  obtain ⟨hk, h8, hr, hn3, hi3⟩ := right_parts h
  have ho1 := o.nn
  have ho2 := o.ii
  simp only [Arr.k, Arr.n, Arr.it, Arr.sh] at ho1 ho2 hcf ⊢
  have hsc := o.sc
  simp only [Arr.sh] at hsc
  generalize hl : ((List.range c).map fun i => partV (.mk kx s n it) (i * z) z (s.drop f)) = l
  have hmem : ∀ y ∈ l, ∃ i, i < c ∧ y = partV (.mk kx s n it) (i * z) z (s.drop f) := fun y hy => by
    rw [← hl] at hy
    obtain ⟨i, hi, e⟩ := List.mem_map.1 hy
    exact ⟨i, List.mem_range.1 hi, e.symm⟩
  have hll : l.length = c := by rw [← hl]; simp
  have hne : l ≠ [] := fun e => by rw [e] at hll; simp at hll; omega
  have hsr : shapeRight (s.take f) = true := by simp only [shapeRight, Bool.and_eq_true, decide_eq_true_eq]; exact ⟨by rw [List.length_take]; omega, rightGo_take s 1 f hr⟩
  have hsS : shapeRight s = true := by simp only [shapeRight, Bool.and_eq_true, decide_eq_true_eq]; exact ⟨h8, hr⟩
  have hra : ∀ y ∈ l, rightV y = 0 := fun y hy => by obtain ⟨i, hi, rfl⟩ := hmem y hy; exact (hcf i hi).1
  have hsh : ∀ y ∈ l, y.sh = s.drop f := fun y hy => by obtain ⟨i, hi, rfl⟩ := hmem y hy; exact (hcf i hi).2.2.1
  have hkk : ∀ y ∈ l, y.k = kx := fun y hy => by obtain ⟨i, hi, rfl⟩ := hmem y hy; exact (hcf i hi).2.2.2
  have hcm : commonV l = s.drop f := commonV_same hsh hne (fun d hd => (rightGo_nonneg s 1 hr d (List.mem_of_mem_drop hd)).1)
  have hhk : (l.headD default).k = kx := by
    cases l with
    | nil => exact absurd rfl hne
    | cons y r => exact hkk y (by simp)
  have hpad : ∀ y ∈ l, padV y (s.drop f) = y := fun y hy => by
    have h1 := padV_self (hra y hy)
    rwa [hsh y hy] at h1
  have hw : wrongV (s.take f) l b = 0 := by
    unfold wrongV
    rw [if_neg, if_neg, if_neg]
    · rw [Bool.not_eq_false, List.all_eq_true]
      intro y hy
      rw [hkk y hy, hhk]; simp
    · rw [Bool.not_eq_false, List.all_eq_true]
      intro y hy
      rw [hra y hy]; rfl
    · intro hcon
      rcases hcon with h1 | h1 | h1
      · rw [hsr] at h1; cases h1
      · exact h1 (by rw [hll, hsc])
      · exact hne h1.1
  have hN : (l.flatMap fun y => (padV y (s.drop f)).n) = n := by
    rw [flatMap_congr' l (g := fun y => y.n) (fun y hy => by rw [hpad y hy]), ← hl, List.flatMap_map]
    simp only [partV, Arr.n]
    by_cases h3 : kx = 3
    · simp only [if_pos h3]
      rw [(ho2 h3).1]
      exact List.flatMap_eq_nil_iff.2 fun _ _ => rfl
    · simp only [if_neg h3]
      rw [chunks, ← (ho1 h3).2, List.take_length]
  have hI : (l.flatMap fun y => (padV y (s.drop f)).it) = it := by
    rw [flatMap_congr' l (g := fun y => y.it) (fun y hy => by rw [hpad y hy]), ← hl, List.flatMap_map]
    simp only [partV, Arr.it]
    by_cases h3 : kx = 3
    · simp only [if_pos h3]
      rw [chunks, ← (ho2 h3).2, List.take_length]
    · simp only [if_neg h3]
      rw [(ho1 h3).1]
      exact List.flatMap_eq_nil_iff.2 fun _ _ => rfl
  have hj : joinedV (s.take f) l = .mk kx s n it := by
    unfold joinedV
    rw [hcm, hhk, hN, hI, List.take_append_drop]
  unfold joinV
  rw [if_neg (by rw [hw]; simp), if_neg hne, hcm, List.take_append_drop, hsS, if_neg (by simp), hj, if_pos h]
theorem cells_zero {x : Arr} {k : Int} {f c z : Nat} (h : rightV x = 0) (o : CellsOk x k f c z) : c = 0 ↔ (0 : Int) ∈ frameV x k := by
  rw [o.fr]
  have hsc := o.sc
  obtain ⟨kx, s, n, it⟩ := x
  obtain ⟨hk, h8, hr, _, _⟩ := right_parts h
  simp only [Arr.sh] at hsc ⊢
  rw [← size_take_pos hr h8 f, hsc]
  omega
end Go.Proofs.Ytgkemmdghmklfaa
