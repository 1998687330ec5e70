/-
  THE WALK of arraylangref04.Frame.
-/
import Derived.Test.YtgeppialbkijiaaCFrm
import Derived.Test.YtgeppialbkijiaaRRight
namespace Go.Proofs.Ytgeppialbkijiaa
set_option linter.unusedSimpArgs false
set_option linter.unusedVariables false
open Go.RowKit

set_option maxRecDepth 100000 in
set_option maxHeartbeats 4000000 in
theorem rframe_any (F : Nat → Prop) (x : Arr) (c0 c1 c2 c3 : Value) (k : Int) (w : World) (hx : ArrAt F w x c0 c1 c2 c3) (hk : -9223372036854775808 ≤ k ∧ k ≤ 9223372036854775807) :
    Calls Try.prog 84 #[.agg #[c0, c1, c2, c3], .int .i64 k] w fun e w' => ∃ v, e = .returned v ∧ RdAll w' (frameV x k) v ∧ Ext w w' := by
  obtain ⟨kx, s, nx, ix⟩ := x
  have hx' := hx
  unfold ArrAt at hx'
  obtain ⟨rfl, hkx, ⟨p1, m1, rfl, ⟨o1, o1', o1''⟩, i1⟩, ⟨p2, m2, rfl, ⟨o2, o2', o2''⟩, i2⟩, ⟨p3, m3, rfl, ⟨o3, o3', o3''⟩, i3⟩⟩ := hx'
  have HX := Lib.hid hx
  have HS := Lib.hid i1
  clear hx i1 i2 i3
  have HV : Hid (frameV (.mk kx s nx ix) k = if rightV (.mk kx s nx ix) ≠ 0 then [] else s.take (s.length - (rankV k s.length).toNat)) := rfl
  generalize frameV (.mk kx s nx ix) k = fv at *
  go_enter Try.func84, Try.ntmps84
  have hE0 : Ext w (w.alloc (.cells #[.int .i64 kx, .slice p1 s.length m1, .slice p2 nx.length m2, .slice p3 ix.length m3] 26)) := (Ext.refl _).alloc _
  have hB := box_new w (.int .i64 kx) (.slice p1 s.length m1) (.slice p2 nx.length m2) (.slice p3 ix.length m3)
  have HR := Lib.hid (rright6_any F _ _ _ _ _ _ (HX.out.ext hE0))
  have HE := Lib.hid hE0
  have HB := Lib.hid hB
  clear hE0 hB
  go_wp2_with fail
  refine HR.out.mono ?_
  rintro e w2 ⟨rfl, hE1⟩
  replace HE := Lib.hid (HE.out.trans hE1)
  have HBx := Lib.hid (HB.out.ext hE1)
  clear HR HB hE1
  generalize rightV (.mk kx s nx ix) = r at *
  by_cases hr : r = 0
  rotate_left
  · have hr1 : (r != 0) = true := by simpa using hr
    have HV2 := Lib.hid (show fv = [] by rw [HV.out, if_pos hr])
    clear hr
    go_wp2_with fail
    go_ret
    refine ⟨_, rfl, ?_, HE.out⟩
    rw [HV2.out]
    exact ⟨none, 0, rfl, ⟨by simp, by simp, by simp⟩, fun i hi => by simp at hi⟩
  subst hr
  have hbd := rankV_bd k s.length (by omega)
  obtain ⟨rv, hrv⟩ : ∃ rv : Nat, rankV k s.length = rv := ⟨(rankV k s.length).toNat, by omega⟩
  rw [hrv] at hbd
  have HRK := Lib.hid (show ∀ m, Calls Try.prog 76 #[.int .i64 k, .int .i64 (s.length : Int)] (w2.drewN m) fun e w' => e = .returned (.int .i64 (rv : Int)) ∧ ∃ m', w' = w2.drewN m' from fun m => by
    have h := rrank_any k s.length (w2.drewN m) hk (by omega)
    rw [hrv] at h
    exact quiet_mine h)
  obtain ⟨n, hn⟩ : ∃ n, s.length - rv = n := ⟨_, rfl⟩
  have HV2 := Lib.hid (show fv = s.take n by rw [HV.out, if_neg (by simp), hrv, Int.toNat_natCast, hn])
  have hsub : (s.length : Int) - (rv : Int) = (n : Int) := by omega
  have hws : IntKind.i64.wrap ((s.length : Int) - (rv : Int)) = (n : Int) := by rw [hsub]; exact IntWalk.i64_in _ (by omega)
  have hnl : n ≤ s.length := by omega
  have hrun := fun w => slice_h p1 s.length m1 w n (by omega)
  have htl : (s.take n).length = n := by rw [List.length_take]; omega
  have HTL := Lib.hid htl
  have hcut := HS.out.cut (n := n) 0 m1 o1
  rw [List.drop_zero] at hcut
  generalize cutAt p1 0 m1 1 = pc at *
  have HCUT := Lib.hid hcut
  obtain ⟨s0, s1, s2, s3⟩ := HBx.out.cell
  clear hcut hrv hn htl HV
  go_wp2_with fail
  go_quiet ((go_at_call 76; exact HRK.out _))
  have hEn := (Ext.refl w2).drewN nq
  replace HE := Lib.hid (HE.out.trans hEn)
  replace HBx := Lib.hid (HBx.out.ext hEn)
  clear s0 s1 s2 s3 hEn HRK
  obtain ⟨w3, hw3⟩ : ∃ wx : World, wx = w2.drewN nq := ⟨_, rfl⟩
  rw [← hw3] at HE HBx ⊢
  clear hw3
  obtain ⟨s0, s1, s2, s3⟩ := HBx.out.cell
  have hlt := HBx.out.lt
  have HRW : Hid (RowI (w3.alloc (.cells #[] 3)) w3.heap.size []) := rowI_new' w3 []
  have HTK := HCUT.out
  have hxs : ∀ (l : List Int) (hl : l.length = n) (P : Value → Prop), P (.slice pc l.length m1) → P (.slice pc n m1) := fun l hl P h => by rw [hl] at h; exact h
  obtain ⟨t, ht⟩ : ∃ t, t = s.take n := ⟨_, rfl⟩
  rw [← ht] at HTK HTL HV2
  have htn : n = t.length := HTL.out.symm
  clear ht hxs
  subst htn
  have HTK2 := Lib.hid HTK
  clear HTK
  go_wp2_with (at_builtin; refine wpList_append_zero rfl _ _ rfl F w3.heap.size (fun _ => False) w3.heap.size pc m1 t rfl HRW.out (Nat.le_refl _) (fun h => h) rfl (HTK2.out.ext (HE.out.trans ((Ext.refl _).alloc _))) (fun _ h => h.elim) (by omega) (by simp) ?_)
  intro v w4 hO hE4
  obtain ⟨p8, c8, rfl, hk8, hi8⟩ := hO.ints
  have hE5 := HE.out.trans (((Ext.refl w3).alloc (.cells #[] 3)).trans hE4)
  clear s0 s1 s2 s3 hlt hO hE4
  go_wp2_with fail
  go_ret
  refine ⟨_, rfl, ?_, hE5⟩
  rw [HV2.out]
  exact ⟨p8, c8, rfl, hk8, hi8.mono fun _ _ _ => ⟨trivial, rfl⟩⟩
end Go.Proofs.Ytgeppialbkijiaa
