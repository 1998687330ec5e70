/-
  THE WALK of cell.pad. (Printed by gen_cpad.py.)
-/
import Derived.Test.YtmpjnjhiklaofaaCPut
import Derived.Test.YtmpjnjhiklaofaaCellP
import Derived.Test.YtmpjnjhiklaofaaFillC
import Derived.Test.YtmpjnjhiklaofaaChain2
namespace Go.Proofs.Ytmpjnjhiklaofaa
set_option linter.unusedSimpArgs false
set_option linter.unusedVariables false
open Go.RowKit

theorem fill_parts (k : Int) (s n : List Int) (it : List Arr) (hk : k = 1 ∨ k = 2 ∨ k = 3) : ∃ sa na ia, fillV (.mk k s n it) = .mk k sa na ia ∧ (k ≠ 3 → 0 < na.length ∧ na.getD 0 0 = padN k) ∧ (k = 3 → 0 < ia.length ∧ ia.getD 0 default = padI) := by
  rcases hk with rfl | rfl | rfl
  · exact ⟨[], [0], [], rfl, fun _ => ⟨by simp, rfl⟩, fun h => by omega⟩
  · exact ⟨[], [32], [], rfl, fun _ => ⟨by simp, rfl⟩, fun h => by omega⟩
  · exact ⟨[], [], [.mk 1 [0] [] []], rfl, fun h => by omega, fun _ => ⟨by simp, rfl⟩⟩
theorem OwnI.rebase {B B' : Nat} {X : Nat → Prop} {w : World} {v : Value} {n : Nat} {xs : List Int} (h : OwnI B (fun _ => False) w v n xs) (hB : B' ≤ B) (hX : ∀ b, X b → b < B) : OwnI B' X w v n xs := by
  obtain ⟨k1, k2, k3, k4, k5⟩ := h
  have hl := k3.lt
  exact ⟨k1, k2, ownsRow_base k3 hB, fun g hg hx => by have := (hl g hg).1; have := hX g hx; omega, k5⟩

set_option maxRecDepth 1000000 in
set_option maxHeartbeats 8000000 in
theorem cpad_any (F H : Nat → Prop) (kx : Int) (s nx : List Int) (ix : List Arr) (c0 c1 c2 c3 : Value) (t : List Int) (pt : Option Addr) (ct : Nat) (w : World) (hx : ArrAt F w (.mk kx s nx ix) c0 c1 c2 c3)
    (ht : IntsAt H w pt t) (hto : SlOk t.length ct) (hrx : rightV (.mk kx s nx ix) = 0) (htr : shapeRight t = true) (hsl : s.length ≤ t.length) (hfo : FrOk (leadV s t.length) t) :
    Calls Try.prog 81 #[.agg #[c0, c1, c2, c3], .slice pt t.length ct] w (GivesArr (padV (.mk kx s nx ix) t) w) := by
  have hx' := hx
  unfold ArrAt at hx'
  obtain ⟨rfl, hkx, ⟨p1, m1, rfl, ⟨o1, o1', o1''⟩, i1⟩, ⟨p2, m2, rfl, ⟨o2, o2', o2''⟩, i2⟩, ⟨p3, m3, rfl, ⟨o3, o3', o3''⟩, i3⟩⟩ := hx'
  obtain ⟨t1, t1', t1''⟩ := hto
  obtain ⟨hk3, h8, hrs, hn3, hi3⟩ := right_parts hrx
  obtain ⟨htg, ht8⟩ := shapeRight_go htr
  have HX := Lib.hid hx
  have HS := Lib.hid i1
  have HT := Lib.hid ht
  have HFO := Lib.hid hfo
  have HTR := Lib.hid htr
  have HRS := Lib.hid hrs
  have HTG := Lib.hid htg
  have HN3 := Lib.hid hn3
  have HI3 := Lib.hid hi3
  have HK := Lib.hid hk3
  clear hx i1 i2 i3 ht hfo htr hrs hn3 hi3 hrx htg hk3
  have HV : Hid (padV (.mk kx s nx ix) t = .mk kx t (if kx = 3 then [] else padL (fun i => nx.getD i 0) (padN kx) (leadV s t.length) t) (if kx = 3 then padL (fun i => ix.getD i default) padI (leadV s t.length) t else [])) := rfl
  generalize padV (.mk kx s nx ix) t = fv at *
  obtain ⟨d, hd⟩ : ∃ d, t.length - s.length = d := ⟨_, rfl⟩
  have hwd : IntKind.i64.wrap ((t.length : Int) - (s.length : Int)) = (d : Int) := by rw [show (t.length : Int) - (s.length : Int) = (d : Int) by omega]; exact IntWalk.i64_in _ (by omega)
  obtain ⟨fr, hfr⟩ : ∃ fr, leadV s t.length = fr := ⟨_, rfl⟩
  have hfr2 : List.replicate d 1 ++ s = fr := by rw [← hfr, leadV, hd]
  have hfl : fr.length = t.length := by rw [← hfr]; exact leadV_len hsl
  have hpf : prodA 1 fr = shapeSize s := by rw [← hfr2, lead_prod, size_prodA HRS.out h8]
  have hrf : rightGo 1 fr = true := by rw [← hfr2, lead_go]; exact HRS.out
  rw [hfr] at HV HFO
  have HFR := Lib.hid hfr2
  have HFL := Lib.hid hfl
  have HPF := Lib.hid hpf
  have HRF := Lib.hid hrf
  have hd8 : d ≤ 8 := by omega
  have hdl : (List.replicate d (1 : Int)).length = d := by simp
  clear hfr hfr2 hfl hpf hrf hd
  go_enter Try.func81, Try.ntmps81
  have hE0 : Ext w ((w.alloc (.cells #[.int .i64 kx, .slice p1 s.length m1, .slice p2 nx.length m2, .slice p3 ix.length m3] 26)).alloc (.cells #[.int .i64 0, .slice none 0 0, .slice none 0 0, .slice none 0 0] 26)) := ((Ext.refl _).alloc _).alloc _
  have hB := (box_new w (.int .i64 kx) (.slice p1 s.length m1) (.slice p2 nx.length m2) (.slice p3 ix.length m3)).ext ((Ext.refl _).alloc (.cells #[.int .i64 0, .slice none 0 0, .slice none 0 0, .slice none 0 0] 26))
  have hR := box_new (w.alloc (.cells #[.int .i64 kx, .slice p1 s.length m1, .slice p2 nx.length m2, .slice p3 ix.length m3] 26)) (.int .i64 0) (.slice none 0 0) (.slice none 0 0) (.slice none 0 0)
  rw [World.size_alloc] at hR
  have HE := Lib.hid hE0
  have HBx := Lib.hid hB
  have HBr := Lib.hid hR
  clear hE0 hB hR
  go_wp2_with fail
  generalize hw2 : (w.alloc (.cells #[.int .i64 kx, .slice p1 s.length m1, .slice p2 nx.length m2, .slice p3 ix.length m3] 26)).alloc (.cells #[.int .i64 0, .slice none 0 0, .slice none 0 0, .slice none 0 0] 26) = w2 at *
  clear hw2
  refine wp_region_z1 [MProp.rdi ([1]), MProp.is (.slice pt t.length ct), MProp.is (.int .i64 (t.length : Int)), MProp.is (.pointer (some ⟨w.heap.size, 1, none⟩)), MProp.is (.slice p1 s.length m1), MProp.is (.int .i64 (s.length : Int)), MProp.is (.int .i64 (d : Int)), MProp.chain w2.heap.size (List.replicate d (1 : Int)), MProp.is (.pointer (some ⟨w.heap.size, 1, none⟩)), MProp.rdi (s), MProp.chain w2.heap.size (fr)] [0, 1, 2, 3, 4, 5, 6, 8, 9] [7, 10] [14, 15, 16, 17, 18, 19, 20, 22, 23, 21, 24] 11 (by kernel_rfl) (by kernel_rfl) (by kernel_rfl) (by kernel_rfl) rfl ?_ ?_ ?_ ?_
  · exact mem_cons_m (zst_rdi _) (mem_cons_m (zst_is _) (mem_cons_m (zst_is _) (mem_cons_m (zst_is _) (mem_cons_m (zst_is _) (mem_cons_m (zst_is _) (mem_cons_m (zst_is _) (mem_cons_m (zst_is _) (mem_cons_m (zst_rdi _) (mem_nil_m)))))))))
  · refine mem_cons_m ?_ (mem_cons_m ?_ (mem_cons_m ?_ (mem_cons_m ?_ (mem_cons_m ?_ (mem_cons_m ?_ (mem_cons_m ?_ (mem_cons_m ?_ (mem_cons_m ?_ (mem_nil_m)))))))))
    · refine ⟨_, 14, rfl, by kernel_rfl, ?_⟩
      intro u w9 X hE hX hd K hK
      clear hd
      simp only [overlay, List.setIfInBounds_toArray, List.set] at hK ⊢
      go_wp2_with fail
      exact hK _ _ X ((Ext.refl _).alloc _) kept_m (hX.ext ((Ext.refl _).alloc _)) (rdix_lit w9 [1] (by decide) (by decide) hX.hi)
    · refine ⟨_, 15, rfl, by kernel_rfl, ?_⟩
      intro u w9 X hE hX hd K hK
      clear hd
      simp only [overlay, List.setIfInBounds_toArray, List.set] at hK ⊢
      go_wp2_with fail
      exact hK _ _ X (Ext.refl _) kept_m hX rfl
    · refine ⟨_, 16, rfl, by kernel_rfl, ?_⟩
      intro u w9 X hE hX hd K hK
      have d1 : u 15 = .slice pt t.length ct := hd 1 (by kernel_rfl)
      clear hd
      simp only [overlay, List.setIfInBounds_toArray, List.set, d1] at hK ⊢
      go_wp2_with fail
      exact hK _ _ X (Ext.refl _) kept_m hX rfl
    · refine ⟨_, 17, rfl, by kernel_rfl, ?_⟩
      intro u w9 X hE hX hd K hK
      clear hd
      simp only [overlay, List.setIfInBounds_toArray, List.set] at hK ⊢
      go_wp2_with fail
      exact hK _ _ X (Ext.refl _) kept_m hX rfl
    · refine ⟨_, 18, rfl, by kernel_rfl, ?_⟩
      intro u w9 X hE hX hd K hK
      have d3 : u 17 = .pointer (some ⟨w.heap.size, 1, none⟩) := hd 3 (by kernel_rfl)
      clear hd
      simp only [overlay, List.setIfInBounds_toArray, List.set, d3] at hK ⊢
      have e9 : Ext w2 w9 := (Ext.refl w2).drew.trans hE
      obtain ⟨s0, s1, s2, s3⟩ := (HBx.out.ext e9).cell
      go_wp2_with fail
      exact hK _ _ X (Ext.refl _) kept_m hX rfl
    · refine ⟨_, 19, rfl, by kernel_rfl, ?_⟩
      intro u w9 X hE hX hd K hK
      have d4 : u 18 = .slice p1 s.length m1 := hd 4 (by kernel_rfl)
      clear hd
      simp only [overlay, List.setIfInBounds_toArray, List.set, d4] at hK ⊢
      go_wp2_with fail
      exact hK _ _ X (Ext.refl _) kept_m hX rfl
    · refine ⟨_, 20, rfl, by kernel_rfl, ?_⟩
      intro u w9 X hE hX hd K hK
      have d2 : u 16 = .int .i64 (t.length : Int) := hd 2 (by kernel_rfl)
      have d5 : u 19 = .int .i64 (s.length : Int) := hd 5 (by kernel_rfl)
      clear hd
      simp only [overlay, List.setIfInBounds_toArray, List.set, d2, d5] at hK ⊢
      go_wp2_with fail
      exact hK _ _ X (Ext.refl _) kept_m hX rfl
    · refine ⟨_, 22, rfl, by kernel_rfl, ?_⟩
      intro u w9 X hE hX hd K hK
      clear hd
      simp only [overlay, List.setIfInBounds_toArray, List.set] at hK ⊢
      go_wp2_with fail
      exact hK _ _ X (Ext.refl _) kept_m hX rfl
    · refine ⟨_, 23, rfl, by kernel_rfl, ?_⟩
      intro u w9 X hE hX hd K hK
      have d8 : u 22 = .pointer (some ⟨w.heap.size, 1, none⟩) := hd 8 (by kernel_rfl)
      clear hd
      simp only [overlay, List.setIfInBounds_toArray, List.set, d8] at hK ⊢
      have e9 : Ext w2 w9 := (Ext.refl w2).drew.trans hE
      obtain ⟨s0, s1, s2, s3⟩ := (HBx.out.ext e9).cell
      go_wp2_with fail
      exact hK _ _ X (Ext.refl _) kept_m hX (RdIX.old (HS.out.ext HE.out) ⟨o1, o1', o1''⟩ e9 hX.lo)
  · refine mem_cons_m ?_ (mem_cons_m ?_ (mem_nil_m))
    · refine ⟨_, 21, rfl, by kernel_rfl, ?_⟩
      intro u w9 X hE hX hd K hK
      have d0 : RdIX X w9 ([1]) (u 14) := hd 0 (by kernel_rfl)
      have d6 : u 20 = .int .i64 (d : Int) := hd 6 (by kernel_rfl)
      clear hd
      simp only [overlay, List.setIfInBounds_toArray, List.set, d6] at hK ⊢
      obtain ⟨p0, c0, hv0, hk0, hi0⟩ := d0
      simp only [hv0] at hK ⊢
      have e9 : Ext w2 w9 := (Ext.refl w2).drew.trans hE
      go_wp2_with fail
      refine (repeat_one _ p0 c0 1 d w9 hi0 (by omega)).mono ?_
      rintro e w8 ⟨g8, rfl, hg8, hr8, hE8⟩
      have hl8 := hr8.lt
      have hlt' : w2.heap.size ≤ w9.heap.size := hE.lt
      go_wp2_with fail
      refine hK _ _ (fun b => X b ∨ b = g8) (hE.trans hE8) (Chg.of_ext hE8) ⟨fun b hb => .inl hb, fun b hb => hb.imp id (fun e => by omega)⟩ (fun b hb => ?_) ⟨_, _, by rw [hdl], .inr ⟨by rw [hdl]; exact OwnI.of_row hr8 hdl (by omega) (Nat.le_trans hlt' hg8) (fun h => h) (fun x hx => by rw [List.eq_of_mem_replicate hx]; omega), g8, rfl, .inr rfl⟩⟩
      rcases hb with hb | rfl
      · have := hX b hb; have := hE8.lt; omega
      · exact ⟨Nat.le_trans hlt' hg8, hl8⟩
    · refine ⟨_, 24, rfl, by kernel_rfl, ?_⟩
      intro u w9 X hE hX hd K hK
      have d7 : ∃ p c, u 21 = .slice p (List.replicate d (1 : Int)).length c ∧ ChainRow w2.heap.size X w9 (.slice p (List.replicate d (1 : Int)).length c) (List.replicate d (1 : Int)).length (List.replicate d (1 : Int)) := hd 7 (by kernel_rfl)
      have d9 : RdIX X w9 (s) (u 23) := hd 9 (by kernel_rfl)
      clear hd
      simp only [overlay, List.setIfInBounds_toArray, List.set] at hK ⊢
      obtain ⟨p0, c0, hv0, hc0⟩ := d7
      obtain ⟨p3', c3', hv3, hk3', hi3'⟩ := d9
      simp only [hv0, hv3] at hK ⊢
      refine wpList_chain rfl _ _ rfl w2.drew X _ (List.replicate d (1 : Int)).length (List.replicate d (1 : Int)) p3' c3' s rfl hc0 rfl hi3' hE hX (by rw [hdl]; omega) ?_
      intro v' w' X' f0 f1 f2 f3 f4
      rw [← List.length_append, HFR.out] at f4
      obtain ⟨pv, cv, rfl, _⟩ := f4.own.1.form
      exact hK _ _ X' f0 f1 f2 f3 ⟨pv, cv, rfl, f4⟩
  intro u w9 X hE hX hd hdc
  have d0 : RdIX X w9 ([1]) (u 14) := hd 0 (by decide)
  have d1 : u 15 = .slice pt t.length ct := hd 1 (by decide)
  have d2 : u 16 = .int .i64 (t.length : Int) := hd 2 (by decide)
  have d3 : u 17 = .pointer (some ⟨w.heap.size, 1, none⟩) := hd 3 (by decide)
  have d4 : u 18 = .slice p1 s.length m1 := hd 4 (by decide)
  have d5 : u 19 = .int .i64 (s.length : Int) := hd 5 (by decide)
  have d6 : u 20 = .int .i64 (d : Int) := hd 6 (by decide)
  have d8 : u 22 = .pointer (some ⟨w.heap.size, 1, none⟩) := hd 8 (by decide)
  have d9 : RdIX X w9 (s) (u 23) := hd 9 (by decide)
  have d10 : ∃ p c, u 24 = .slice p (fr).length c ∧ ChainRow w2.heap.size X w9 (.slice p (fr).length c) (fr).length (fr) := hdc 1 rfl
  clear hd hdc
  simp only [overlay, List.setIfInBounds_toArray, List.set, d1, d2, d3, d4, d5, d6, d8]
  obtain ⟨pf, cf, hvf, hcf⟩ := d10
  obtain ⟨hof, gf, hgf, hxf⟩ := ChainRow.own hcf |>.1 |> fun h => (⟨h, (ChainRow.own hcf).2.choose, (ChainRow.own hcf).2.choose_spec, trivial⟩ : OwnI w2.heap.size (fun _ => False) w9 (.slice pf fr.length cf) fr.length fr ∧ ∃ g, (Value.slice pf fr.length cf).ownBlock = some g ∧ True)
  simp only [hvf]
  have e9 : Ext w2 w9 := (Ext.refl w2).drew.trans hE
  obtain ⟨pf', cf', hv9, hkf, hif⟩ := hof.ints
  simp only [Value.slice.injEq] at hv9
  obtain ⟨rfl, _, rfl⟩ := hv9
  have HIF := Lib.hid (hif.mono (G := fun _ => True) (fun _ _ _ => ⟨trivial, rfl⟩))
  clear d0 d1 d2 d3 d4 d5 d6 d8 d9 hcf hof hif hgf hxf hX hvf
  generalize u 14 = z14 at *
  generalize u 21 = z21 at *
  generalize u 23 = z23 at *
  clear u hdl hwd hd8
  have hEn := HE.out.trans e9
  have HBx2 := Lib.hid (HBx.out.ext e9)
  have HBr2 := Lib.hid (HBr.out.ext e9)
  clear HBx HBr HE e9 hE
  go_wp2_with fail
  refine OnlyN.mk ?_
  obtain ⟨s0, s1, s2, s3⟩ := HBx2.out.cell
  have HE := Lib.hid hEn
  clear hEn
  go_wp2_with fail
  refine (fill_any F (.mk kx s nx ix) _ _ _ _ w9 (HX.out.ext HE.out)).mono ?_
  rintro e w3 ⟨e0, e1, e2, e3, rfl, hF, hE3⟩
  obtain ⟨fk, f1, fl1, fc1, f2, fl2, fc2, f3, fl3, fc3, rfl, rfl, rfl, rfl⟩ := hF.form
  clear s0 s1 s2 s3
  have hEn : Ext w9 (w3.alloc (.cells #[.int .i64 fk, .slice f1 fl1 fc1, .slice f2 fl2 fc2, .slice f3 fl3 fc3] 26)) := hE3.alloc _
  have HBf := Lib.hid (box_new w3 (.int .i64 fk) (.slice f1 fl1 fc1) (.slice f2 fl2 fc2) (.slice f3 fl3 fc3))
  have HAf := Lib.hid (hF.ext ((Ext.refl _).alloc (.cells #[.int .i64 fk, .slice f1 fl1 fc1, .slice f2 fl2 fc2, .slice f3 fl3 fc3] 26)))
  have HE2 := Lib.hid (HE.out.trans hEn)
  have HBx := Lib.hid (HBx2.out.ext hEn)
  have HBr := Lib.hid (HBr2.out.ext hEn)
  have HIF2 := Lib.hid (HIF.out.ext hEn)
  clear HE hE3 hF hEn HBx2 HBr2 HIF
  go_wp2_with fail
  generalize hbf : w3.heap.size = bf at *
  generalize w3.alloc (.cells #[.int .i64 fk, .slice f1 fl1 fc1, .slice f2 fl2 fc2, .slice f3 fl3 fc3] 26) = w4 at *
  clear hbf
  refine wp_region_x1 [MProp.is (.pointer (some ⟨w.heap.size, 0, none⟩)), MProp.is (.int .i64 kx), MProp.is (.slice pt t.length ct), MProp.own w4.heap.size t, MProp.ownAgg w4.heap.size kx t, MProp.box] [0, 1, 2, 3, 4, 5] [] [27, 28, 29, 30, 31, 7] 6 (by kernel_rfl) (by kernel_rfl) (by kernel_rfl) rfl ?_ ?_ ?_
  · refine mem_cons_m ?_ (mem_cons_m ?_ (mem_cons_m ?_ (mem_cons_m ?_ (mem_cons_m ?_ (mem_cons_m ?_ (mem_nil_m))))))
    · refine ⟨_, 27, rfl, by kernel_rfl, ?_⟩
      intro u w9 X hE hX hd K hK
      clear hd
      simp only [overlay, List.setIfInBounds_toArray, List.set] at hK ⊢
      go_wp2_with fail
      exact hK _ _ X (Ext.refl _) kept_m hX rfl
    · refine ⟨_, 28, rfl, by kernel_rfl, ?_⟩
      intro u w9 X hE hX hd K hK
      have d0 : u 27 = .pointer (some ⟨w.heap.size, 0, none⟩) := hd 0 (by kernel_rfl)
      clear hd
      simp only [overlay, List.setIfInBounds_toArray, List.set, d0] at hK ⊢
      have e9 : Ext w4 w9 := (Ext.refl w4).drew.trans hE
      obtain ⟨s0, s1, s2, s3⟩ := (HBx.out.ext e9).cell
      go_wp2_with fail
      exact hK _ _ X (Ext.refl _) kept_m hX rfl
    · refine ⟨_, 29, rfl, by kernel_rfl, ?_⟩
      intro u w9 X hE hX hd K hK
      clear hd
      simp only [overlay, List.setIfInBounds_toArray, List.set] at hK ⊢
      go_wp2_with fail
      exact hK _ _ X (Ext.refl _) kept_m hX rfl
    · refine ⟨_, 30, rfl, by kernel_rfl, ?_⟩
      intro u w9 X hE hX hd K hK
      have d2 : u 29 = .slice pt t.length ct := hd 2 (by kernel_rfl)
      clear hd
      simp only [overlay, List.setIfInBounds_toArray, List.set, d2] at hK ⊢
      have e9 : Ext w4 w9 := (Ext.refl w4).drew.trans hE
      have hlt' : w4.heap.size ≤ w9.heap.size := hE.lt
      have hcl := clone_ints H pt ct t w9 (HT.out.ext (HE2.out.trans e9)) (by unfold lenMax; omega)
      go_wp2_with fail
      refine hcl.mono ?_
      rintro e w8 ⟨v8, rfl, hO8, hE8⟩
      obtain ⟨p8, c8, rfl, hk8, hi8⟩ := hO8.ints
      go_wp2_with fail
      exact hK _ _ X hE8 kept_m (hX.ext hE8) ⟨p8, c8, rfl, hO8.rebase hlt' hX.hi⟩
    · refine ⟨_, 31, rfl, by kernel_rfl, ?_⟩
      intro u w9 X hE hX hd K hK
      have d1 : u 28 = .int .i64 kx := hd 1 (by kernel_rfl)
      have d3 : ∃ p c, u 30 = .slice p t.length c ∧ OwnI w4.heap.size X w9 (.slice p t.length c) t.length t := hd 3 (by kernel_rfl)
      clear hd
      simp only [overlay, List.setIfInBounds_toArray, List.set, d1] at hK ⊢
      obtain ⟨pv, cv, hv3, hO3⟩ := d3
      simp only [hv3] at hK ⊢
      go_wp2_with fail
      exact hK _ _ X (Ext.refl _) kept_m hX ⟨pv, cv, rfl, hO3⟩
    · refine ⟨_, 7, rfl, by kernel_rfl, ?_⟩
      intro u w9 X hE hX hd K hK
      clear hd
      simp only [overlay, List.setIfInBounds_toArray, List.set] at hK ⊢
      go_wp2_with fail
      exact hK _ _ (fun b => X b ∨ b = w9.heap.size) ((Ext.refl _).alloc _) added_m (hX.add hE _) ⟨_, rfl, box_new _ _ _ _ _, .inr rfl⟩
  · exact mem_nil_m
  intro u w9 X hE hX hd
  have d0 : u 27 = .pointer (some ⟨w.heap.size, 0, none⟩) := hd 0 (by decide)
  have d1 : u 28 = .int .i64 kx := hd 1 (by decide)
  have d2 : u 29 = .slice pt t.length ct := hd 2 (by decide)
  have d3 : ∃ p c, u 30 = .slice p t.length c ∧ OwnI w4.heap.size X w9 (.slice p t.length c) t.length t := hd 3 (by decide)
  have d4 : ∃ p c, u 31 = .agg #[.int .i64 kx, .slice p t.length c, .slice none 0 0, .slice none 0 0] ∧ OwnI w4.heap.size X w9 (.slice p t.length c) t.length t := hd 4 (by decide)
  have d5 : ∃ b, u 7 = .pointer (some ⟨b, 0, none⟩) ∧ Box4 w9 b (.int .i64 0) (.slice none 0 0) (.slice none 0 0) (.slice none 0 0) ∧ X b := hd 5 (by decide)
  clear hd
  simp only [overlay, List.setIfInBounds_toArray, List.set, d0, d1, d2]
  obtain ⟨bo, hvb, hbox, hxb⟩ := d5
  obtain ⟨ps, cs, hva, hOs⟩ := d4
  have hbo := hX bo hxb
  simp only [hvb, hva]
  obtain ⟨q0, q1, q2, q3⟩ := hbox.cell
  have f0 := hbox.free 0
  have f1 := hbox.free 1
  have f2 := hbox.free 2
  have f3 := hbox.free 3
  have e9 := (Ext.refl w4).drew.trans hE
  obtain ⟨gg1, gg2, gg3⟩ := hbox.put4 e9 hbo.1 (.int .i64 kx) (.slice ps t.length cs) (.slice none 0 0) (.slice none 0 0)
  have hOs2 := hOs.same (Y := fun x => x = bo) (w' := (((w9.setCell ⟨bo, 0, none⟩ (.int .i64 kx)).setCell ⟨bo, 1, none⟩ (.slice ps t.length cs)).setCell ⟨bo, 2, none⟩ (.slice none 0 0)).setCell ⟨bo, 3, none⟩ (.slice none 0 0)) (fun q _ _ hne => ⟨gg3 q (fun e => hne (by rw [e]; exact hxb)), fun e => hne (by rw [e]; exact hxb)⟩)
  have HGG := Lib.hid (And.intro gg1 (And.intro gg2 hOs2))
  have HBL := Lib.hid (show w4.heap.size ≤ bo from hbo.1)
  clear d0 d1 d2 d3 gg1 gg2 gg3 hOs2 hOs hbox hbo e9 hX hE
  generalize u 30 = z30 at *
  generalize u 31 = z31 at *
  clear hvb hva
  clear u
  go_wp2_with fail
  refine OnlyN.mk ?_
  obtain ⟨gg1, gg2, hOs⟩ := HGG.out
  clear HGG q0 q1 q2 q3 f0 f1 f2 f3
  generalize (((w9.setCell ⟨bo, 0, none⟩ (.int .i64 kx)).setCell ⟨bo, 1, none⟩ (.slice ps t.length cs)).setCell ⟨bo, 2, none⟩ (.slice none 0 0)).setCell ⟨bo, 3, none⟩ (.slice none 0 0) = w6 at *
  have hmk := run_make_ints t.length (by omega)
  go_wp2_with fail
  have hRI := RowI.made (w := w6) t.length
  have hEi : Ext w6 (w6.alloc (.cells (madeCells #[.int .i64 0] t.length) 3)) := (Ext.refl _).alloc _
  have hbl : bo < w6.heap.size := gg2.lt
  have hM0 : MkB w4 (w6.alloc (.cells (madeCells #[.int .i64 0] t.length) 3)) (fun x => x < w6.heap.size + 1 ∧ w4.heap.size ≤ x) bo kx (.slice ps t.length cs) (.slice none 0 0) (.slice none 0 0) [] [] := MkB.fresh (gg1.trans hEi) HBL.out (gg2.ext hEi) ⟨Nat.lt_succ_of_lt hbl, HBL.out⟩ (fun x hx => by rw [World.size_alloc]; exact hx.1)
  have HM0 := Lib.hid hM0
  have HRI := Lib.hid hRI
  obtain ⟨ps', cs', hvz, hkz, hiz⟩ := hOs.ints
  simp only [Value.slice.injEq] at hvz
  obtain ⟨rfl, _, rfl⟩ := hvz
  have HOS := Lib.hid ((hiz.mono (G := fun b => (w4.heap.size ≤ b ∧ b ≠ bo) ∧ b < w6.heap.size) (w' := w6) (fun b hb hlt => ⟨⟨hb, hlt⟩, rfl⟩)).ext hEi)
  have HKZ := Lib.hid hkz
  clear hiz hkz
  have HBLT := Lib.hid hbl
  have HW64 := Lib.hid gg1.lt
  clear hM0 hRI hOs hEi hbl gg1 gg2 hmk
  generalize hgi : w6.heap.size = gi at *
  generalize w6.alloc (.cells (madeCells #[.int .i64 0] t.length) 3) = w5 at *
  clear hgi
  refine (size_any _ pt ct t w5 (HT.out.ext (HE2.out.trans HM0.out.ext)) (by unfold lenMax; omega)).mono ?_
  rintro e w5' ⟨rfl, rfl⟩
  obtain ⟨cn, hcn⟩ : ∃ cn : Nat, shapeSize t = cn := ⟨(shapeSize t).toNat, by rw [size_prodA HTG.out ht8]; have := prodA_nonneg t 1 (by omega) HTG.out; omega⟩
  rw [hcn]
  have hc6 : cn ≤ 65536 := by have := shapeSize_hi t; omega
  have HCN := Lib.hid hcn
  clear hcn
  generalize hrn : (if kx = 3 then [] else padL (fun i => nx.getD i 0) (padN kx) fr t) = rn at *
  generalize hri : (if kx = 3 then padL (fun i => ix.getD i default) padI fr t else []) = ri at *
  have HRN := Lib.hid hrn
  have HRI3 := Lib.hid hri
  clear hrn hri
  have HFP := Lib.hid (fill_parts kx s nx ix HK.out)
  go_wp2_with fail
  go_loopw [37] (fun iv wr => ∃ (q : Nat) (t' : List Int) (n' : List Int) (l' : List Arr) (v2 v3 : Value), iv = .int .i64 (q : Int) ∧ q ≤ cn ∧ n'.length ≤ q ∧ l'.length ≤ q ∧ RowI wr gi t' ∧ MkB w4 wr (fun x => x < gi + 1 ∧ w4.heap.size ≤ x) bo kx (.slice ps t.length cs) v2 v3 n' l' ∧ (∀ r, w4.heap.size ≤ r → r < gi → r ≠ bo → wr.heap[r]? = w5.heap[r]?) ∧ Hid (q < cn → Within t t') ∧ Hid (n' ++ (if kx = 3 then [] else movedGo (padEl (fun i => nx.getD i 0) (padN kx) fr) t (cn - q) t') = rn) ∧ Hid (l' ++ (if kx = 3 then movedGo (padEl (fun i => ix.getD i default) padI fr) t (cn - q) t' else []) = ri)) (fun iv _ => cn - (intOf iv).toNat)
  case atStart => 
    refine ⟨0, _, [], [], _, _, rfl, Nat.zero_le _, Nat.le_refl _, Nat.le_refl _, HRI.out, HM0.out, fun _ _ _ _ => rfl, fun h => within_zero t (shapeSize_pos (by rw [HCN.out]; omega)), ?_, ?_⟩
    · show _ = _
      rw [← HRN.out, List.nil_append, Nat.sub_zero, padL, HCN.out, Int.toNat_natCast]
    · show _ = _
      rw [← HRI3.out, List.nil_append, Nat.sub_zero, padL, HCN.out, Int.toNat_natCast]
  case round =>
    obtain ⟨q, t', n', l', v2, v3, rfl, hq, hn1, hl1, hRow, hM, hkp, hW, HGN, HGI⟩ := hrel
    clear HM0 HRI
    have HKP := Lib.hid hkp
    clear hkp
    by_cases hqc : q < cn
    rotate_left
    · have hqe : q = cn := by omega
      subst hqe
      have hgn := HGN.out
      have hgi2 := HGI.out
      rw [Nat.sub_self, movedGo] at hgn hgi2
      have hn : n' = rn := by rw [← hgn]; split <;> simp
      have hl : l' = ri := by rw [← hgi2]; split <;> simp
      subst hn hl
      clear hgn hgi2 HGN HGI hW HRN HRI3
      obtain ⟨pa, ca, hv2, _, _⟩ := hM.on.ints
      subst hv2
      obtain ⟨pb, cb, hv3, _, _⟩ := hM.oi.items (by omega)
      subst hv3
      have hA := MkB.arr (G := fun b => w4.heap.size ≤ b ∧ b ≠ bo) hM hkx ⟨ps, cs, rfl, HKZ.out, HOS.out.mono fun b hb hlt => ⟨hb.1, HKP.out b hb.1.1 hb.2 hb.1.2⟩⟩ (by omega)
      have hEz := HE2.out.trans hM.ext
      have hbz := HBr.out.ext hM.ext
      have hlz := HBr.out.lt
      have hle4 := HE2.out.lt
      obtain ⟨s0, s1, s2, s3⟩ := hM.box.cell
      obtain ⟨x0, x1, x2, x3⟩ := hbz.cell
      have y0 := hbz.free 0
      have y1 := hbz.free 1
      have y2 := hbz.free 2
      have y3 := hbz.free 3
      obtain ⟨gg3, gg4, gg5⟩ := hbz.put4 hEz (by omega) (.int .i64 kx) (.slice ps t.length cs) (.slice pa n'.length ca) (.slice pb l'.length cb)
      have hA9 := ArrAt.mono (G := fun b => w.heap.size ≤ b) (w' := ((((wr.setCell ⟨w.heap.size + 1, 0, none⟩ (.int .i64 kx)).setCell ⟨w.heap.size + 1, 1, none⟩ (.slice ps t.length cs)).setCell ⟨w.heap.size + 1, 2, none⟩ (.slice pa n'.length ca)).setCell ⟨w.heap.size + 1, 3, none⟩ (.slice pb l'.length cb))) (fun b hb _ => ⟨by rcases hb with hb | hb <;> omega, gg5 b (by rcases hb with hb | hb <;> omega)⟩) _ _ _ _ _ hA
      have HG := Lib.hid (And.intro gg3 (And.intro gg4 hA9))
      clear gg3 gg4 gg5 hA hA9 hM hbz hEz
      go_wp2_with fail
      obtain ⟨gg3, gg4, hA9⟩ := HG.out
      clear HG
      revert gg3 gg4 hA9
      generalize ((((wr.setCell ⟨w.heap.size + 1, 0, none⟩ (.int .i64 kx)).setCell ⟨w.heap.size + 1, 1, none⟩ (.slice ps t.length cs)).setCell ⟨w.heap.size + 1, 2, none⟩ (.slice pa n'.length ca)).setCell ⟨w.heap.size + 1, 3, none⟩ (.slice pb l'.length cb)) = w9
      intro gg3 gg4 hA9
      obtain ⟨z0, z1, z2, z3⟩ := gg4.cell
      refine bodyPost_ret (v := .agg #[(.int .i64 kx), (.slice ps t.length cs), (.slice pa n'.length ca), (.slice pb l'.length cb)]) ?_ rfl ⟨_, _, _, _, rfl, by rw [HV.out]; exact hA9, gg3⟩
      simp [results, Try.results81, go_sem, z0, z1, z2, z3]
    · have HW := Lib.hid (hW.out hqc)
      clear hW
      have hWl := HW.out.1
      generalize hA : atIn fr t' 0 = A at *
      generalize hI : inGo fr t' = I at *
      have HA := Lib.hid hA
      have HI := Lib.hid hI
      clear hA hI
      obtain ⟨wo, rfl⟩ : ∃ wx : World, wx = wr := ⟨_, rfl⟩
      go_wp2_with fail
      go_loopw [9, 10, 41] (fun av bv iv wq => ∃ (i : Nat) (acc p : Int) (b : Bool), i ≤ t.length ∧ av = .int .i64 acc ∧ bv = .bool b ∧ iv = .int .i64 (i : Int) ∧ 0 ≤ acc ∧ acc < p ∧ p ≤ 65536 ∧ Ext wo wq ∧ Hid (rightGo p (t.drop i) = true) ∧ Hid (atIn (fr.drop i) (t'.drop i) acc = A) ∧ Hid ((b && inGo (fr.drop i) (t'.drop i)) = I)) (fun _ _ iv _ => t.length - (intOf iv).toNat)
      case atStart => exact ⟨0, 0, 1, true, Nat.zero_le _, rfl, rfl, rfl, by omega, by omega, by omega, Ext.refl _, HTG.out, HA.out, by rw [Bool.true_and]; exact HI.out⟩
      case round =>
        obtain ⟨i, acc, p, b, hit, rfl, rfl, rfl, hacc0, hacc1, hp, hEq, HRq, HAq, HIq⟩ := hrel
        by_cases hlt : i < t.length
        · have hfl := HFL.out
          have hrow := (hRow.ext hEq).cell (j := i) (by rw [hWl]; exact hlt)
          obtain ⟨bf2, of2, rfl, hfc, _, _⟩ := (HIF2.out.ext (hM.ext.trans hEq)).get (i := i) (by rw [hfl]; exact hlt)
          have hwt := HW.out.2 i hlt
          have hfo := HFO.out.2 i hlt
          have hA1 := HAq.out
          have hI1 := HIq.out
          have hR1 := HRq.out
          rw [atIn_step (by omega) (by omega)] at hA1
          rw [inGo_step (by omega) (by omega)] at hI1
          rw [drop_getD hlt] at hR1
          generalize t'.getD i 0 = x at *
          generalize fr.getD i 0 = f at *
          generalize t.getD i 0 = dd at *
          obtain ⟨x0, x1⟩ := hwt
          obtain ⟨g0, g1⟩ := hfo
          obtain ⟨y0, y1, y2, y3⟩ := rightGo_cons hR1 (by omega)
          have e1 : acc * f ≤ (p - 1) * dd := Int.mul_le_mul (by omega) g1 g0 (by omega)
          have e2 : 0 ≤ acc * f := Int.mul_nonneg hacc0 g0
          rw [Int.sub_mul, Int.one_mul] at e1
          have HA1 := Lib.hid hA1
          have HR1 := Lib.hid y3
          have hfi : i < fr.length := by rw [hfl]; exact hlt
          clear hA1 hR1 y3 HRq HAq HIq hfl
          cases b with
          | true =>
            by_cases hxf : x < f
            · have HI1 : Hid ((true && inGo (fr.drop (i + 1)) (t'.drop (i + 1))) = I) := Lib.hid (by rw [← hI1]; simp [hxf])
              clear hI1
              go_wp2_with fail
              go_roundw
              case rel => exact ⟨i + 1, acc * f + x, p * dd, true, by omega, by go_num, rfl, by go_num, by omega, by omega, y2, hEq, HR1.out, HA1.out, HI1.out⟩
              case measure => simp [intOf]; omega
            · have HI1 : Hid ((false && inGo (fr.drop (i + 1)) (t'.drop (i + 1))) = I) := Lib.hid (by rw [← hI1]; simp [hxf])
              clear hI1
              go_wp2_with fail
              go_roundw
              case rel => exact ⟨i + 1, acc * f + x, p * dd, false, by omega, by go_num, rfl, by go_num, by omega, by omega, y2, hEq, HR1.out, HA1.out, HI1.out⟩
              case measure => simp [intOf]; omega
          | false =>
            have HI1 : Hid ((false && inGo (fr.drop (i + 1)) (t'.drop (i + 1))) = I) := Lib.hid (by rw [← hI1]; simp)
            clear hI1
            go_wp2_with fail
            go_roundw
            case rel => exact ⟨i + 1, acc * f + x, p * dd, false, by omega, by go_num, rfl, by go_num, by omega, by omega, y2, hEq, HR1.out, HA1.out, HI1.out⟩
            case measure => simp [intOf]; omega
        · have hie : i = t.length := by omega
          subst hie
          have hAe : acc = A := by
            have := HAq.out
            rwa [atIn_end (by omega)] at this
          have hIe : b = I := by
            have := HIq.out
            rwa [inGo_end (by omega), Bool.and_true] at this
          subst hAe hIe
          clear HRq HAq HIq hit hlt
          have hM2 := hM.next hEq
          have hRow2 := hRow.ext hEq
          have hkp2 : (∀ r, w4.heap.size ≤ r → r < gi → r ≠ bo → wr.heap[r]? = w5.heap[r]?) := fun r a1 a2 a3 => (hEq.block (hM.xl r ⟨by omega, a1⟩)).trans (HKP.out r a1 a2 a3)
          have HKP2 := Lib.hid hkp2
          clear hM hRow hkp2 HKP
          go_upto_if 64 with fail
          obtain ⟨wi, rfl⟩ : ∃ wx : World, wx = wr := ⟨_, rfl⟩
          have HRW2 := Lib.hid hRow2
          have HM2 := Lib.hid hM2
          clear hRow2 hM2
          go_cut [9] (fun s9 wq => ∃ (n2 : List Int) (l2 : List Arr) (v4 v5 : Value), n2.length ≤ q + 1 ∧ l2.length ≤ q + 1 ∧ RowI wq gi t' ∧ MkB w4 wq (fun x => x < gi + 1 ∧ w4.heap.size ≤ x) bo kx (.slice ps t.length cs) v4 v5 n2 l2 ∧ (∀ r, w4.heap.size ≤ r → r < gi → r ≠ bo → wq.heap[r]? = w5.heap[r]?) ∧ Hid (n2 ++ (if kx = 3 then [] else movedGo (padEl (fun i => nx.getD i 0) (padN kx) fr) t (cn - (q + 1)) (bump t t.length t')) = rn) ∧ Hid (l2 ++ (if kx = 3 then movedGo (padEl (fun i => ix.getD i default) padI fr) t (cn - (q + 1)) (bump t t.length t') else []) = ri))
          case first =>
            have hgn := HGN.out
            have hgi2 := HGI.out
            rw [show cn - q = (cn - (q + 1)) + 1 by omega, movedGo, hWl] at hgn
            rw [show cn - q = (cn - (q + 1)) + 1 by omega, movedGo, hWl] at hgi2
            have hpn : padEl (fun i => nx.getD i 0) (padN kx) fr t' = if b = true then nx.getD acc.toNat 0 else padN kx := by rw [padEl, HI.out, HA.out]
            have hpi : padEl (fun i => ix.getD i default) padI fr t' = if b = true then ix.getD acc.toNat default else padI := by rw [padEl, HI.out, HA.out]
            rw [hpn] at hgn
            rw [hpi] at hgi2
            have HGN2 := Lib.hid hgn
            have HGI2 := Lib.hid hgi2
            clear hgn hgi2 hpn hpi HGN HGI
            have hgiX : gi < gi + 1 ∧ w4.heap.size ≤ gi := ⟨by omega, HW64.out⟩
            have hgib : gi ≠ bo := by have := HBLT.out; omega
            cases b with
            | true =>
              have hAB := padAt_lt HRF.out (by rw [HFL.out, hWl]) (within_mem HW.out) HI.out
              rw [HA.out, HPF.out] at hAB
              obtain ⟨a, rfl⟩ := Int.eq_ofNat_of_zero_le hAB.1
              have hB2 := hAB.2
              rw [Int.toNat_natCast, if_pos rfl] at HGN2 HGI2
              obtain ⟨s0, s1, s2, s3⟩ := (HBx.out.ext HM2.out.ext).cell
              have hput := fun (w9 : World) (e9 : Ext wi w9) => cput_any w4 w9 (fun x => x < gi + 1 ∧ w4.heap.size ≤ x) bo kx (.slice ps t.length cs) v2 v3 n' l' (HM2.out.next e9) kx s nx ix _ _ _ _ (ArrAt.mono (G := fun x => x < w4.heap.size) (fun x hx _ => ⟨hx.2, (HM2.out.ext.trans e9).block hx.2⟩) _ _ _ _ _ (ArrAt.mono (G := fun x => F x ∧ x < w4.heap.size) (w' := w4) (fun x hx hlt => ⟨⟨hx, Nat.lt_of_lt_of_le hlt HE2.out.lt⟩, HE2.out.block hlt⟩) _ _ _ _ _ HX.out)) a (fun h => by have := (HN3.out h).2; omega) (fun h => by have := (HI3.out h).2; omega) (by omega) (by omega)
              have HPUT := Lib.hid hput
              clear hput hAB hB2
              go_wp2_with fail
              refine (HPUT.out wi (Ext.refl _)).mono ?_
              rintro e w8 ⟨rfl, v4, v5, hM8, hfar⟩
              clear s0 s1 s2 s3 HPUT
              have hrw8 := HRW2.out.kept (hfar gi hgiX hgib)
              have hkp8 : (∀ r, w4.heap.size ≤ r → r < gi → r ≠ bo → w8.heap[r]? = w5.heap[r]?) := fun r a1 a2 a3 => (hfar r ⟨by omega, a1⟩ a3).trans (HKP2.out r a1 a2 a3)
              go_wp2_with fail
              go_meet
              case rel =>
                refine ⟨_, _, v4, v5, ?_, ?_, hrw8, hM8, hkp8, ?_, ?_⟩
                · split <;> (first | omega | (simp only [List.length_append, List.length_cons, List.length_nil]; omega))
                · split <;> (first | omega | (simp only [List.length_append, List.length_cons, List.length_nil]; omega))
                · show _ = _
                  rw [← HGN2.out]
                  by_cases h3 : kx = 3
                  · rw [if_pos h3, if_pos h3, if_pos h3]
                  · rw [if_neg h3, if_neg h3, if_neg h3, List.append_assoc]; rfl
                · show _ = _
                  rw [← HGI2.out]
                  by_cases h3 : kx = 3
                  · rw [if_pos h3, if_pos h3, if_pos h3, List.append_assoc]; rfl
                  · rw [if_neg h3, if_neg h3, if_neg h3]
            | false =>
              rw [if_neg Bool.false_ne_true] at HGN2 HGI2
              obtain ⟨sa, na, ia, hfe, hfn, hfi⟩ := HFP.out
              obtain ⟨s0, s1, s2, s3⟩ := (HBf.out.ext HM2.out.ext).cell
              have haf := HAf.out
              rw [hfe] at haf
              have hlf := HBf.out.lt
              have hput := fun (w9 : World) (e9 : Ext wi w9) => cput_any w4 w9 (fun x => x < gi + 1 ∧ w4.heap.size ≤ x) bo kx (.slice ps t.length cs) v2 v3 n' l' (HM2.out.next e9) kx sa na ia _ _ _ _ (ArrAt.mono (G := fun x => x < w4.heap.size) (w' := w9) (fun x hx hlt => ⟨hlt, (HM2.out.ext.trans e9).block hlt⟩) _ _ _ _ _ haf) 0 (fun h => (hfn h).1) (fun h => (hfi h).1) (by omega) (by omega)
              have HPUT := Lib.hid hput
              have HFN := Lib.hid hfn
              have HFI := Lib.hid hfi
              clear hput hfn hfi hfe haf
              go_wp2_with fail
              refine (HPUT.out wi (Ext.refl _)).mono ?_
              rintro e w8 ⟨rfl, v4, v5, hM8, hfar⟩
              clear s0 s1 s2 s3 HPUT
              have hrw8 := HRW2.out.kept (hfar gi hgiX hgib)
              have hkp8 : (∀ r, w4.heap.size ≤ r → r < gi → r ≠ bo → w8.heap[r]? = w5.heap[r]?) := fun r a1 a2 a3 => (hfar r ⟨by omega, a1⟩ a3).trans (HKP2.out r a1 a2 a3)
              go_wp2_with fail
              go_meet
              case rel =>
                refine ⟨_, _, v4, v5, ?_, ?_, hrw8, hM8, hkp8, ?_, ?_⟩
                · split <;> (first | omega | (simp only [List.length_append, List.length_cons, List.length_nil]; omega))
                · split <;> (first | omega | (simp only [List.length_append, List.length_cons, List.length_nil]; omega))
                · show _ = _
                  rw [← HGN2.out]
                  by_cases h3 : kx = 3
                  · rw [if_pos h3, if_pos h3, if_pos h3]
                  · rw [if_neg h3, if_neg h3, if_neg h3, (HFN.out h3).2, List.append_assoc]; rfl
                · show _ = _
                  rw [← HGI2.out]
                  by_cases h3 : kx = 3
                  · rw [if_pos h3, if_pos h3, if_pos h3, (HFI.out h3).2, List.append_assoc]; rfl
                  · rw [if_neg h3, if_neg h3, if_neg h3]
          case rest =>
            obtain ⟨n2, l2, v4, v5, hn2, hl2, hRo, hMo, hko, HGN3, HGI3⟩ := hcut
            have HRo := Lib.hid hRo
            have HMo := Lib.hid hMo
            have HKo := Lib.hid hko
            clear hRo hMo hko HGN HGI HRW2 HM2 HKP2
            have hgib : gi ≠ bo := by have := HBLT.out; omega
            go_wp2_with fail
            go_loopw [13] (fun iv wq => ∃ (r : Nat) (u : List Int), r ≤ t.length ∧ iv = .int .i64 ((r : Int) - 1) ∧ RowI wq gi u ∧ MkB w4 wq (fun x => x < gi + 1 ∧ w4.heap.size ≤ x) bo kx (.slice ps t.length cs) v4 v5 n2 l2 ∧ (∀ r, w4.heap.size ≤ r → r < gi → r ≠ bo → wq.heap[r]? = w5.heap[r]?) ∧ Hid (Within t u) ∧ Hid (bump t r u = bump t t.length t')) (fun iv _ => (intOf iv + 1).toNat)
            case atStart => exact ⟨t.length, t', Nat.le_refl _, by go_num, HRo.out, HMo.out, HKo.out, HW, Lib.hid rfl⟩
            case round =>
              obtain ⟨r, u, hr, rfl, hRo, hMo, hko, hWo, hBo⟩ := hrel
              clear HRo HMo HKo
              cases r with
              | zero =>
                have hfin : u = bump t t.length t' := hBo.out
                subst hfin
                clear hBo
                go_wp2_with fail
                go_roundw
                case rel => exact ⟨q + 1, _, n2, l2, _, _, by go_num, by omega, by omega, by omega, hRo, hMo, hko, fun _ => hWo.out, HGN3.out, HGI3.out⟩
                case measure => simp [intOf]; omega
              | succ r =>
                have hWl := hWo.out.1
                have hj := hWo.out.2 r (by omega)
                have hcell := hRo.cell (j := r) (by omega)
                have hfr := hRo.free r
                have HMX := Lib.hid hMo.ext
                have HKo := Lib.hid hko
                clear hko
                obtain ⟨b2, f2', rfl, as1, as2, as3⟩ := (HT.out.ext (HE2.out.trans HMX.out)).get (i := r) (by omega)
                have hB := hBo.out
                rw [bump] at hB
                have hBr := Lib.hid hB
                obtain ⟨hj0, hj1⟩ := hj
                have hgX : gi < gi + 1 ∧ w4.heap.size ≤ gi := ⟨by omega, HW64.out⟩
                have hRo1 := hRo.set r (u.getD r 0 + 1)
                have hMo1 := hMo.other hgX hgib HW64.out (grown_setCell wr gi r (.int .i64 (u.getD r 0 + 1)))
                have hko1 : (∀ x, w4.heap.size ≤ x → x < gi → x ≠ bo → (wr.setCell ⟨gi, r, none⟩ (.int .i64 (u.getD r 0 + 1))).heap[x]? = w5.heap[x]?) := fun x a1 a2 a3 => (Below.heap_setCell _ _ _ _ (show x ≠ gi by omega)).trans (HKo.out x a1 a2 a3)
                clear hB hBo hRo hMo
                generalize u.getD r 0 = tr at *
                generalize hsr : t.getD r 0 = sr at *
                have HSR := Lib.hid hsr
                clear hsr
                have HWl := Lib.hid hWl
                clear hWl
                go_wp2_with fail
                generalize wr.setCell ⟨gi, r, none⟩ (.int .i64 (tr + 1)) = w7 at hRo1 hMo1 hko1 ⊢
                have hcell1 := hRo1.cell (j := r) (by rw [List.length_set, HWl.out]; omega)
                rw [getD_set (by rw [HWl.out]; omega), if_pos rfl] at hcell1
                have hfr1 := hRo1.free r
                obtain ⟨b3, f3', hb3, as4, _, _⟩ := (HT.out.ext (HE2.out.trans hMo1.ext)).get (i := r) (by omega)
                rw [HSR.out] at as4
                simp only [Option.some.injEq, Addr.mk.injEq, and_true] at hb3
                obtain ⟨rfl, rfl⟩ := hb3
                clear as1 as2 as3 hcell hfr
                have HKo1 := Lib.hid hko1
                clear hko1 HKo
                by_cases hb : tr + 1 < sr
                · have hbump : u.set r (tr + 1) = bump t t.length t' := by
                    have := hBr.out
                    rwa [if_pos hb] at this
                  clear hBr
                  go_quiet (fail)
                  go_wp2_with fail
                  go_roundw
                  case rel => exact ⟨q + 1, _, n2, l2, _, _, by go_num, by omega, by omega, by omega, hRo1.ext ((Ext.refl _).drewN _), hMo1.next ((Ext.refl _).drewN _), HKo1.out, fun _ => by
                    rw [hbump]
                    exact bump_within t (fun j hj => by have := HW.out.2 j hj; omega) _ _ (Nat.le_refl _) HW.out, by rw [hbump]; exact HGN3.out, by rw [hbump]; exact HGI3.out⟩
                  case measure => simp [intOf]; omega
                · have hbump : bump t r (u.set r 0) = bump t t.length t' := by
                    have := hBr.out
                    rwa [if_neg hb] at this
                  have hBu := Lib.hid hbump
                  clear hBr hbump
                  go_quiet (fail)
                  go_wp2_with fail
                  refine ⟨⟨r, u.set r 0, by omega, rfl, ?_, (hMo1.next ((Ext.refl _).drewN _)).other hgX hgib HW64.out (grown_setCell _ _ _ _), fun x a1 a2 a3 => (Below.heap_setCell _ _ _ _ (show x ≠ gi by omega)).trans (HKo1.out x a1 a2 a3), ?_, hBu.out⟩, ?_⟩
                  · have h5 := (hRo1.ext ((Ext.refl _).drewN nq)).set r 0
                    rw [List.set_set] at h5
                    exact h5
                  · refine ⟨by rw [List.length_set]; exact hWo.out.1, fun j hj => ?_⟩
                    rw [getD_set (by rw [HWl.out]; omega)]
                    have h6 := hWo.out.2 j hj
                    split
                    · subst_vars; omega
                    · exact h6
                  · simp [intOf]
end Go.Proofs.Ytmpjnjhiklaofaa
