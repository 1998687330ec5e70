/-
  THE WALK of taking.build. (Printed by gen_build.py.)
-/
import Derived.Test.YtcmnlnamgnbemaaTkClos
import Derived.Test.YtcmnlnamgnbemaaMkB
import Derived.Test.YtcmnlnamgnbemaaAxes
import Derived.Test.YtcmnlnamgnbemaaClone
import Derived.Test.YtcmnlnamgnbemaaFill
import Derived.Deep.CutBlock
namespace Go.Proofs.Ytcmnlnamgnbemaa
set_option linter.unusedSimpArgs false
set_option linter.unusedVariables false
open Go.RowKit

theorem slice8 (g n : Nat) (hn : n ≤ 8) (w : World) : (Instr.sliceAt 123 (.pointer (some ⟨g, 0, none⟩)) none (some (.int .i64 (n : Int))) none).run Try.prog w = .ok (.slice (some ⟨g, 0, none⟩) n 8) w := by
  have hA : Try.prog.arrayLen 123 = 8 := by simp [Program.arrayLen, Try.underlying123]
  have hE : Try.prog.elem 123 = 3 := by simp [Program.elem, Try.underlying123]
  rw [run_sliceAt_array_h w 123 ⟨g, 0, none⟩ (by rw [hA, hE]; exact Try.underlying123) .i64 (n : Int) (by omega) (by rw [hA]; omega)]
  obtain ⟨i0, hi, hz0, hz1, hz2⟩ := info_parts infoI
  rw [hE, hA]
  simp [slicedAt, go_sem]

theorem bld_src (fr : Nat → Int → Int) (ys n t : List Int) (it : List Arr) (k v : Int) (h : srcGo fr 0 ys t 0 = some v) : bldN k ys n fr t = n.getD v.toNat 0 ∧ bldI ys it fr t = it.getD v.toNat default := by
  unfold bldN bldI
  rw [h]; exact ⟨rfl, rfl⟩
theorem bld_fill (fr : Nat → Int → Int) (ys n t : List Int) (it : List Arr) (k : Int) (h : srcGo fr 0 ys t 0 = none) : bldN k ys n fr t = fillN k ∧ bldI ys it fr t = fillI := by
  unfold bldN bldI
  rw [h]; exact ⟨rfl, rfl⟩
/-- What build has found to copy from: the array zt at place v. -/
def Srcs (k : Int) (ys n : List Int) (it : List Arr) (fr : Nat → Int → Int) (t : List Int) (v : Nat) : Arr → Prop
  | .mk _ _ zn zi => (k ≠ 3 → v < zn.length ∧ zn.getD v 0 = bldN k ys n fr t) ∧ (k = 3 → v < zi.length ∧ zi.getD v default = bldI ys it fr t)
theorem srcs_fill {k : Int} {ys n t : List Int} {it : List Arr} {fr : Nat → Int → Int} (hk : k = 1 ∨ k = 2 ∨ k = 3) (h : srcGo fr 0 ys t 0 = none) : Srcs k ys n it fr t 0 (fillV (.mk k ys n it)) := by
  obtain ⟨h1, h2⟩ := bld_fill fr ys n t it k h
  unfold fillV
  rcases hk with rfl | rfl | rfl
  · exact ⟨fun _ => ⟨by simp, by rw [h1]; rfl⟩, fun h => by omega⟩
  · exact ⟨fun _ => ⟨by simp, by rw [h1]; rfl⟩, fun h => by omega⟩
  · exact ⟨fun h => by omega, fun _ => ⟨by simp, by rw [h2]; rfl⟩⟩
theorem srcs_src {k : Int} {ys n t : List Int} {it : List Arr} {fr : Nat → Int → Int} {v : Int} (h : srcGo fr 0 ys t 0 = some v) (h0 : 0 ≤ v) (hn : k ≠ 3 → v < n.length) (hi : k = 3 → v < it.length) : Srcs k ys n it fr t v.toNat (.mk k ys n it) := by
  obtain ⟨h1, h2⟩ := bld_src fr ys n t it k v h
  exact ⟨fun hk => ⟨by have := hn hk; omega, by rw [h1]⟩, fun hk => ⟨by have := hi hk; omega, by rw [h2]⟩⟩

def bldNs (k : Int) (ys n : List Int) (fr : Nat → Int → Int) (s : List Int) (m : Nat) (t : List Int) : List Int := if k = 3 then [] else movedGo (bldN k ys n fr) s m t
def bldIs (k : Int) (ys : List Int) (it : List Arr) (fr : Nat → Int → Int) (s : List Int) (m : Nat) (t : List Int) : List Arr := if k = 3 then movedGo (bldI ys it fr) s m t else []
theorem bldV_eq (s : List Int) (fr : Nat → Int → Int) (k : Int) (ys n : List Int) (it : List Arr) : bldV s fr (.mk k ys n it) = .mk k s (bldNs k ys n fr s (shapeSize s).toNat (List.replicate s.length 0)) (bldIs k ys it fr s (shapeSize s).toNat (List.replicate s.length 0)) := rfl
theorem bldNs_len (k : Int) (ys n : List Int) (fr : Nat → Int → Int) (s : List Int) (m : Nat) (t : List Int) : (bldNs k ys n fr s m t).length ≤ m := by
  unfold bldNs; split
  · simp
  · rw [movedGo_length]; omega
theorem bldIs_len (k : Int) (ys : List Int) (it : List Arr) (fr : Nat → Int → Int) (s : List Int) (m : Nat) (t : List Int) : (bldIs k ys it fr s m t).length ≤ m := by
  unfold bldIs; split
  · rw [movedGo_length]; omega
  · simp
theorem bldNs_zero (k : Int) (ys n : List Int) (fr : Nat → Int → Int) (s : List Int) (t : List Int) : bldNs k ys n fr s 0 t = [] := by unfold bldNs; split <;> rfl
theorem bldIs_zero (k : Int) (ys : List Int) (it : List Arr) (fr : Nat → Int → Int) (s : List Int) (t : List Int) : bldIs k ys it fr s 0 t = [] := by unfold bldIs; split <;> rfl
theorem bldNs_step {k : Int} (ys n : List Int) (fr : Nat → Int → Int) (s : List Int) (m : Nat) (t n' r : List Int) (h : n' ++ bldNs k ys n fr s (m + 1) t = r) : (k ≠ 3 → (n' ++ [bldN k ys n fr t]) ++ bldNs k ys n fr s m (bump s t.length t) = r) ∧ (k = 3 → n' ++ bldNs k ys n fr s m (bump s t.length t) = r) := by
  unfold bldNs at h ⊢
  refine ⟨fun hk => ?_, fun hk => ?_⟩
  · rw [if_neg hk] at h ⊢
    rw [movedGo] at h
    rw [List.append_assoc]; exact h
  · rw [if_pos hk] at h ⊢
    exact h
theorem bldIs_step {k : Int} (ys : List Int) (it : List Arr) (fr : Nat → Int → Int) (s : List Int) (m : Nat) (t : List Int) (l' r : List Arr) (h : l' ++ bldIs k ys it fr s (m + 1) t = r) : (k = 3 → (l' ++ [bldI ys it fr t]) ++ bldIs k ys it fr s m (bump s t.length t) = r) ∧ (k ≠ 3 → l' ++ bldIs k ys it fr s m (bump s t.length t) = r) := by
  unfold bldIs at h ⊢
  refine ⟨fun hk => ?_, fun hk => ?_⟩
  · rw [if_pos hk] at h ⊢
    rw [movedGo] at h
    rw [List.append_assoc]; exact h
  · rw [if_neg hk] at h ⊢
    exact h

set_option maxRecDepth 100000 in
set_option maxHeartbeats 8000000 in
theorem build_any (fid : Nat) (caps : Array Value) (fr : Nat → Int → Int) (G H : Nat → Prop) (p2 : Option Addr) (cc2 : Nat) (s ys : List Int) (k : Int) (n : List Int) (it : List Arr) (d0 d1 d2 d3 : Value) (w : World)
    (HC : ∀ (args : Array Value) (w : World), (callFunc fid args).run Try.prog w = .ok (.enter fid args) w)
    (HF : ∀ (w' : World), Ext w w' → ∀ (a : Nat) (i : Int), a < s.length → 0 ≤ i → i ≤ 65536 → Calls Try.prog fid (#[.int .i64 a, .int .i64 i] ++ caps) w' fun e w2 => e = .returned (.int .i64 (fr a i)) ∧ Ext w' w2)
    (hfr : ∀ (a : Nat) (i : Int), a < s.length → 0 ≤ i → i ≤ 65536 → -9223372036854775808 ≤ fr a i ∧ fr a i ≤ 9223372036854775807)
    (hs : IntsAt G w p2 s) (hsk : SlOk s.length cc2) (hy : ArrAt H w (.mk k ys n it) d0 d1 d2 d3) (hlen : s.length = ys.length) (h8 : ys.length ≤ 8)
    (hk3 : k = 1 ∨ k = 2 ∨ k = 3) (hr : rightGo 1 ys = true) (hn : k ≠ 3 → (n.length : Int) = prodA 1 ys) (hi : k = 3 → (it.length : Int) = prodA 1 ys) :
    Calls Try.prog 69 #[.agg #[d0, d1, d2, d3], .slice p2 s.length cc2, .func (.func fid) #[] caps] w fun e w' =>
      ∃ c0 c1 c2 c3, e = .returned (.tuple #[.agg #[c0, c1, c2, c3], .int .i64 (buildV s fr (.mk k ys n it)).2]) ∧ ArrAt (fun b => w.heap.size ≤ b ∨ G b) w' (buildV s fr (.mk k ys n it)).1 c0 c1 c2 c3 ∧ Ext w w' := by
  have hy' := hy
  unfold ArrAt at hy'
  obtain ⟨rfl, hk, ⟨q1, m1, rfl, ⟨o1, o1', o1''⟩, i1⟩, ⟨q2, m2, rfl, ⟨o2, o2', o2''⟩, i2⟩, ⟨q3, m3, rfl, ⟨o3, o3', o3''⟩, i3⟩⟩ := hy'
  obtain ⟨u1, u2, u3⟩ := hsk
  replace hs : IntsAt (fun b => G b ∧ b < w.heap.size) w p2 s := hs.mono fun b hb hlt => ⟨⟨hb, hlt⟩, rfl⟩
  have hs8 : s.length ≤ 8 := by omega
  have HSL := Lib.hid hlen
  have HY := Lib.hid hy
  have HS := Lib.hid hs
  have HR := Lib.hid hr
  have HN := Lib.hid hn
  have HI := Lib.hid hi
  have HFR := Lib.hid hfr
  have HK3 := Lib.hid hk3
  have H1 := Lib.hid i1
  generalize hres : buildV s fr (.mk k ys n it) = res
  have HRES := Lib.hid hres
  clear hres hy hs hr hn hi hfr hk3 i1 i2 i3 hlen
  go_enter Try.func69, Try.ntmps69
  go_wp2_with fail
  have hE0 : Ext w ((w.alloc (.cells #[.int .i64 k, .slice q1 ys.length m1, .slice q2 n.length m2, .slice q3 it.length m3] 26)).alloc (.cells #[.int .i64 0, .slice none 0 0, .slice none 0 0, .slice none 0 0] 26)) := ((Ext.refl _).alloc _).alloc _
  have hB1 := (box_new w (.int .i64 k) (.slice q1 ys.length m1) (.slice q2 n.length m2) (.slice q3 it.length m3)).ext ((Ext.refl _).alloc (.cells #[.int .i64 0, .slice none 0 0, .slice none 0 0, .slice none 0 0] 26))
  have hB2 := box_new (w.alloc (.cells #[.int .i64 k, .slice q1 ys.length m1, .slice q2 n.length m2, .slice q3 it.length m3] 26)) (.int .i64 0) (.slice none 0 0) (.slice none 0 0) (.slice none 0 0)
  have hsz1 : ((w.alloc (.cells #[.int .i64 k, .slice q1 ys.length m1, .slice q2 n.length m2, .slice q3 it.length m3] 26)).alloc (.cells #[.int .i64 0, .slice none 0 0, .slice none 0 0, .slice none 0 0] 26)).heap.size = w.heap.size + 2 := by simp
  rw [World.size_alloc] at hB2
  generalize ((w.alloc (.cells #[.int .i64 k, .slice q1 ys.length m1, .slice q2 n.length m2, .slice q3 it.length m3] 26)).alloc (.cells #[.int .i64 0, .slice none 0 0, .slice none 0 0, .slice none 0 0] 26)) = w1 at hE0 hB1 hB2 hsz1 ⊢
  refine (shapeRight_any _ p2 cc2 s w1 (HS.out.ext hE0) (by unfold lenMax; omega)).mono ?_
  rintro e w2 ⟨rfl, rfl⟩
  obtain ⟨x0, x1, x2, x3⟩ := hB2.cell
  have y0 := hB2.free 0
  have y1 := hB2.free 1
  have y2 := hB2.free 2
  have y3 := hB2.free 3
  have hlt1 := hB2.lt
  by_cases hsr : shapeRight s = false
  · have hR1 := HRES.out
    unfold buildV at hR1
    rw [if_pos hsr] at hR1
    subst hR1
    rw [hsr]
    go_wp2_with fail
    obtain ⟨gg1, gg2, gg3⟩ := hB2.put4 hE0 (by omega) (.int .i64 0) (.slice none 0 0) (.slice none 0 0) (.slice none 0 0)
    revert gg1 gg2 gg3
    generalize ((((w1.setCell ⟨w.heap.size + 1, 0, none⟩ (.int .i64 0)).setCell ⟨w.heap.size + 1, 1, none⟩ (.slice none 0 0)).setCell ⟨w.heap.size + 1, 2, none⟩ (.slice none 0 0)).setCell ⟨w.heap.size + 1, 3, none⟩ (.slice none 0 0)) = w9
    intro gg1 gg2 gg3
    obtain ⟨z0, z1, z2, z3⟩ := gg2.cell
    refine bodyPost_ret (v := .tuple #[.agg #[(.int .i64 0), (.slice none 0 0), (.slice none 0 0), (.slice none 0 0)], .int .i64 21]) ?_ rfl ⟨_, _, _, _, rfl, Arr.zero_at _ _, gg1⟩
    simp [results, Try.results69, go_sem, z0, z1, z2, z3]
  have hsr' : shapeRight s = true := by simpa using hsr
  rw [hsr']
  have hR1 := HRES.out
  unfold buildV at hR1
  rw [if_neg hsr] at hR1
  have HRES1 := Lib.hid hR1
  have HSR := Lib.hid hsr'
  clear hR1 HRES hsr hsr'
  obtain ⟨s0, s1, s2, s3⟩ := hB1.cell
  go_wp2_with fail
  refine (fill_any H (.mk k ys n it) _ _ _ _ w1 (HY.out.ext hE0)).mono ?_
  rintro e w3 ⟨a0, a1, a2, a3, rfl, hf, hE1⟩
  obtain ⟨fk, f1, g1, h1, f2, g2, h2, f3, g3, h3, rfl, rfl, rfl, rfl⟩ := hf.form
  replace hB1 := hB1.ext hE1
  replace hB2 := hB2.ext hE1
  have hE2 := hE0.trans hE1
  have HFL := Lib.hid (hf.ext ((Ext.refl _).alloc (.cells #[.int .i64 fk, .slice f1 g1 h1, .slice f2 g2 h2, .slice f3 g3 h3] 26)))
  have hFB := box_new w3 (.int .i64 fk) (.slice f1 g1 h1) (.slice f2 g2 h2) (.slice f3 g3 h3)
  have hE3 := hE2.alloc (.cells #[.int .i64 fk, .slice f1 g1 h1, .slice f2 g2 h2, .slice f3 g3 h3] 26)
  replace hB1 := hB1.ext ((Ext.refl w3).alloc (.cells #[.int .i64 fk, .slice f1 g1 h1, .slice f2 g2 h2, .slice f3 g3 h3] 26))
  replace hB2 := hB2.ext ((Ext.refl w3).alloc (.cells #[.int .i64 fk, .slice f1 g1 h1, .slice f2 g2 h2, .slice f3 g3 h3] 26))
  have hl3 := hE1.lt
  have hl34 : (w3.alloc (.cells #[.int .i64 fk, .slice f1 g1 h1, .slice f2 g2 h2, .slice f3 g3 h3] 26)).heap.size = w3.heap.size + 1 := by simp
  clear x0 x1 x2 x3 y0 y1 y2 y3 s0 s1 s2 s3 hf hE1 hE2
  obtain ⟨s0, s1, s2, s3⟩ := hB1.cell
  have hlB1 := hB1.lt
  go_wp2_with fail
  generalize hfb : w3.heap.size = bf at *
  generalize w3.alloc (.cells #[.int .i64 fk, .slice f1 g1 h1, .slice f2 g2 h2, .slice f3 g3 h3] 26) = w4 at *
  clear hfb
  have hO := (box_new w4 (.int .i64 k) (.slice p2 s.length cc2) (.slice none 0 0) (.slice none 0 0)).ext ((Ext.refl _).alloc (.cells #[.int .i64 0, .int .i64 0, .int .i64 0, .int .i64 0, .int .i64 0, .int .i64 0, .int .i64 0, .int .i64 0] 123))
  have hI := Idx8.made (w := w4.alloc (.cells #[.int .i64 k, .slice p2 s.length cc2, .slice none 0 0, .slice none 0 0] 26)) s.length hs8
  have hE4 : Ext w4 ((w4.alloc (.cells #[.int .i64 k, .slice p2 s.length cc2, .slice none 0 0, .slice none 0 0] 26)).alloc (.cells #[.int .i64 0, .int .i64 0, .int .i64 0, .int .i64 0, .int .i64 0, .int .i64 0, .int .i64 0, .int .i64 0] 123)) := ((Ext.refl _).alloc _).alloc _
  have hl5 : ((w4.alloc (.cells #[.int .i64 k, .slice p2 s.length cc2, .slice none 0 0, .slice none 0 0] 26)).alloc (.cells #[.int .i64 0, .int .i64 0, .int .i64 0, .int .i64 0, .int .i64 0, .int .i64 0, .int .i64 0, .int .i64 0] 123)).heap.size = w4.heap.size + 2 := by simp
  rw [World.size_alloc] at hI
  generalize ((w4.alloc (.cells #[.int .i64 k, .slice p2 s.length cc2, .slice none 0 0, .slice none 0 0] 26)).alloc (.cells #[.int .i64 0, .int .i64 0, .int .i64 0, .int .i64 0, .int .i64 0, .int .i64 0, .int .i64 0, .int .i64 0] 123)) = w5 at hO hI hE4 hl5 ⊢
  rw [hl34] at hO hI hl5
  have hM0 := MkB.fresh (X := (fun x => x = bf + 1 ∨ x = bf + 1 + 1)) hE4 (by omega) hO (.inl rfl) (fun x hx => by omega)
  have hsl := slice8 (bf + 1 + 1) s.length hs8
  have HI0 := Lib.hid hI
  have HM0 := Lib.hid hM0
  have HB1 := Lib.hid hB1
  have HB2 := Lib.hid hB2
  have HFB := Lib.hid hFB
  have HE3 := Lib.hid hE3
  have hlw4 := hE3.lt
  have hfbl := hFB.lt
  have hEw := hE3.trans hE4
  have hsz0 := shapeSize_lo s
  have hszh := shapeSize_hi s
  clear s0 s1 s2 s3 hlB1 hO hI hM0 hB1 hB2 hFB
  generalize hszv : shapeSize s = sz at *
  have HSZ := Lib.hid hszv
  clear hszv
  refine (size_any _ p2 cc2 s _ (HS.out.ext hEw) (by unfold lenMax; omega)).mono ?_
  rintro e w6 ⟨rfl, rfl⟩
  rw [HSZ.out]
  go_wp2_with fail
  go_loopw [29] (fun c wr => ∃ (m : Nat) (t n' : List Int) (l' : List Arr) (v2 v3 : Value), (m : Int) ≤ max sz 0 ∧ c = .int .i64 m ∧ n'.length ≤ m ∧ l'.length ≤ m ∧ t.length = s.length ∧ Idx8 wr (bf + 1 + 1) t ∧ MkB w4 wr (fun x => x = bf + 1 ∨ x = bf + 1 + 1) (bf + 1) k (.slice p2 s.length cc2) v2 v3 n' l' ∧ Hid ((m : Int) < sz → Within s t) ∧
      Hid (n' ++ bldNs k ys n fr s (sz.toNat - m) t = bldNs k ys n fr s sz.toNat (List.replicate s.length 0)) ∧ Hid (l' ++ bldIs k ys it fr s (sz.toNat - m) t = bldIs k ys it fr s sz.toNat (List.replicate s.length 0))) (fun c _ => sz.toNat - (intOf c).toNat)
  case atStart => exact ⟨0, List.replicate s.length 0, [], [], _, _, by omega, rfl, Nat.le_refl _, Nat.le_refl _, by simp, HI0.out, HM0.out, fun h => within_zero s (shapeSize_pos (by rw [HSZ.out]; exact h)), rfl, rfl⟩
  case round =>
    obtain ⟨m, t, n', l', v2, v3, hm, rfl, hn1, hl1, htl, hIx, hM, hW, HGN, HGI⟩ := hrel
    clear HI0 HM0
    by_cases hlt : (m : Int) < sz
    · have hWt := hW.out hlt
      have HWT := Lib.hid hWt
      obtain ⟨hge1, hge2⟩ := bldNs_step ys n fr s (sz.toNat - (m + 1)) t n' (bldNs k ys n fr s sz.toNat (List.replicate s.length 0)) (by rw [show sz.toNat - (m + 1) + 1 = sz.toNat - m by omega]; exact HGN.out)
      obtain ⟨hgi1, hgi2⟩ := bldIs_step ys it fr s (sz.toNat - (m + 1)) t l' (bldIs k ys it fr s sz.toNat (List.replicate s.length 0)) (by rw [show sz.toNat - (m + 1) + 1 = sz.toNat - m by omega]; exact HGI.out)
      have HN1 := Lib.hid hge1
      have HN2 := Lib.hid hge2
      have HI1 := Lib.hid hgi1
      have HI2 := Lib.hid hgi2
      have hBy := HB1.out.ext hM.ext
      obtain ⟨s0, s1, s2, s3⟩ := hBy.cell
      have hlBy := hBy.lt
      have hEr := hM.ext
      have HTL := Lib.hid htl
      clear hW HGN HGI hge1 hge2 hgi1 hgi2 hWt htl hBy
      go_upto_block 2 with fail
      have hBS := box_new wr (.int .i64 k) (.slice q1 ys.length m1) (.slice q2 n.length m2) (.slice q3 it.length m3)
      have hEs : Ext wr (wr.alloc (.cells #[.int .i64 k, .slice q1 ys.length m1, .slice q2 n.length m2, .slice q3 it.length m3] 26)) := (Ext.refl wr).alloc _
      generalize wr.alloc (.cells #[.int .i64 k, .slice q1 ys.length m1, .slice q2 n.length m2, .slice q3 it.length m3] 26) = w7 at hBS hEs ⊢
      obtain ⟨wo, hwo⟩ : ∃ wo : World, wo = wr := ⟨_, rfl⟩
      rw [← hwo] at hIx hM hEr hEs s0 s1 s2 s3 hlBy hBS
      have hbw : w4.heap.size ≤ wo.heap.size := hEr.lt
      generalize hbs : wr.heap.size = bs at *
      have hbs' : wo.heap.size = bs := by rw [hwo, hbs]
      rw [hbs'] at hBS
      clear hwo hbs
      have HIX := Lib.hid hIx
      have HM := Lib.hid hM
      have HBS := Lib.hid hBS
      have HBI := Lib.hid hbs'
      clear hIx hM s0 s1 s2 s3 hlBy hbs' hBS
      go_cut [12] (fun at' wq => ∃ (v : Nat) (zt : Arr) (z0 z1 z2 z3 : Value), at' = .int .i64 v ∧ Ext wo wq ∧ Box4 wq bs z0 z1 z2 z3 ∧ ArrAt (fun _ => True) w4 zt z0 z1 z2 z3 ∧ Hid (Srcs k ys n it fr t v zt))
      case first =>
        go_wp2_with fail
        go_loopw [12, 36] (fun at' i wq => ∃ (q : Nat) (acc p : Int), q ≤ s.length ∧ i = .int .i64 q ∧ at' = .int .i64 acc ∧ 0 ≤ acc ∧ acc < p ∧ p ≤ 65536 ∧ Ext w7 wq ∧ Hid (rightGo p (ys.drop q) = true) ∧ Hid (srcGo fr q (ys.drop q) (t.drop q) acc = srcGo fr 0 ys t 0)) (fun _ i _ => s.length - (intOf i).toNat)
        case atStart => exact ⟨0, 0, 1, Nat.zero_le _, rfl, rfl, by omega, by omega, by omega, Ext.refl _, HR.out, rfl⟩
        case round =>
          obtain ⟨q, acc, p, hq, rfl, rfl, hacc0, hacc1, hp, hEq, HRq, HSq⟩ := hrel
          by_cases hlq : q < s.length
          · have hqy : q < ys.length := by have := HSL.out; omega
            have hcell := ((HIX.out.ext hEs).ext hEq).cell (j := q) (by have := HTL.out; omega)
            obtain ⟨b1, f1', rfl, ay1, _, _⟩ := (H1.out.ext (HE3.out.trans (hEr.trans (hEs.trans hEq)))).get hqy
            have hw1 := HWT.out.2 q hlq
            have hs1 := rightGo_nonneg s 1 (shapeRight_go HSR.out).1 (s.getD q 0) (by simp [List.getD, hlq])
            have HD1 := Lib.hid (drop_getD hqy)
            have HD2 := Lib.hid (drop_getD (l := t) (k := q) (by have := HTL.out; omega))
            have hti0 : 0 ≤ t.getD q 0 := hw1.1
            have hti1 : t.getD q 0 ≤ 65536 := by omega
            clear hw1 hs1
            generalize t.getD q 0 = ti at *
            have hfrb := HFR.out q ti hlq hti0 hti1
            generalize hkf : fr q ti = kf at *
            have HKF := Lib.hid hkf
            clear hkf
            generalize ys.getD q 0 = y at *
            go_wp2_with fail
            refine (HF wr (HE3.out.trans (hEr.trans (hEs.trans hEq))) q ti hlq hti0 hti1).mono ?_
            rintro e w8 ⟨rfl, hE8⟩
            rw [HKF.out]
            replace hEq := hEq.trans hE8
            replace ay1 := hE8.cell ay1
            clear hcell hE8
            obtain ⟨s0, s1, s2, s3⟩ := ((HB1.out.ext hEr).ext (hEs.trans hEq)).cell
            have h4 := HSq.out
            rw [HD1.out, HD2.out, srcGo, HKF.out] at h4
            by_cases hbad : kf < 0 ∨ y ≤ kf
            · rw [if_pos hbad] at h4
              have H4 := Lib.hid h4
              have hBs8 := HBS.out.ext hEq
              obtain ⟨t0, t1, t2, t3⟩ := hBs8.cell
              have e0 := hBs8.free 0
              have e1 := hBs8.free 1
              have e2 := hBs8.free 2
              have e3 := hBs8.free 3
              have hlt8 := hBs8.lt
              obtain ⟨x0, x1, x2, x3⟩ := (HFB.out.ext (hEr.trans (hEs.trans hEq))).cell
              obtain ⟨gg1, gg2, gg3⟩ := hBs8.put4 (hEs.trans hEq) (by rw [HBI.out]; exact Nat.le_refl _) (.int .i64 fk) (.slice f1 g1 h1) (.slice f2 g2 h2) (.slice f3 g3 h3)
              clear h4 HD1 HD2 HRq HSq gg3
              by_cases hneg : kf < 0
              · have hkn := hneg
                clear hbad
                go_wp2_with fail
                go_meet
                case rel => exact ⟨0, fillV (.mk k ys n it), _, _, _, _, rfl, gg1, gg2, (ArrAt.mono (G := fun _ => True) (fun _ _ _ => ⟨trivial, rfl⟩) _ _ _ _ _ HFL.out), srcs_fill HK3.out H4.out.symm⟩
              · have hky : y ≤ kf := by omega
                clear hbad
                go_wp2_with fail
                go_meet
                case rel => exact ⟨0, fillV (.mk k ys n it), _, _, _, _, rfl, gg1, gg2, (ArrAt.mono (G := fun _ => True) (fun _ _ _ => ⟨trivial, rfl⟩) _ _ _ _ _ HFL.out), srcs_fill HK3.out H4.out.symm⟩
            · rw [if_neg hbad] at h4
              have H4 := Lib.hid h4
              have hk0 : 0 ≤ kf := by omega
              have hk1 : kf < y := by omega
              have h3 := HRq.out
              rw [HD1.out] at h3
              obtain ⟨r0, r1, r2, r3⟩ := rightGo_cons h3 (by omega)
              have HR' := Lib.hid r3
              have e1 : acc * y ≤ (p - 1) * y := Int.mul_le_mul_of_nonneg_right (by omega) (by omega)
              have e2 : 0 ≤ acc * y := Int.mul_nonneg hacc0 (by omega)
              rw [Int.sub_mul, Int.one_mul] at e1
              clear h4 HD1 HD2 HRq HSq h3 r3 hbad
              go_wp2_with fail
              go_roundw
              case rel => exact ⟨q + 1, acc * y + kf, p * y, by omega, by go_num, rfl, by omega, by omega, r2, hEq, HR'.out, H4.out⟩
              case measure => simp [intOf]; omega
          · have h5 := HSq.out
            rw [List.drop_of_length_le (by have := HSL.out; omega), srcGo] at h5
            · obtain ⟨a, rfl⟩ := Int.eq_ofNat_of_zero_le hacc0
              have hbd := srcGo_bd fr ys t 0 0 1 a (by omega) (by omega) HR.out h5.symm (by have := HTL.out; have := HSL.out; omega)
              have HSS := Lib.hid (srcs_src (k := k) (n := n) (it := it) h5.symm hbd.1 (fun hk => by have := HN.out hk; omega) (fun hk => by have := HI.out hk; omega))
              clear h5 hbd HSq HRq
              go_wp2_with fail
              go_meet
              case rel => exact ⟨a, .mk k ys n it, _, _, _, _, rfl, hEs.trans hEq, HBS.out.ext hEq, (ArrAt.mono (G := fun _ => True) (fun _ _ _ => ⟨trivial, rfl⟩) _ _ _ _ _ (HY.out.ext HE3.out)), HSS.out⟩
            all_goals simp
      case rest =>
        obtain ⟨v, zt, z0, z1, z2, z3, rfl, hEc, hBc, hZ, hSr⟩ := hcut
        obtain ⟨zk, zs, zn, zi⟩ := zt
        unfold ArrAt at hZ
        obtain ⟨rfl, hzk, ⟨zp1, zm1, rfl, zo1, zi1⟩, ⟨zp2, zm2, rfl, zo2, zi2⟩, ⟨zp3, zm3, rfl, zo3, zi3⟩⟩ := hZ
        have hM2 := HM.out.next hEc
        obtain ⟨yb0, yb1, yb2, yb3⟩ := (HB1.out.ext hM2.ext).cell
        have hIx2 := HIX.out.ext hEc
        have hne2 : v2.ownBlock ≠ some bs := fun e => by
          have := (HM.out.on.2.2.1.lt bs e).2
          rw [HBI.out] at this; omega
        have hne3 : v3.ownBlock ≠ some bs := fun e => by
          obtain ⟨_, _, cells, hr, _⟩ := HM.out.oi
          have := (hr.lt bs e).2
          rw [HBI.out] at this; omega
        have HZN := Lib.hid zi2
        have HZI := Lib.hid zi3
        obtain ⟨wd, hwd⟩ : ∃ wd : World, wd = wc := ⟨_, rfl⟩
        rw [← hwd] at hEc hBc hM2 hIx2 yb0 yb1 yb2 yb3 ⊢
        clear hwd zi1 zi2 zi3
        go_upto_if 69 with fail
        go_cut [] (fun wq => ∃ (n8 : List Int) (l8 : List Arr) (x2 x3 : Value), n8.length ≤ m + 1 ∧ l8.length ≤ m + 1 ∧ MkB w4 wq (fun x => x = bf + 1 ∨ x = bf + 1 + 1) (bf + 1) k (.slice p2 s.length cc2) x2 x3 n8 l8 ∧ Idx8 wq (bf + 1 + 1) t ∧
          Hid (n8 ++ bldNs k ys n fr s (sz.toNat - (m + 1)) (bump s t.length t) = bldNs k ys n fr s sz.toNat (List.replicate s.length 0)) ∧ Hid (l8 ++ bldIs k ys it fr s (sz.toNat - (m + 1)) (bump s t.length t) = bldIs k ys it fr s sz.toNat (List.replicate s.length 0)))
        case first =>
          by_cases hk3 : (k == 3) = true
          · have hk : k = 3 := by simpa using hk3
            obtain ⟨hv1, hv2⟩ := hSr.out.2 hk
            have HN2' := Lib.hid (HN2.out hk)
            have HI1' : Hid ((l' ++ [zi.getD v default]) ++ bldIs k ys it fr s (sz.toNat - (m + 1)) (bump s t.length t) = bldIs k ys it fr s sz.toNat (List.replicate s.length 0)) := by
              show _ = _
              rw [hv2]; exact HI1.out hk
            clear HN1 HN2 HI1 HI2 hSr hv2 hk yb0 yb1 yb2 yb3
            go_wp2_with fail
            obtain ⟨bi, off, k0, k1, k2, k3, hq3, _, g0, g1, g2, g3, hx⟩ := ItemsAt.get zi _ 0 v HZI.out hv1
            rw [Nat.zero_add] at g0 g1 g2 g3
            subst hq3
            have hxe : zi.getD v default = zi[v]'hv1 := by rw [List.getD, List.getElem?_eq_getElem hv1]; rfl
            rw [← hxe] at hx
            clear hxe
            generalize zi.getD v default = x at *
            obtain ⟨y0, pp1, ll1, uu1, pp2, ll2, uu2, pp3, ll3, uu3, rfl, rfl, rfl, rfl⟩ := hx.form
            have hS0 : Ext w4 wd.drew ∧ wd.drew.cell? ⟨bf + 1, 3, none⟩ = some v3 ∧ Box4 wd.drew bs (.int .i64 zk) (.slice zp1 zs.length zm1) (.slice zp2 zn.length zm2) (.slice (some ⟨bi, off, none⟩) zi.length zm3) := ⟨hM2.ext.drew, hM2.box.cell.2.2.2, hBc.ext ((Ext.refl _).drew)⟩
            refine wp_region_g [0, 1, 2, 3, 4, 5, 6] [7, 8, 9, 10, 11] (fun w' => Ext w4 w' ∧ w'.cell? ⟨bf + 1, 3, none⟩ = some v3 ∧ Box4 w' bs (.int .i64 zk) (.slice zp1 zs.length zm1) (.slice zp2 zn.length zm2) (.slice (some ⟨bi, off, none⟩) zi.length zm3)) (by kernel_rfl) (by kernel_rfl) hS0 ?_
            iterate 7
              refine wpHead_cons (v := ?_) rfl (by rfl) (fun w' hS => ?_) ?_
              rotate_left
              · obtain ⟨hS1, hS2, hS5⟩ := hS
                obtain ⟨sb0, sb1, sb2, sb3⟩ := hS5.cell
                have e0 := hS1.cell g0
                have e1 := hS1.cell g1
                have e2 := hS1.cell g2
                have e3 := hS1.cell g3
                go_simp
                try with_reducible rfl
              try simp only [Act.put, List.setIfInBounds_toArray, List.set]
            unfold wpHead
            refine wpTail_cons rfl (fun K hK => ?_)
            clear g0 g1 g2 g3
            go_wp2_with fail
            refine (clone_any (SizeOf.sizeOf x + 1) (fun _ => True) x _ _ _ _ _ (by omega) (hx.ext hS0.1)).mono ?_
            rintro e w3 ⟨y0', y1', y2', y3', rfl, hy', hE3⟩
            have hEr : Ext wd w3 := Ext.trans ((Ext.refl _).drew) hE3
            have hM3 := hM2.next hEr
            have hS3 : Ext w4 w3 ∧ w3.cell? ⟨bf + 1, 3, none⟩ = some v3 ∧ Box4 w3 bs (.int .i64 zk) (.slice zp1 zs.length zm1) (.slice zp2 zn.length zm2) (.slice (some ⟨bi, off, none⟩) zi.length zm3) := ⟨hM3.ext, hM3.box.cell.2.2.2, hBc.ext hEr⟩
            go_wp2_with fail
            refine hK _ _ hS3 ?_
            try simp only [Act.put, List.setIfInBounds_toArray, List.set]
            refine wpTail_cons rfl (fun K hK => ?_)
            have hY := ArrAt.mono (G := Apart w4.heap.size (fun x => (fun x => x = bf + 1 ∨ x = bf + 1 + 1) x ∨ v2.ownBlock = some x) v3) (w' := w3) (fun q hq _ => ⟨hM2.apart q hq, rfl⟩) _ _ _ _ _ hy'
            obtain ⟨yk, pq1, mm1, n1, pq2, mm2, n2, pq3, mm3, n3, rfl, rfl, rfl, rfl⟩ := hY.form
            clear hx hy' hE3 hM2 hS0
            go_wp2_with fail
            have hEn : Ext wd (w3.alloc (.cells #[.int .i64 yk, .slice pq1 mm1 n1, .slice pq2 mm2 n2, .slice pq3 mm3 n3] 26)) := hEr.alloc _
            have hM4 := hM3.next ((Ext.refl _).alloc (.cells #[.int .i64 yk, .slice pq1 mm1 n1, .slice pq2 mm2 n2, .slice pq3 mm3 n3] 26))
            have hBc4 := (hBc.ext hEr).ext ((Ext.refl _).alloc (.cells #[.int .i64 yk, .slice pq1 mm1 n1, .slice pq2 mm2 n2, .slice pq3 mm3 n3] 26))
            have hbx4 := box_new w3 (.int .i64 yk) (.slice pq1 mm1 n1) (.slice pq2 mm2 n2) (.slice pq3 mm3 n3)
            have hY4 := hY.ext ((Ext.refl _).alloc (.cells #[.int .i64 yk, .slice pq1 mm1 n1, .slice pq2 mm2 n2, .slice pq3 mm3 n3] 26))
            generalize w3.alloc (.cells #[.int .i64 yk, .slice pq1 mm1 n1, .slice pq2 mm2 n2, .slice pq3 mm3 n3] 26) = w4' at *
            refine hK _ _ ⟨hM4.ext, hM4.box.cell.2.2.2, hBc4⟩ ?_
            try simp only [Act.put, List.setIfInBounds_toArray, List.set]
            refine wpTail_cons rfl (fun K hK => ?_)
            refine wpList_append_arr rfl _ _ rfl w4.heap.size _ v3 l'.length l' x _ _ _ _ rfl hM4.oi _ _ rfl hbx4 hM4.xl3 hY4 (by omega) hM4.ext.lt ?_
            intro g cap w8 hon8 hgrow hat8 _ _
            obtain ⟨q1, q2, q3⟩ := hM4.grownI hgrow
            obtain ⟨_, _, _, t3⟩ := q2.cell
            have tf := q2.free 3
            obtain ⟨hM8, hfar⟩ := hM4.storedI (l' := l' ++ [x]) hgrow (by simp) hon8 hat8
            refine hK _ _ ⟨q1, t3, hBc4.kept (hgrow.block bs hBc4.lt (fun e => hne3 e.symm))⟩ ?_
            try simp only [Act.put, List.setIfInBounds_toArray, List.set]
            refine wpTail_free2 rfl rfl (by kernel_rfl) ?_
            clear hBc4 hM3 hM4 hbx4 hY4 hY hon8 hgrow hat8 q1 q2 q3 hS3 hEr
            go_wp2_with fail
            refine OnlyN.mk ?_
            generalize hn8 : l' ++ [x] = l8 at *
            have hl8' : l8.length = l'.length + 1 := by rw [← hn8]; simp
            clear hn8
            have hIx8 := (hIx2.ext hEn).kept (hfar (bf + 1 + 1) (.inr rfl) (by omega))
            go_wp2_with fail
            go_meet
            case rel => exact ⟨n', l8, _, _, by omega, by omega, hM8, hIx8, HN2'.out, HI1'.out⟩
          · have hk : k ≠ 3 := by simpa using hk3
            have hk3' := Bool.eq_false_iff.2 hk3
            obtain ⟨hv1, hv2⟩ := hSr.out.1 hk
            have HI2' := Lib.hid (HI2.out hk)
            have HN1' : Hid ((n' ++ [zn.getD v 0]) ++ bldNs k ys n fr s (sz.toNat - (m + 1)) (bump s t.length t) = bldNs k ys n fr s sz.toNat (List.replicate s.length 0)) := by
              show _ = _
              rw [hv2]; exact HN1.out hk
            clear HN1 HN2 HI1 HI2 hSr hv2 hk hk3 yb0 yb1 yb2 yb3
            go_wp2_with fail
            obtain ⟨bv, ov, rfl, av, av1, av2⟩ := HZN.out.get (i := v) hv1
            generalize zn.getD v 0 = xv at *
            have hS0 : Ext w4 wd.drew ∧ wd.drew.cell? ⟨bf + 1, 2, none⟩ = some v2 ∧ Box4 wd.drew bs (.int .i64 zk) (.slice zp1 zs.length zm1) (.slice (some ⟨bv, ov, none⟩) zn.length zm2) (.slice zp3 zi.length zm3) := ⟨hM2.ext.drew, hM2.box.cell.2.2.1, hBc.ext ((Ext.refl _).drew)⟩
            refine wp_region_g [0, 1, 2, 3, 4, 5, 6] [7, 8, 9, 10] (fun w' => Ext w4 w' ∧ w'.cell? ⟨bf + 1, 2, none⟩ = some v2 ∧ Box4 w' bs (.int .i64 zk) (.slice zp1 zs.length zm1) (.slice (some ⟨bv, ov, none⟩) zn.length zm2) (.slice zp3 zi.length zm3)) (by kernel_rfl) (by kernel_rfl) hS0 ?_
            iterate 7
              refine wpHead_cons (v := ?_) rfl (by rfl) (fun w' hS => ?_) ?_
              rotate_left
              · obtain ⟨hS1, hS2, hS5⟩ := hS
                obtain ⟨sb0, sb1, sb2, sb3⟩ := hS5.cell
                have e0 := hS1.cell av
                go_simp
                try with_reducible rfl
              try simp only [Act.put, List.setIfInBounds_toArray, List.set]
            unfold wpHead
            refine wpTail_cons rfl (fun K hK => ?_)
            clear av
            go_wp2_with fail
            have hEn : Ext wd (wd.alloc (.cells #[.int .i64 xv] 3)).drew := ((Ext.refl _).alloc _).drew
            have hnc : (wd.alloc (.cells #[.int .i64 xv] 3)).drew.cell? ⟨wd.heap.size, 0, none⟩ = some (.int .i64 xv) := by simp
            generalize (wd.alloc (.cells #[.int .i64 xv] 3)).drew = w7 at hEn hnc ⊢
            have hM7 := hM2.next hEn
            have hBc7 := hBc.ext hEn
            refine hK _ _ ⟨hM7.ext, hM7.box.cell.2.2.1, hBc7⟩ ?_
            try simp only [Act.put, List.setIfInBounds_toArray, List.set]
            refine wpTail_cons rfl (fun K hK => ?_)
            refine wpList_append_int rfl _ _ rfl w4.heap.size _ v2 n'.length n' xv rfl hM7.on ⟨wd.heap.size, 0, none⟩ 1 rfl hnc hM7.xl2 ⟨av1, av2⟩ (by omega) hM7.ext.lt ?_
            intro g cap w8 hon8 hgrow hat8 _ _
            obtain ⟨q1, q2, q3⟩ := hM7.grownN hgrow
            obtain ⟨_, _, t2, _⟩ := q2.cell
            have tf := q2.free 2
            obtain ⟨hM8, hfar⟩ := hM7.storedN (n' := n' ++ [xv]) hgrow (by simp) hon8 hat8
            refine hK _ _ ⟨q1, t2, hBc7.kept (hgrow.block bs hBc7.lt (fun e => hne2 e.symm))⟩ ?_
            try simp only [Act.put, List.setIfInBounds_toArray, List.set]
            refine wpTail_free2 rfl rfl (by kernel_rfl) ?_
            clear hBc7 hM7 hon8 hgrow hat8 q1 q2 q3 hS0 hM2 hnc
            go_wp2_with fail
            refine OnlyN.mk ?_
            generalize hn8 : n' ++ [xv] = n8 at *
            have hn8' : n8.length = n'.length + 1 := by rw [← hn8]; simp
            clear hn8
            have hIx8 := (hIx2.ext hEn).kept (hfar (bf + 1 + 1) (.inr rfl) (by omega))
            go_wp2_with fail
            go_meet
            case rel => exact ⟨n8, l', _, _, by omega, by omega, hM8, hIx8, HN1'.out, HI2'.out⟩
        case rest =>
          obtain ⟨n8, l8, x2, x3, hn8, hl8, hM3, hIx3, HGN, HGI⟩ := hcut
          rw [HTL.out] at HGN HGI
          clear HN1 HN2 HI1 HI2 hSr HZN HZI hBc hM2 hIx2 yb0 yb1 yb2 yb3 HM HIX HBS hEs hEc zo1 zo2 zo3
          have HM3 := Lib.hid hM3
          have HIX3 := Lib.hid hIx3
          clear hM3 hIx3
          go_wp2_with fail
          go_loopw [16] (fun i wq => ∃ (q : Nat) (t' : List Int), q ≤ s.length ∧ i = .int .i64 ((q : Int) - 1) ∧ Idx8 wq (bf + 1 + 1) t' ∧ MkB w4 wq (fun x => x = bf + 1 ∨ x = bf + 1 + 1) (bf + 1) k (.slice p2 s.length cc2) x2 x3 n8 l8 ∧ Hid (Within s t') ∧ Hid (bump s q t' = bump s s.length t)) (fun i _ => (intOf i + 1).toNat)
          case atStart => exact ⟨s.length, t, Nat.le_refl _, by simp, HIX3.out, HM3.out, HWT.out, rfl⟩
          case round =>
            obtain ⟨r, t', hr, rfl, hRo, hMo, hWo, hBo⟩ := hrel
            clear HM3 HIX3
            have hposs : ∀ j, j < s.length → 0 < s.getD j 0 := fun j hj => by have := HWT.out.2 j hj; omega
            have HPOS := Lib.hid hposs
            clear hposs
            cases r with
            | zero =>
              have hfin : t' = bump s s.length t := hBo.out
              subst hfin
              clear hBo
              go_wp2_with fail
              go_roundw
              case rel => exact ⟨m + 1, _, n8, l8, _, _, by omega, by go_num, hn8, hl8, hWo.out.1, hRo, hMo, fun _ => hWo.out, HGN, HGI⟩
              case measure => simp [intOf]; omega
            | succ r =>
              have hWl := hWo.out.1
              have hj := hWo.out.2 r (by omega)
              have hcell := hRo.cell (j := r) (by omega)
              have hfr := hRo.free r
              have hltR := hRo.lt
              obtain ⟨b2, f2', rfl, as1, as2, as3⟩ := (HS.out.ext (HE3.out.trans hMo.ext)).get (i := r) (by omega)
              have hB := hBo.out
              rw [bump] at hB
              have hBr := Lib.hid hB
              obtain ⟨hj0, hj1⟩ := hj
              have hne3' : bf + 1 + 1 ≠ bf + 1 := by omega
              have hle3 : w4.heap.size ≤ bf + 1 + 1 := by omega
              have hRo1 := hRo.set r (by omega) (t'.getD r 0 + 1)
              have hMo1 := hMo.other (.inr rfl) hne3' hle3 (grown_setCell wr (bf + 1 + 1) r (.int .i64 (t'.getD r 0 + 1)))
              have hs1 := rightGo_nonneg s 1 (shapeRight_go HSR.out).1 (s.getD r 0) (by simp [List.getD]; rw [List.getElem?_eq_getElem (by omega)]; simp)
              clear hB hBo hRo hMo
              generalize t'.getD r 0 = tr at *
              generalize hsr : s.getD r 0 = sr at *
              have HSRR := Lib.hid hsr
              clear hsr
              have HWl := Lib.hid hWl
              clear hWl
              go_wp2_with fail
              generalize wr.setCell ⟨bf + 1 + 1, r, none⟩ (.int .i64 (tr + 1)) = w6 at hRo1 hMo1 ⊢
              have hcell1 := hRo1.cell (j := r) (by rw [List.length_set, HWl.out]; omega)
              rw [getD_set (by rw [HWl.out]; omega), if_pos rfl] at hcell1
              have hfr1 := hRo1.free r
              obtain ⟨b3, f3', hb3, as4, _, _⟩ := (HS.out.ext (HE3.out.trans hMo1.ext)).get (i := r) (by omega)
              rw [HSRR.out] at as4
              simp only [Option.some.injEq, Addr.mk.injEq, and_true] at hb3
              obtain ⟨rfl, rfl⟩ := hb3
              clear as1 as2 as3 hcell hfr
              by_cases hb : tr + 1 < sr
              · have hbump : t'.set r (tr + 1) = bump s s.length t := by
                  have := hBr.out
                  rwa [if_pos hb] at this
                clear hBr
                go_quiet (fail)
                go_wp2_with fail
                go_roundw
                case rel => exact ⟨m + 1, _, n8, l8, _, _, by omega, by go_num, hn8, hl8, by rw [List.length_set]; exact HWl.out, hRo1.ext ((Ext.refl _).drewN _), hMo1.next ((Ext.refl _).drewN _), fun _ => by
                  rw [hbump]
                  exact bump_within s HPOS.out _ _ (Nat.le_refl _) HWT.out, by rw [hbump]; exact HGN, by rw [hbump]; exact HGI⟩
                case measure => simp [intOf]; omega
              · have hbump : bump s r (t'.set r 0) = bump s s.length t := by
                  have := hBr.out
                  rwa [if_neg hb] at this
                have hBu := Lib.hid hbump
                clear hBr hbump
                go_quiet (fail)
                go_wp2_with fail
                refine ⟨⟨r, t'.set r 0, by omega, rfl, ?_, (hMo1.next ((Ext.refl _).drewN _)).other (.inr rfl) hne3' hle3 (grown_setCell _ _ _ _), ?_, hBu.out⟩, ?_⟩
                · have h5 := (hRo1.ext ((Ext.refl _).drewN nq)).set r (by rw [List.length_set, HWl.out]; omega) 0
                  rw [List.set_set] at h5
                  exact h5
                · refine ⟨by rw [List.length_set]; exact hWo.out.1, fun j hj => ?_⟩
                  rw [getD_set (by rw [HWl.out]; omega)]
                  have h6 := hWo.out.2 j hj
                  split
                  · subst_vars; omega
                  · exact h6
                · simp [intOf]
    · skip
      have hz : sz.toNat - m = 0 := by omega
      have hgn := HGN.out
      have hgi := HGI.out
      rw [hz, bldNs_zero, List.append_nil] at hgn
      rw [hz, bldIs_zero, List.append_nil] at hgi
      have HV : Hid (bldV s fr (.mk k ys n it) = .mk k s n' l') := by
        show _ = _
        rw [bldV_eq, HSZ.out, hgn, hgi]
      have HR1 := HRES1.out
      rw [HV.out] at HR1
      obtain ⟨pa, ca, hv2, _, _⟩ := hM.on.ints
      subst hv2
      obtain ⟨pb, cb, hv3, _, _⟩ := hM.oi.items (by omega)
      subst hv3
      have hA := MkB.arr (G := fun b => G b ∧ b < w.heap.size) hM hk ⟨_, _, rfl, ⟨u1, u2, u3⟩, HS.out.ext (HE3.out.trans hM.ext)⟩ (by omega)
      have hbz := HB2.out.ext hM.ext
      have hEz := HE3.out.trans hM.ext
      obtain ⟨s0, s1, s2, s3⟩ := hM.box.cell
      have hlz := hM.box.lt
      have HA := Lib.hid hA
      have HR2 := Lib.hid HR1
      clear hgn hgi HGN HGI HRES1 HV hW hIx hM HR1 hA
      go_wp2_with fail
      refine (right_any _ (.mk k s n' l') _ _ _ _ wr HA.out).mono ?_
      rintro e w8 ⟨rfl, hE8⟩
      have hbz8 := hbz.ext hE8
      have hEz8 := hEz.trans hE8
      have HA8 := Lib.hid (HA.out.ext hE8)
      replace s0 := hE8.cell s0
      replace s1 := hE8.cell s1
      replace s2 := hE8.cell s2
      replace s3 := hE8.cell s3
      obtain ⟨x0, x1, x2, x3⟩ := hbz8.cell
      have y0 := hbz8.free 0
      have y1 := hbz8.free 1
      have y2 := hbz8.free 2
      have y3 := hbz8.free 3
      have hl8 := hbz8.lt
      clear hbz hEz HA hE8 hlz
      generalize hrv : rightV (.mk k s n' l') = rv at *
      have HRV := Lib.hid hrv
      clear hrv
      by_cases hz0 : rv = 0
      · have HR3 := HR2.out
        rw [if_neg (by simp [hz0])] at HR3
        have HR4 := Lib.hid HR3
        subst hz0
        clear HR2 HR3
        go_wp2_with fail
        obtain ⟨gg1, gg2, gg3⟩ := hbz8.put4 hEz8 (by omega) (.int .i64 k) (.slice p2 s.length cc2) (.slice pa n'.length ca) (.slice pb l'.length cb)
        revert gg1 gg2 gg3
        generalize ((((w8.setCell ⟨w.heap.size + 1, 0, none⟩ (.int .i64 k)).setCell ⟨w.heap.size + 1, 1, none⟩ (.slice p2 s.length cc2)).setCell ⟨w.heap.size + 1, 2, none⟩ (.slice pa n'.length ca)).setCell ⟨w.heap.size + 1, 3, none⟩ (.slice pb l'.length cb)) = w9
        intro gg1 gg2 gg3
        obtain ⟨z0, z1, z2, z3⟩ := gg2.cell
        have hA9 := ArrAt.mono (G := fun b => w.heap.size ≤ b ∨ G b) (w' := w9) (fun b hb _ => ⟨by rcases hb with hb | hb; exact .inl (by omega); exact .inr hb.1, gg3 b (by rcases hb with hb | hb <;> omega)⟩) _ _ _ _ _ HA8.out
        refine bodyPost_ret (v := .tuple #[.agg #[(.int .i64 k), (.slice p2 s.length cc2), (.slice pa n'.length ca), (.slice pb l'.length cb)], .int .i64 0]) ?_ rfl ⟨_, _, _, _, by rw [← HR4.out], by rw [← HR4.out]; exact hA9, gg1⟩
        simp [results, Try.results69, go_sem, z0, z1, z2, z3]
      · have HR3 := HR2.out
        rw [if_pos hz0] at HR3
        have HR4 := Lib.hid HR3
        clear HR2 HR3
        go_wp2_with fail
        obtain ⟨gg1, gg2, gg3⟩ := hbz8.put4 hEz8 (by omega) (.int .i64 0) (.slice none 0 0) (.slice none 0 0) (.slice none 0 0)
        revert gg1 gg2 gg3
        generalize ((((w8.setCell ⟨w.heap.size + 1, 0, none⟩ (.int .i64 0)).setCell ⟨w.heap.size + 1, 1, none⟩ (.slice none 0 0)).setCell ⟨w.heap.size + 1, 2, none⟩ (.slice none 0 0)).setCell ⟨w.heap.size + 1, 3, none⟩ (.slice none 0 0)) = w9
        intro gg1 gg2 gg3
        obtain ⟨z0, z1, z2, z3⟩ := gg2.cell
        refine bodyPost_ret (v := .tuple #[.agg #[(.int .i64 0), (.slice none 0 0), (.slice none 0 0), (.slice none 0 0)], .int .i64 21]) ?_ rfl ⟨_, _, _, _, by rw [← HR4.out], by rw [← HR4.out]; exact Arr.zero_at _ _, gg1⟩
        simp [results, Try.results69, go_sem, z0, z1, z2, z3]

end Go.Proofs.Ytcmnlnamgnbemaa
