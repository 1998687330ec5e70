/-
  THE WALK of cell.Join. (Printed by gen_cjoin.py.)
-/
import Derived.Test.YtmpjnjhiklaofaaCWC
import Derived.Test.YtmpjnjhiklaofaaAppA
import Derived.Test.YtmpjnjhiklaofaaCPadR
import Derived.Test.YtmpjnjhiklaofaaRad4
import Derived.Test.YtmpjnjhiklaofaaCCells
namespace Go.Proofs.Ytmpjnjhiklaofaa
set_option linter.unusedSimpArgs false
set_option linter.unusedVariables false
open Go.RowKit

def MProp.row2 (x y : Value) : MProp := ⟨fun X w v => ∃ b, v = .slice (some ⟨b, 0, none⟩) 2 2 ∧ Row2 w b x y, fun X X' w w' v e hX h => by
  obtain ⟨b, h1, h2⟩ := h
  exact ⟨b, h1, h2.ext e⟩⟩
theorem rightGo_app_right : ∀ (a b : List Int) (p : Int), 1 ≤ p → rightGo p (a ++ b) = true → rightGo 1 b = true
  | [], b, p, hp, h => rightGo_le b p 1 (by omega) hp h
  | d :: r, b, p, hp, h => by
    rw [List.cons_append, rightGo] at h
    split at h
    · cases h
    · rename_i h1
      split at h
      · exact rightGo_app_right r b p hp h
      · rename_i h2
        split at h
        · cases h
        · have : p * 1 ≤ p * d := Int.mul_le_mul_of_nonneg_left (by omega) (by omega)
          exact rightGo_app_right r b (p * d) (by omega) h
theorem shapeRight_app {a b : List Int} (h : shapeRight (a ++ b) = true) : shapeRight b = true ∧ rightGo 1 (a ++ b) = true ∧ (a ++ b).length ≤ 8 := by
  have h1 := shapeRight_go h
  refine ⟨?_, h1.1, h1.2⟩
  have h2 := h1.2
  rw [List.length_append] at h2
  simp only [shapeRight, Bool.and_eq_true, decide_eq_true_eq]
  exact ⟨by omega, rightGo_app_right a b 1 (by omega) h1.1⟩
/-- The elements of all the cells together. -/
theorem join_bound {frame cm : List Int} {m : Nat} (hf : shapeRight frame = true) (hm : (m : Int) = shapeSize frame) (h : shapeRight (frame ++ cm) = true) : m * (shapeSize cm).toNat ≤ 65536 := by
  obtain ⟨h1, h2, h3⟩ := shapeRight_app h
  have h4 := shapeRight_go hf
  have h5 := shapeRight_go h1
  have e1 := size_prodA h4.1 h4.2
  have e2 := size_prodA h5.1 h5.2
  have e3 := prodA_le _ 1 (by omega) (by omega) h2
  rw [prodA_app, prodA_scale, ← e1, ← e2, ← hm] at e3
  have e4 := prodA_nonneg cm 1 (by omega) h5.1
  rw [← e2] at e4
  obtain ⟨z, hz⟩ : ∃ z : Nat, shapeSize cm = z := ⟨(shapeSize cm).toNat, by omega⟩
  rw [hz] at e3 ⊢
  rw [Int.toNat_natCast]
  have e5 : ((m * z : Nat) : Int) ≤ 65536 := by rw [Int.natCast_mul]; exact e3
  omega
theorem padV_n_len (x : Arr) (t : List Int) : (padV x t).n.length ≤ (shapeSize t).toNat ∧ (padV x t).it.length ≤ (shapeSize t).toNat := by
  obtain ⟨k, s, n, it⟩ := x
  simp only [padV, Arr.n, Arr.it]
  constructor
  · split
    · simp
    · rw [padL_len]; exact Nat.le_refl _
  · split
    · rw [padL_len]; exact Nat.le_refl _
    · simp
theorem padV_sh (x : Arr) (t : List Int) : (padV x t).sh = t ∧ (padV x t).k = x.k := by
  obtain ⟨k, s, n, it⟩ := x
  exact ⟨rfl, rfl⟩

theorem zipMax_mem : ∀ (a b : List Int) (P : Int → Prop), (∀ x ∈ a, P x) → (∀ x ∈ b, P x) → ∀ x ∈ zipMax a b, P x
  | [], _, _, _, _, x, hx => by simp [zipMax] at hx
  | _ :: _, [], _, _, _, x, hx => by simp [zipMax] at hx
  | a :: r, b :: q, P, ha, hb, x, hx => by
    rw [zipMax] at hx
    rcases List.mem_cons.1 hx with rfl | hx
    · split
      · exact hb b (by simp)
      · exact ha a (by simp)
    · exact zipMax_mem r q P (fun y hy => ha y (by simp [hy])) (fun y hy => hb y (by simp [hy])) x hx
theorem commonGo_mem (R : Nat) (P : Int → Prop) (h1 : P 1) : ∀ (l : List Arr) (o : List Int), (∀ x ∈ o, P x) → (∀ x ∈ l, ∀ d ∈ x.sh, P d) → ∀ x ∈ commonGo R o l, P x
  | [], o, ho, _, x, hx => ho x hx
  | y :: r, o, ho, hl, x, hx => by
    rw [commonGo] at hx
    refine commonGo_mem R P h1 r _ (zipMax_mem _ _ P ho fun d hd => ?_) (fun z hz => hl z (by simp [hz])) x hx
    rw [leadV] at hd
    rcases List.mem_append.1 hd with h | h
    · rw [List.eq_of_mem_replicate h]; exact h1
    · exact hl y (by simp) d h
theorem commonV_bd {l : List Arr} (h : ∀ x ∈ l, rightV x = 0) : ∀ d ∈ commonV l, 0 ≤ d ∧ d ≤ 65536 :=
  commonGo_mem _ (fun d => 0 ≤ d ∧ d ≤ 65536) (by omega) l _ (fun x hx => by rw [List.eq_of_mem_replicate hx]; omega) (fun x hx d hd => by
    have h2 := h x hx
    obtain ⟨k, s, n, it⟩ := x
    exact rightGo_nonneg s 1 (right_parts h2).2.2.1 d hd)

set_option maxRecDepth 1000000 in
set_option maxHeartbeats 8000000 in
theorem cjoin_any (F G H : Nat → Prop) (frame : List Int) (pf : Option Addr) (cf : Nat) (l : List Arr) (pl : Option Addr) (cl : Nat) (like : Arr) (d0 d1 d2 d3 : Value) (w : World) (hf : IntsAt F w pf frame) (hfo : SlOk frame.length cf) (hl : ItemsAt G w pl 0 l) (hlo : ItOk l.length cl) (hk : ArrAt H w like d0 d1 d2 d3) :
    Calls Try.prog 47 #[.slice pf frame.length cf, .slice pl l.length cl, .agg #[d0, d1, d2, d3]] w fun e w' => ∃ e0 e1 e2 e3, e = .returned (.tuple #[.agg #[e0, e1, e2, e3], .int .i64 (joinV frame l like).2]) ∧ ArrAt (fun b => w.heap.size ≤ b) w' (joinV frame l like).1 e0 e1 e2 e3 ∧ Ext w w' := by
  have hfo2 := hfo
  have hlo2 := hlo
  obtain ⟨f1, f1', f1''⟩ := hfo2
  obtain ⟨l1, l1', l1''⟩ := hlo2
  have HF := Lib.hid hf
  have HL := Lib.hid hl
  have HK := Lib.hid hk
  obtain ⟨rfl, hlk⟩ := hk.kind
  obtain ⟨p1, m1, rfl, hso, hsi⟩ := hk.shape
  obtain ⟨_, _, _, _, p2, n2, m2, p3, n3, m3, hq0, hq1, rfl, rfl⟩ := hk.form
  clear hq0 hq1
  have HLS := Lib.hid hsi
  clear hf hl hk hsi
  have HV : Hid (joinV frame l like = if wrongV frame l like ≠ 0 then (Arr.zero, wrongV frame l like) else if l = [] then (if shapeRight (frame ++ like.sh) = true then (.mk like.k (frame ++ like.sh) [] [], 0) else (Arr.zero, 21))
      else if shapeRight (frame ++ commonV l) = false then (Arr.zero, 21) else if rightV (joinedV frame l) = 0 then (joinedV frame l, 0) else (Arr.zero, 21)) := rfl
  have HW : Hid (wrongV frame l like = 0 → shapeRight frame = true ∧ (l.length : Int) = shapeSize frame ∧ (l = [] → rightV like = 0) ∧ ∀ x ∈ l, rightV x = 0) := Lib.hid (fun h => by
    unfold wrongV at h
    split at h
    · cases h
    · rename_i h1
      split at h
      · cases h
      · rename_i h2
        refine ⟨by cases hq : shapeRight frame with | true => rfl | false => exact absurd (.inl hq) h1, Classical.byContradiction fun hc => h1 (.inr (.inl hc)), fun hn => Classical.byContradiction fun hc => h1 (.inr (.inr ⟨hn, hc⟩)), fun x hx => ?_⟩
        rw [Bool.not_eq_false, List.all_eq_true] at h2
        simpa using h2 x hx)
  generalize joinV frame l like = rv at *
  generalize hlk' : like.k = lk at *
  have HLK := Lib.hid hlk'
  clear hlk'
  go_enter Try.func47, Try.ntmps47
  have hE0 : Ext w ((w.alloc (.cells #[.int .i64 lk, .slice p1 like.sh.length m1, .slice p2 n2 m2, .slice p3 n3 m3] 26)).alloc (.cells #[.int .i64 0, .slice none 0 0, .slice none 0 0, .slice none 0 0] 26)) := ((Ext.refl _).alloc _).alloc _
  have hB := (box_new w (.int .i64 lk) (.slice p1 like.sh.length m1) (.slice p2 n2 m2) (.slice p3 n3 m3)).ext ((Ext.refl _).alloc (.cells #[.int .i64 0, .slice none 0 0, .slice none 0 0, .slice none 0 0] 26))
  have hR := box_new (w.alloc (.cells #[.int .i64 lk, .slice p1 like.sh.length m1, .slice p2 n2 m2, .slice p3 n3 m3] 26)) (.int .i64 0) (.slice none 0 0) (.slice none 0 0) (.slice none 0 0)
  rw [World.size_alloc] at hR
  have HE := Lib.hid hE0
  have HBx := Lib.hid hB
  have HBr := Lib.hid hR
  obtain ⟨s0, s1, s2, s3⟩ := hB.cell
  clear hE0 hB hR
  go_wp2_with fail
  generalize hw1 : (w.alloc (.cells #[.int .i64 lk, .slice p1 like.sh.length m1, .slice p2 n2 m2, .slice p3 n3 m3] 26)).alloc (.cells #[.int .i64 0, .slice none 0 0, .slice none 0 0, .slice none 0 0] 26) = w1 at *
  clear hw1
  refine (cwrong_any F G H frame pf cf l pl cl like _ _ _ _ w1 (HF.out.ext HE.out) hfo (HL.out.ext HE.out) hlo (HK.out.ext HE.out)).mono ?_
  rintro e w2 ⟨rfl, hE1⟩
  replace HE := Lib.hid (HE.out.trans hE1)
  replace HBx := Lib.hid (HBx.out.ext hE1)
  replace HBr := Lib.hid (HBr.out.ext hE1)
  clear hE1 s0 s1 s2 s3
  generalize wrongV frame l like = wv at *
  have hlw := HE.out.lt
  have hlb := HBr.out.lt
  by_cases hwv : wv = 0
  rotate_left
  · have HRV := Lib.hid (show rv = (Arr.zero, wv) by rw [HV.out, if_pos hwv])
    clear HV HW
    have hbz := HBr.out
    obtain ⟨x0, x1, x2, x3⟩ := hbz.cell
    have y0 := hbz.free 0
    have y1 := hbz.free 1
    have y2 := hbz.free 2
    have y3 := hbz.free 3
    obtain ⟨gg3, gg4, gg5⟩ := hbz.put4 (HE.out) (by omega) (.int .i64 0) (.slice none 0 0) (.slice none 0 0) (.slice none 0 0)
    have hA9 : ArrAt (fun b => w.heap.size ≤ b) ((((w2.setCell ⟨w.heap.size + 1, 0, none⟩ (.int .i64 0)).setCell ⟨w.heap.size + 1, 1, none⟩ (.slice none 0 0)).setCell ⟨w.heap.size + 1, 2, none⟩ (.slice none 0 0)).setCell ⟨w.heap.size + 1, 3, none⟩ (.slice none 0 0)) (Arr.zero) (.int .i64 0) (.slice none 0 0) (.slice none 0 0) (.slice none 0 0) := Arr.zero_at _ _
    have HG := Lib.hid (And.intro gg3 (And.intro gg4 hA9))
    clear gg3 gg4 gg5 hA9 hbz
    go_wp2_with fail
    obtain ⟨gg3, gg4, hA9⟩ := HG.out
    clear HG
    revert gg3 gg4 hA9
    generalize ((((w2.setCell ⟨w.heap.size + 1, 0, none⟩ (.int .i64 0)).setCell ⟨w.heap.size + 1, 1, none⟩ (.slice none 0 0)).setCell ⟨w.heap.size + 1, 2, none⟩ (.slice none 0 0)).setCell ⟨w.heap.size + 1, 3, none⟩ (.slice none 0 0)) = w9
    intro gg3 gg4 hA9
    obtain ⟨z0, z1, z2, z3⟩ := gg4.cell
    refine bodyPost_ret (v := .tuple #[.agg #[.int .i64 0, .slice none 0 0, .slice none 0 0, .slice none 0 0], .int .i64 (wv)]) ?_ rfl ⟨_, _, _, _, by rw [HRV.out], by rw [HRV.out]; exact hA9, gg3⟩
    simp [results, Try.results47, go_sem, z0, z1, z2, z3]
  have HRV := Lib.hid (show rv = if l = [] then (if shapeRight (frame ++ like.sh) = true then (.mk lk (frame ++ like.sh) [] [], 0) else (Arr.zero, 21))
      else if shapeRight (frame ++ commonV l) = false then (Arr.zero, 21) else if rightV (joinedV frame l) = 0 then (joinedV frame l, 0) else (Arr.zero, 21) by rw [HV.out, if_neg (by simp [hwv])])
  obtain ⟨hfr, hls, hrl, hra⟩ := HW.out hwv
  have HFR := Lib.hid hfr
  have HLSZ := Lib.hid hls
  have HRA := Lib.hid hra
  subst hwv
  clear HV HW hfr hls hra
  by_cases hle : l = []
  · have hll8 : like.sh.length ≤ 8 := by
      have h := hrl hle
      obtain ⟨k, s, n, it⟩ := like
      exact (right_parts h).2.1
    clear hrl
    subst hle
    have HRV2 := Lib.hid (show rv = if shapeRight (frame ++ like.sh) = true then (.mk lk (frame ++ like.sh) [] [], 0) else (Arr.zero, 21) by rw [HRV.out, if_pos rfl])
    clear HRV
    obtain ⟨s0, s1, s2, s3⟩ := HBx.out.cell
    have hl0 : ((([] : List Arr).length : Nat) : Int) = 0 := rfl
    simp only [List.length_nil] at *
    obtain ⟨hs1, hs2, hs3⟩ := hso
    have hf8 := (shapeRight_go HFR.out).2
    go_wp2_with fail
    refine (concat_any F H w2.heap.size pf p1 cf m1 frame like.sh (w2.alloc (.cells #[.slice pf frame.length cf, .slice p1 like.sh.length m1] 23)) (heap_alloc_new _ _) (HF.out.ext (HE.out.alloc _)) (HLS.out.ext (HE.out.alloc _)) (by unfold lenMax; omega)).mono ?_
    rintro e w3 ⟨v, rfl, hO, hE3⟩
    have hE3' : Ext w2 w3 := ((Ext.refl w2).alloc _).trans hE3
    obtain ⟨ps, cs, rfl, hks, hi⟩ := hO.ints
    have HI3 := Lib.hid (hi.mono (G := fun b => w.heap.size + 1 < b) (w' := w3) (fun b hb _ => ⟨by have := hb.1; rw [World.size_alloc] at this; omega, rfl⟩))
    replace HE := Lib.hid (HE.out.trans hE3')
    replace HBx := Lib.hid (HBx.out.ext hE3')
    replace HBr := Lib.hid (HBr.out.ext hE3')
    clear hO hi hE3 hE3' s0 s1 s2 s3
    have hks' := hks
    obtain ⟨k1, k2, k3⟩ := hks'
    generalize frame ++ like.sh = sh at *
    obtain ⟨s0, s1, s2, s3⟩ := HBx.out.cell
    go_wp2_with fail
    refine (shapeRight_any _ ps cs sh w3 HI3.out (by unfold lenMax; omega)).mono ?_
    rintro e w3' ⟨rfl, rfl⟩
    cases hsr : shapeRight sh with
    | false =>
      have HRV3 := Lib.hid (show rv = (Arr.zero, 21) by rw [HRV2.out, hsr]; rfl)
      clear HRV2 hsr
      have hbz := HBr.out
      obtain ⟨x0, x1, x2, x3⟩ := hbz.cell
      have y0 := hbz.free 0
      have y1 := hbz.free 1
      have y2 := hbz.free 2
      have y3 := hbz.free 3
      obtain ⟨gg3, gg4, gg5⟩ := hbz.put4 (HE.out) (by omega) (.int .i64 0) (.slice none 0 0) (.slice none 0 0) (.slice none 0 0)
      have hA9 : ArrAt (fun b => w.heap.size ≤ b) ((((w3.setCell ⟨w.heap.size + 1, 0, none⟩ (.int .i64 0)).setCell ⟨w.heap.size + 1, 1, none⟩ (.slice none 0 0)).setCell ⟨w.heap.size + 1, 2, none⟩ (.slice none 0 0)).setCell ⟨w.heap.size + 1, 3, none⟩ (.slice none 0 0)) (Arr.zero) (.int .i64 0) (.slice none 0 0) (.slice none 0 0) (.slice none 0 0) := Arr.zero_at _ _
      have HG := Lib.hid (And.intro gg3 (And.intro gg4 hA9))
      clear gg3 gg4 gg5 hA9 hbz
      go_wp2_with fail
      obtain ⟨gg3, gg4, hA9⟩ := HG.out
      clear HG
      revert gg3 gg4 hA9
      generalize ((((w3.setCell ⟨w.heap.size + 1, 0, none⟩ (.int .i64 0)).setCell ⟨w.heap.size + 1, 1, none⟩ (.slice none 0 0)).setCell ⟨w.heap.size + 1, 2, none⟩ (.slice none 0 0)).setCell ⟨w.heap.size + 1, 3, none⟩ (.slice none 0 0)) = w9
      intro gg3 gg4 hA9
      obtain ⟨z0, z1, z2, z3⟩ := gg4.cell
      refine bodyPost_ret (v := .tuple #[.agg #[.int .i64 0, .slice none 0 0, .slice none 0 0, .slice none 0 0], .int .i64 (21)]) ?_ rfl ⟨_, _, _, _, by rw [HRV3.out], by rw [HRV3.out]; exact hA9, gg3⟩
      simp [results, Try.results47, go_sem, z0, z1, z2, z3]
    | true =>
      have HRV3 := Lib.hid (show rv = (.mk lk sh [] [], 0) by rw [HRV2.out, hsr]; rfl)
      clear HRV2 hsr
      have hbz := HBr.out
      obtain ⟨x0, x1, x2, x3⟩ := hbz.cell
      have y0 := hbz.free 0
      have y1 := hbz.free 1
      have y2 := hbz.free 2
      have y3 := hbz.free 3
      obtain ⟨gg3, gg4, gg5⟩ := hbz.put4 (HE.out) (by omega) (.int .i64 lk) (.slice ps sh.length cs) (.slice none 0 0) (.slice none 0 0)
      have hA9 : ArrAt (fun b => w.heap.size ≤ b) ((((w3.setCell ⟨w.heap.size + 1, 0, none⟩ (.int .i64 lk)).setCell ⟨w.heap.size + 1, 1, none⟩ (.slice ps sh.length cs)).setCell ⟨w.heap.size + 1, 2, none⟩ (.slice none 0 0)).setCell ⟨w.heap.size + 1, 3, none⟩ (.slice none 0 0)) (.mk lk sh [] []) (.int .i64 lk) (.slice ps sh.length cs) (.slice none 0 0) (.slice none 0 0) := by
              unfold ArrAt
              exact ⟨rfl, hlk, ⟨_, _, rfl, hks, HI3.out.mono fun b hb _ => ⟨by omega, gg5 b (by omega)⟩⟩, nilI _ _, nilA _ _⟩
      have HG := Lib.hid (And.intro gg3 (And.intro gg4 hA9))
      clear gg3 gg4 gg5 hA9 hbz
      go_wp2_with fail
      obtain ⟨gg3, gg4, hA9⟩ := HG.out
      clear HG
      revert gg3 gg4 hA9
      generalize ((((w3.setCell ⟨w.heap.size + 1, 0, none⟩ (.int .i64 lk)).setCell ⟨w.heap.size + 1, 1, none⟩ (.slice ps sh.length cs)).setCell ⟨w.heap.size + 1, 2, none⟩ (.slice none 0 0)).setCell ⟨w.heap.size + 1, 3, none⟩ (.slice none 0 0)) = w9
      intro gg3 gg4 hA9
      obtain ⟨z0, z1, z2, z3⟩ := gg4.cell
      refine bodyPost_ret (v := .tuple #[.agg #[.int .i64 lk, .slice ps sh.length cs, .slice none 0 0, .slice none 0 0], .int .i64 (0)]) ?_ rfl ⟨_, _, _, _, by rw [HRV3.out], by rw [HRV3.out]; exact hA9, gg3⟩
      simp [results, Try.results47, go_sem, z0, z1, z2, z3]
  have hlp : 0 < l.length := List.length_pos_iff.2 hle
  clear hrl
  have HRV2 := Lib.hid (show rv = if shapeRight (frame ++ commonV l) = false then (Arr.zero, 21) else if rightV (joinedV frame l) = 0 then (joinedV frame l, 0) else (Arr.zero, 21) by rw [HRV.out, if_neg hle])
  clear HRV
  have hl0 : ¬ (l.length : Int) = 0 := by omega
  have hl00 : ¬ l.length = 0 := by omega
  have hl6 : l.length ≤ 65536 := by have := HLSZ.out; have := shapeSize_hi frame; omega
  have hf8 := (shapeRight_go HFR.out).2
  go_wp2_with fail
  have hb8 : ∀ x ∈ l, x.sh.length ≤ 8 := fun x hx => by
    have h := HRA.out x hx
    obtain ⟨k, s, n, it⟩ := x
    exact (right_parts h).2.1
  refine (ccommon_any G l pl cl w2 (HL.out.ext HE.out) hlo hb8).mono ?_
  rintro e w4 ⟨gc, rfl, hrc, hgc, hE4⟩
  have hc8 : (commonV l).length ≤ 8 := by rw [commonV_len]; exact rankMax_le l 0 8 (by omega) hb8
  have HFIT := Lib.hid (fun x (hx : x ∈ l) => common_fits hx (by
    have h := HRA.out x hx
    obtain ⟨k, s, n, it⟩ := x
    exact (right_parts h).2.2.1))
  have HLE := Lib.hid (fun x (hx : x ∈ l) => (show x.sh.length ≤ (commonV l).length by rw [commonV_len]; exact (rankMax_ge l 0).2 x hx))
  have HCB := Lib.hid (fun d hd => (show -9223372036854775808 ≤ d ∧ d ≤ 9223372036854775807 from by have := commonV_bd HRA.out d hd; omega))
  have HJ : Hid (joinedV frame l = .mk (l.headD default).k (frame ++ commonV l) (l.flatMap fun x => (padV x (commonV l)).n) (l.flatMap fun x => (padV x (commonV l)).it)) := rfl
  generalize commonV l = cm at *
  replace HE := Lib.hid (HE.out.trans hE4)
  replace HBr := Lib.hid (HBr.out.ext hE4)
  have hlb4 := HBr.out.lt
  have HRC := Lib.hid hrc
  have hlw4 := HE.out.lt
  clear HBx hrc hE4 hb8
  obtain ⟨b0, o0, c0, c1, c2, c3, rfl, _, g0, _, _, _, hx0⟩ := ItemsAt.get l _ 0 0 (HL.out.ext HE.out) hlp
  simp only [Nat.zero_add, Nat.zero_mul, Nat.add_zero] at g0
  obtain ⟨rfl, hk0⟩ := hx0.kind
  have hhd : l.headD default = l[0] := by
    cases l with
    | nil => simp at hlp
    | cons y r => rfl
  rw [hhd] at HJ
  generalize hk00 : (l[0]).k = k0 at *
  clear hhd hx0 hk00
  have hfc : (frame ++ cm).length ≤ 17592186044416 := by rw [List.length_append]; omega
  obtain ⟨sh, hsh⟩ : ∃ sh, frame ++ cm = sh := ⟨_, rfl⟩
  have HSH := Lib.hid hsh
  have hshl : sh.length = frame.length + cm.length := by rw [← hsh, List.length_append]
  have hsh16 : sh.length ≤ 1000 := by omega
  have HSHL := Lib.hid hshl
  rw [hsh] at HJ HRV2
  clear hsh hfc hshl
  go_wp2_with fail
  refine wp_region_x1 [MProp.is (.slice (some ⟨b0, o0, none⟩) l.length cl), MProp.is (.pointer (some ⟨b0, o0, none⟩)), MProp.is (.pointer (some ⟨b0, o0, none⟩)), MProp.is (.int .i64 k0), MProp.is (.slice pf frame.length cf), MProp.is (.slice (some ⟨gc, 0, none⟩) cm.length cm.length), MProp.row2 (.slice pf frame.length cf) (.slice (some ⟨gc, 0, none⟩) cm.length cm.length), MProp.own w4.heap.size sh, MProp.ownAgg w4.heap.size k0 sh, MProp.box] [0, 1, 2, 3, 4, 5, 6, 7, 8, 9] [] [41, 42, 43, 44, 45, 46, 47, 48, 49, 11] 10 (by kernel_rfl) (by kernel_rfl) (by kernel_rfl) rfl ?_ ?_ ?_
  · refine mem_cons_m ?_ (mem_cons_m ?_ (mem_cons_m ?_ (mem_cons_m ?_ (mem_cons_m ?_ (mem_cons_m ?_ (mem_cons_m ?_ (mem_cons_m ?_ (mem_cons_m ?_ (mem_cons_m ?_ (mem_nil_m))))))))))
    · refine ⟨_, 41, rfl, by kernel_rfl, ?_⟩
      intro u w9 X hE hX hd K hK
      clear hd
      simp only [overlay, List.setIfInBounds_toArray, List.set] at hK ⊢
      go_wp2_with fail
      exact hK _ _ X (Ext.refl _) kept_m hX rfl
    · refine ⟨_, 42, rfl, by kernel_rfl, ?_⟩
      intro u w9 X hE hX hd K hK
      have d0 : u 41 = .slice (some ⟨b0, o0, none⟩) l.length cl := hd 0 (by kernel_rfl)
      clear hd
      simp only [overlay, List.setIfInBounds_toArray, List.set, d0] at hK ⊢
      go_wp2_with fail
      exact hK _ _ X (Ext.refl _) kept_m hX rfl
    · refine ⟨_, 43, rfl, by kernel_rfl, ?_⟩
      intro u w9 X hE hX hd K hK
      have d1 : u 42 = .pointer (some ⟨b0, o0, none⟩) := hd 1 (by kernel_rfl)
      clear hd
      simp only [overlay, List.setIfInBounds_toArray, List.set, d1] at hK ⊢
      go_wp2_with fail
      exact hK _ _ X (Ext.refl _) kept_m hX rfl
    · refine ⟨_, 44, rfl, by kernel_rfl, ?_⟩
      intro u w9 X hE hX hd K hK
      have d2 : u 43 = .pointer (some ⟨b0, o0, none⟩) := hd 2 (by kernel_rfl)
      clear hd
      simp only [overlay, List.setIfInBounds_toArray, List.set, d2] at hK ⊢
      have e9 : Ext w4 w9 := (Ext.refl w4).drew.trans hE
      have u0 := e9.cell g0
      go_wp2_with fail
      exact hK _ _ X (Ext.refl _) kept_m hX rfl
    · refine ⟨_, 45, rfl, by kernel_rfl, ?_⟩
      intro u w9 X hE hX hd K hK
      clear hd
      simp only [overlay, List.setIfInBounds_toArray, List.set] at hK ⊢
      go_wp2_with fail
      exact hK _ _ X (Ext.refl _) kept_m hX rfl
    · refine ⟨_, 46, rfl, by kernel_rfl, ?_⟩
      intro u w9 X hE hX hd K hK
      clear hd
      simp only [overlay, List.setIfInBounds_toArray, List.set] at hK ⊢
      go_wp2_with fail
      exact hK _ _ X (Ext.refl _) kept_m hX rfl
    · refine ⟨_, 47, rfl, by kernel_rfl, ?_⟩
      intro u w9 X hE hX hd K hK
      have d4 : u 45 = .slice pf frame.length cf := hd 4 (by kernel_rfl)
      have d5 : u 46 = .slice (some ⟨gc, 0, none⟩) cm.length cm.length := hd 5 (by kernel_rfl)
      clear hd
      simp only [overlay, List.setIfInBounds_toArray, List.set, d4, d5] at hK ⊢
      go_wp2_with fail
      exact hK _ _ X ((Ext.refl _).alloc _) kept_m (hX.ext ((Ext.refl _).alloc _)) ⟨_, rfl, heap_alloc_new _ _⟩
    · refine ⟨_, 48, rfl, by kernel_rfl, ?_⟩
      intro u w9 X hE hX hd K hK
      have d6 : ∃ b, u 47 = .slice (some ⟨b, 0, none⟩) 2 2 ∧ Row2 w9 b (.slice pf frame.length cf) (.slice (some ⟨gc, 0, none⟩) cm.length cm.length) := hd 6 (by kernel_rfl)
      clear hd
      simp only [overlay, List.setIfInBounds_toArray, List.set] at hK ⊢
      have e9 : Ext w4 w9 := (Ext.refl w4).drew.trans hE
      obtain ⟨bb, hv6, hr6⟩ := d6
      simp only [hv6] at hK ⊢
      have hlt' : w4.heap.size ≤ w9.heap.size := hE.lt
      go_wp2_with fail
      refine (concat_any F (fun q => q = gc) bb pf (some ⟨gc, 0, none⟩) cf cm.length frame cm w9 hr6 (HF.out.ext (HE.out.trans e9)) ((HRC.out.ext e9).ints HCB.out) (by unfold lenMax; omega)).mono ?_
      rintro e w8 ⟨v8, rfl, hO8, hE8⟩
      rw [HSH.out, ← HSHL.out] at hO8
      obtain ⟨p8, c8, rfl, hk8, hi8⟩ := hO8.ints
      go_wp2_with fail
      exact hK _ _ X hE8 kept_m (hX.ext hE8) ⟨p8, c8, rfl, hO8.rebase hlt' hX.hi⟩
    · refine ⟨_, 49, rfl, by kernel_rfl, ?_⟩
      intro u w9 X hE hX hd K hK
      have d3 : u 44 = .int .i64 k0 := hd 3 (by kernel_rfl)
      have d7 : ∃ p c, u 48 = .slice p sh.length c ∧ OwnI w4.heap.size X w9 (.slice p sh.length c) sh.length sh := hd 7 (by kernel_rfl)
      clear hd
      simp only [overlay, List.setIfInBounds_toArray, List.set, d3] at hK ⊢
      obtain ⟨pv, cv, hv3, hO3⟩ := d7
      simp only [hv3] at hK ⊢
      go_wp2_with fail
      exact hK _ _ X (Ext.refl _) kept_m hX ⟨pv, cv, rfl, hO3⟩
    · refine ⟨_, 11, rfl, by kernel_rfl, ?_⟩
      intro u w9 X hE hX hd K hK
      clear hd
      simp only [overlay, List.setIfInBounds_toArray, List.set] at hK ⊢
      go_wp2_with fail
      exact hK _ _ (fun b => X b ∨ b = w9.heap.size) ((Ext.refl _).alloc _) added_m (hX.add hE _) ⟨_, rfl, box_new _ _ _ _ _, .inr rfl⟩
  · exact mem_nil_m
  intro u w9 X hE hX hd
  have d0 : u 41 = .slice (some ⟨b0, o0, none⟩) l.length cl := hd 0 (by decide)
  have d1 : u 42 = .pointer (some ⟨b0, o0, none⟩) := hd 1 (by decide)
  have d2 : u 43 = .pointer (some ⟨b0, o0, none⟩) := hd 2 (by decide)
  have d3 : u 44 = .int .i64 k0 := hd 3 (by decide)
  have d4 : u 45 = .slice pf frame.length cf := hd 4 (by decide)
  have d5 : u 46 = .slice (some ⟨gc, 0, none⟩) cm.length cm.length := hd 5 (by decide)
  have d6 : ∃ b, u 47 = .slice (some ⟨b, 0, none⟩) 2 2 ∧ Row2 w9 b (.slice pf frame.length cf) (.slice (some ⟨gc, 0, none⟩) cm.length cm.length) := hd 6 (by decide)
  have d7 : ∃ p c, u 48 = .slice p sh.length c ∧ OwnI w4.heap.size X w9 (.slice p sh.length c) sh.length sh := hd 7 (by decide)
  have d8 : ∃ p c, u 49 = .agg #[.int .i64 k0, .slice p sh.length c, .slice none 0 0, .slice none 0 0] ∧ OwnI w4.heap.size X w9 (.slice p sh.length c) sh.length sh := hd 8 (by decide)
  have d9 : ∃ b, u 11 = .pointer (some ⟨b, 0, none⟩) ∧ Box4 w9 b (.int .i64 0) (.slice none 0 0) (.slice none 0 0) (.slice none 0 0) ∧ X b := hd 9 (by decide)
  clear hd
  simp only [overlay, List.setIfInBounds_toArray, List.set, d0, d1, d2, d3, d4, d5]
  obtain ⟨bo, hvb, hbox, hxb⟩ := d9
  obtain ⟨ps, cs, hva, hOs⟩ := d8
  have hbo := hX bo hxb
  simp only [hvb, hva]
  obtain ⟨q0, q1, q2, q3⟩ := hbox.cell
  have f0 := hbox.free 0
  have f1 := hbox.free 1
  have f2 := hbox.free 2
  have f3 := hbox.free 3
  have e9 := (Ext.refl w4).drew.trans hE
  obtain ⟨gg1, gg2, gg3⟩ := hbox.put4 e9 hbo.1 (.int .i64 k0) (.slice ps sh.length cs) (.slice none 0 0) (.slice none 0 0)
  have hOs2 := hOs.same (Y := fun x => x = bo) (w' := (((w9.setCell ⟨bo, 0, none⟩ (.int .i64 k0)).setCell ⟨bo, 1, none⟩ (.slice ps sh.length cs)).setCell ⟨bo, 2, none⟩ (.slice none 0 0)).setCell ⟨bo, 3, none⟩ (.slice none 0 0)) (fun q _ _ hne => ⟨gg3 q (fun e => hne (by rw [e]; exact hxb)), fun e => hne (by rw [e]; exact hxb)⟩)
  have HGG := Lib.hid (And.intro gg1 (And.intro gg2 hOs2))
  have HBL := Lib.hid (show w4.heap.size ≤ bo from hbo.1)
  clear d0 d1 d2 d3 d4 d5 d6 d7 gg1 gg2 gg3 hOs2 hOs hbox hbo e9 hX hE
  generalize u 47 = z47 at *
  generalize u 48 = z48 at *
  clear hvb hva
  clear u
  go_wp2_with fail
  refine OnlyN.mk ?_
  obtain ⟨gg1, gg2, hOs⟩ := HGG.out
  clear HGG q0 q1 q2 q3 f0 f1 f2 f3 g0
  generalize (((w9.setCell ⟨bo, 0, none⟩ (.int .i64 k0)).setCell ⟨bo, 1, none⟩ (.slice ps sh.length cs)).setCell ⟨bo, 2, none⟩ (.slice none 0 0)).setCell ⟨bo, 3, none⟩ (.slice none 0 0) = w6 at *
  have hM0 : MkB w4 w6 (fun x => x < w6.heap.size ∧ w4.heap.size ≤ x) bo k0 (.slice ps sh.length cs) (.slice none 0 0) (.slice none 0 0) [] [] := MkB.fresh gg1 HBL.out gg2 ⟨gg2.lt, HBL.out⟩ (fun x hx => hx.1)
  have HM0 := Lib.hid hM0
  obtain ⟨ps', cs', hvz, hkz, hiz⟩ := hOs.ints
  simp only [Value.slice.injEq] at hvz
  obtain ⟨rfl, _, rfl⟩ := hvz
  have HOS := Lib.hid (hiz.mono (G := fun b => (w4.heap.size ≤ b ∧ b ≠ bo) ∧ b < w6.heap.size) (w' := w6) (fun b hb hlt => ⟨⟨hb, hlt⟩, rfl⟩))
  have HKZ := Lib.hid hkz
  have HBLT := Lib.hid gg2.lt
  have HW64 := Lib.hid gg1.lt
  obtain ⟨q0, q1, q2, q3⟩ := gg2.cell
  clear hiz hkz hM0 gg1 gg2 hOs
  go_wp2_with fail
  refine (shapeRight_any _ ps cs sh w6 HOS.out (by unfold lenMax; omega)).mono ?_
  rintro e w6' ⟨rfl, rfl⟩
  clear q0 q1 q2 q3
  cases hsr : shapeRight sh with
  | false =>
    have HRV3 := Lib.hid (show rv = (Arr.zero, 21) by rw [HRV2.out, hsr]; rfl)
    have hE6 := HE.out.trans HM0.out.ext
    replace HBr := Lib.hid (HBr.out.ext HM0.out.ext)
    clear HRV2 hsr
    have hbz := HBr.out
    obtain ⟨x0, x1, x2, x3⟩ := hbz.cell
    have y0 := hbz.free 0
    have y1 := hbz.free 1
    have y2 := hbz.free 2
    have y3 := hbz.free 3
    obtain ⟨gg3, gg4, gg5⟩ := hbz.put4 (hE6) (by omega) (.int .i64 0) (.slice none 0 0) (.slice none 0 0) (.slice none 0 0)
    have hA9 : ArrAt (fun b => w.heap.size ≤ b) ((((w6.setCell ⟨w.heap.size + 1, 0, none⟩ (.int .i64 0)).setCell ⟨w.heap.size + 1, 1, none⟩ (.slice none 0 0)).setCell ⟨w.heap.size + 1, 2, none⟩ (.slice none 0 0)).setCell ⟨w.heap.size + 1, 3, none⟩ (.slice none 0 0)) (Arr.zero) (.int .i64 0) (.slice none 0 0) (.slice none 0 0) (.slice none 0 0) := Arr.zero_at _ _
    have HG := Lib.hid (And.intro gg3 (And.intro gg4 hA9))
    clear gg3 gg4 gg5 hA9 hbz
    go_wp2_with fail
    obtain ⟨gg3, gg4, hA9⟩ := HG.out
    clear HG
    revert gg3 gg4 hA9
    generalize ((((w6.setCell ⟨w.heap.size + 1, 0, none⟩ (.int .i64 0)).setCell ⟨w.heap.size + 1, 1, none⟩ (.slice none 0 0)).setCell ⟨w.heap.size + 1, 2, none⟩ (.slice none 0 0)).setCell ⟨w.heap.size + 1, 3, none⟩ (.slice none 0 0)) = w9
    intro gg3 gg4 hA9
    obtain ⟨z0, z1, z2, z3⟩ := gg4.cell
    refine bodyPost_ret (v := .tuple #[.agg #[.int .i64 0, .slice none 0 0, .slice none 0 0, .slice none 0 0], .int .i64 (21)]) ?_ rfl ⟨_, _, _, _, by rw [HRV3.out], by rw [HRV3.out]; exact hA9, gg3⟩
    simp [results, Try.results47, go_sem, z0, z1, z2, z3]
  | true =>
  have HRV3 := Lib.hid (show rv = if rightV (joinedV frame l) = 0 then (joinedV frame l, 0) else (Arr.zero, 21) by rw [HRV2.out, hsr]; rfl)
  have hzb : l.length * (shapeSize cm).toNat ≤ 65536 := join_bound HFR.out HLSZ.out (by rw [HSH.out]; exact hsr)
  have hcr := (shapeRight_app (a := frame) (b := cm) (by rw [HSH.out]; exact hsr)).1
  have HCR := Lib.hid hcr
  obtain ⟨zc, hzc⟩ : ∃ zc, (shapeSize cm).toNat = zc := ⟨_, rfl⟩
  have HZC := Lib.hid hzc
  rw [hzc] at hzb
  clear HRV2 hsr hcr hzc
  go_wp2_with fail
  go_loopw [57] (fun iv wr => ∃ (i : Nat) (n' : List Int) (l' : List Arr) (v2 v3 : Value), iv = .int .i64 (i : Int) ∧ i ≤ l.length ∧ n'.length ≤ i * zc ∧ l'.length ≤ i * zc ∧ MkB w4 wr (fun x => x < w6.heap.size ∧ w4.heap.size ≤ x) bo k0 (.slice ps sh.length cs) v2 v3 n' l' ∧
    (∀ r, w4.heap.size ≤ r → r < w6.heap.size → r ≠ bo → wr.heap[r]? = w6.heap[r]?) ∧ Hid (n' = (l.take i).flatMap fun x => (padV x cm).n) ∧ Hid (l' = (l.take i).flatMap fun x => (padV x cm).it)) (fun iv _ => l.length - (intOf iv).toNat)
  case atStart => exact ⟨0, [], [], _, _, rfl, Nat.zero_le _, by simp, by simp, HM0.out, fun _ _ _ _ => rfl, Lib.hid (by simp), Lib.hid (by simp)⟩
  case round =>
    obtain ⟨i, n', l', v2, v3, rfl, hil, hn1, hl1, hM, hkp, HGN, HGI⟩ := hrel
    clear HM0
    have HKP := Lib.hid hkp
    clear hkp
    by_cases hlt : i < l.length
    · have hzi : i * zc + zc ≤ 65536 := by
        have := Nat.mul_le_mul_right zc (show i + 1 ≤ l.length from hlt)
        rw [Nat.succ_mul] at this
        omega
      obtain ⟨b1, f1, y0, y1, y2, y3, hb1, _, g0, g1, g2, g3, hx⟩ := ItemsAt.get l _ 0 i (HL.out.ext (HE.out.trans hM.ext)) hlt
      simp only [Option.some.injEq, Addr.mk.injEq, and_true] at hb1
      obtain ⟨rfl, rfl⟩ := hb1
      rw [Nat.zero_add] at g0 g1 g2 g3
      have hxm : l[i] ∈ l := List.getElem_mem hlt
      have hxr := HRA.out _ hxm
      have hxf := HFIT.out _ hxm
      have hxl := HLE.out _ hxm
      have hgn : (l.take (i + 1)).flatMap (fun x => (padV x cm).n) = n' ++ (padV l[i] cm).n := by rw [List.take_succ_eq_append_getElem hlt, List.flatMap_append, ← HGN.out]; simp
      have hgi : (l.take (i + 1)).flatMap (fun x => (padV x cm).it) = l' ++ (padV l[i] cm).it := by rw [List.take_succ_eq_append_getElem hlt, List.flatMap_append, ← HGI.out]; simp
      have HGN2 := Lib.hid hgn
      have HGI2 := Lib.hid hgi
      clear hgn hgi HGN HGI hxm
      generalize l[i] = x at *
      obtain ⟨kx, s, nx, ix⟩ := x
      obtain ⟨xk, xp1, xl1, xc1, xp2, xl2, xc2, xp3, xl3, xc3, rfl, rfl, rfl, rfl⟩ := hx.form
      have hEa : Ext wr (wr.alloc (.cells #[.int .i64 xk, .slice xp1 xl1 xc1, .slice xp2 xl2 xc2, .slice xp3 xl3 xc3] 26)) := (Ext.refl _).alloc _
      have hBa := box_new wr (.int .i64 xk) (.slice xp1 xl1 xc1) (.slice xp2 xl2 xc2) (.slice xp3 xl3 xc3)
      obtain ⟨s0, s1, s2, s3⟩ := hBa.cell
      have hpl := padV_n_len (.mk kx s nx ix) cm
      rw [HZC.out] at hpl
      obtain ⟨hpn, hpi⟩ := hpl
      have hpd := fun (w9 : World) (e : Ext wr w9) => cpad_any G (fun q => q = gc) kx s nx ix _ _ _ _ cm (some ⟨gc, 0, none⟩) cm.length w9 (hx.ext e) ((HRC.out.ext (hM.ext.trans e)).ints HCB.out) ⟨Nat.le_refl _, by omega, by omega⟩ hxr HCR.out hxl hxf
      have HPD := Lib.hid hpd
      have hwr4 : w4.heap.size ≤ wr.heap.size := hM.ext.lt
      have HM := Lib.hid hM
      have HEA := Lib.hid hEa
      have hpe := Arr.eta (padV (.mk kx s nx ix) cm)
      rw [(padV_sh _ _).1, (padV_sh _ _).2] at hpe
      have HPE := Lib.hid hpe
      generalize (padV (.mk kx s nx ix) cm).n = xs at *
      generalize (padV (.mk kx s nx ix) cm).it = ys at *
      clear hx hBa hpd hxr hxf hM hEa hpe
      go_wp2_with fail
      generalize wr.alloc (.cells #[.int .i64 xk, .slice xp1 xl1 xc1, .slice xp2 xl2 xc2, .slice xp3 xl3 xc3] 26) = wa at *
      clear g0 g1 g2 g3
      refine (HPD.out wa HEA.out).mono ?_
      rintro e wp ⟨z0', z1', z2', z3', rfl, hy', hEp⟩
      rw [← HPE.out] at hy'
      unfold ArrAt at hy'
      obtain ⟨rfl, hyk, ⟨q1, u1, rfl, hu1, j1⟩, ⟨q2, u2, rfl, hu2, j2⟩, ⟨q3, u3, rfl, hu3, j3⟩⟩ := hy'
      have hla : wr.heap.size ≤ wa.heap.size := HEA.out.lt
      have hEb : Ext wp (wp.alloc (.cells #[.int .i64 (Arr.mk kx s nx ix).k, .slice q1 cm.length u1, .slice q2 xs.length u2, .slice q3 ys.length u3] 26)) := (Ext.refl _).alloc _
      have hBp := box_new wp (.int .i64 (Arr.mk kx s nx ix).k) (.slice q1 cm.length u1) (.slice q2 xs.length u2) (.slice q3 ys.length u3)
      have HBP := Lib.hid hBp
      have hEw : Ext wr (wp.alloc (.cells #[.int .i64 (Arr.mk kx s nx ix).k, .slice q1 cm.length u1, .slice q2 xs.length u2, .slice q3 ys.length u3] 26)) := (HEA.out.trans hEp).trans hEb
      have hlp2 : wa.heap.size ≤ wp.heap.size := hEp.lt
      have HXS := Lib.hid (j2.ext hEb)
      have HYS := Lib.hid (j3.ext hEb)
      have HM2 := Lib.hid (HM.out.next hEw)
      have HKP2 := Lib.hid (fun r (a1 : w4.heap.size ≤ r) (a2 : r < w6.heap.size) (a3 : r ≠ bo) => (hEw.block (HM.out.xl r ⟨a2, a1⟩)).trans (HKP.out r a1 a2 a3))
      have h2lt : ∀ q, v2.ownBlock = some q → q < wr.heap.size := fun q hq => (HM.out.on.2.2.1.lt q hq).2
      have h3lt : ∀ q, v3.ownBlock = some q → q < wr.heap.size := fun q hq => HM.out.oi.lt q hq |>.2
      have hxlt : ∀ q, q < w6.heap.size ∧ w4.heap.size ≤ q → q < wr.heap.size := fun q hq => HM.out.xl q hq
      have H2LT := Lib.hid h2lt
      have H3LT := Lib.hid h3lt
      have HXLT := Lib.hid hxlt
      clear h2lt h3lt hxlt HM HKP hEb hEw j1 j2 j3 s0 s1 s2 s3 HPD HEA hEp hBp
      obtain ⟨s0, s1, s2, s3⟩ := HBP.out.cell
      obtain ⟨q0, q1', q2', q3'⟩ := HM2.out.box.cell
      go_wp2_with (at_builtin; refine wpList_append_ints rfl _ _ rfl (fun b => wa.heap.size ≤ b) w4.heap.size _ v2 n'.length n' q2 u2 xs rfl HM2.out.on rfl HXS.out HM2.out.xl2 (by omega) HM2.out.ext.lt ?_)
      intro v2' w7 hO7 hgrow hat7
      have hbpl : wp.heap.size < (wp.alloc (.cells #[.int .i64 (Arr.mk kx s nx ix).k, .slice q1 cm.length u1, .slice q2 xs.length u2, .slice q3 ys.length u3] 26)).heap.size := by rw [World.size_alloc]; omega
      have hwb : (wp.alloc (.cells #[.int .i64 (Arr.mk kx s nx ix).k, .slice q1 cm.length u1, .slice q2 xs.length u2, .slice q3 ys.length u3] 26)).heap.size = wp.heap.size + 1 := World.size_alloc _ _
      have HWB := Lib.hid hwb
      generalize hbp : wp.heap.size = bp at *
      generalize wp.alloc (.cells #[.int .i64 (Arr.mk kx s nx ix).k, .slice q1 cm.length u1, .slice q2 xs.length u2, .slice q3 ys.length u3] 26) = wb at *
      rw [← HWB.out] at hat7
      clear hwb hbp s0 s1 s2 s3 q0 q1' q2' q3'
      obtain ⟨pv2, cv2, rfl, _⟩ := hO7.form
      obtain ⟨r1, r2, r3⟩ := HM2.out.grownN hgrow
      obtain ⟨t0, t1, t2, t3'⟩ := r2.cell
      have tf := r2.free 2
      rw [← List.length_append] at hO7 hat7 ⊢
      have hnl2 : (n' ++ xs).length ≤ (i + 1) * zc := by rw [List.length_append, Nat.succ_mul]; omega
      generalize hnx : n' ++ xs = nx' at *
      have HGN3 := Lib.hid HGN2.out.symm
      clear hnx HGN2
      obtain ⟨hM8, hfar8⟩ := HM2.out.storedN' hgrow hO7 hat7
      have hfresh : ∀ q, wa.heap.size ≤ q → q < wb.heap.size → q ≠ bo ∧ w7.heap[q]? = wb.heap[q]? := fun q h1 h2 => ⟨fun e => by have := HBLT.out; have := HXLT.out bo ⟨HBLT.out, HBL.out⟩; omega, hgrow.block q h2 (fun e => by have := H2LT.out q e.symm; omega)⟩
      have hfr8 : ∀ q, wa.heap.size ≤ q → q < wb.heap.size → (w7.setCell ⟨bo, 2, none⟩ (.slice pv2 nx'.length cv2)).heap[q]? = wb.heap[q]? := fun q h1 h2 => (Below.heap_setCell _ _ _ _ (hfresh q h1 h2).1).trans (hfresh q h1 h2).2
      have hbpo : bp ≠ bo := (hfresh bp hlp2 HBP.out.lt).1
      have hbpo' : ¬ bo = bp := fun e => hbpo e.symm
      obtain ⟨j0, j1, j2, j3⟩ := (HBP.out.kept (hfresh bp hlp2 HBP.out.lt).2).cell
      have HM8 := Lib.hid hM8
      have HFR8 := Lib.hid hfr8
      have hsz8 : wb.heap.size ≤ (w7.setCell ⟨bo, 2, none⟩ (.slice pv2 nx'.length cv2)).heap.size := by have := hgrow.size; simpa [World.setCell] using this
      have HSZ8 := Lib.hid hsz8
      have HKP8 := Lib.hid (fun r (a1 : w4.heap.size ≤ r) (a2 : r < w6.heap.size) (a3 : r ≠ bo) => (hfar8 r ⟨a2, a1⟩ a3).trans (HKP2.out r a1 a2 a3))
      have hat8 := hat7
      have HAT8 := Lib.hid hat8
      clear hO7 hgrow hat7 hat8 r1 r2 r3 hM8 hfar8 hfresh hfr8 hsz8 HM2 HKP2
      have HYS8 := Lib.hid (ItemsAt.mono (G := fun b => wa.heap.size ≤ b ∧ b < wb.heap.size) (w' := (w7.setCell ⟨bo, 2, none⟩ (.slice pv2 nx'.length cv2))) (fun b hb hlt => ⟨⟨hb, hlt⟩, HFR8.out b hb hlt⟩) _ _ _ HYS.out)
      have hF8 : ∀ b, (wa.heap.size ≤ b ∧ b < wb.heap.size) → b < ((w7.setCell ⟨bo, 2, none⟩ (.slice pv2 nx'.length cv2))).heap.size → Apart w4.heap.size (fun x => (x < w6.heap.size ∧ w4.heap.size ≤ x) ∨ (Value.slice pv2 nx'.length cv2).ownBlock = some x) v3 b := fun b hb _ => ⟨by omega, fun hx => by
          rcases hx with hx | hx
          · have := HXLT.out b hx; omega
          · rcases HAT8.out with h | h
            · rw [h] at hx; have := H2LT.out b hx; omega
            · rw [h] at hx; simp only [Option.some.injEq] at hx; omega, fun e => by have := H3LT.out b e; omega⟩
      have HF8 := Lib.hid hF8
      clear hF8 HYS HXS
      go_wp2_with (at_builtin; refine wpList_append_arrs rfl _ _ rfl (fun b => wa.heap.size ≤ b ∧ b < wb.heap.size) w4.heap.size _ v3 l'.length l' q3 u3 ys rfl HM8.out.oi rfl HYS8.out HF8.out HM8.out.xl3 (by omega) HM8.out.ext.lt ?_)
      intro v3' w9 hO9 hgrow9 hat9
      have HAT9 := Lib.hid hat9
      clear hat9 t0 t1 t2 t3' tf j0 j1 j2 j3
      obtain ⟨pv3, cv3, rfl, _⟩ := hO9.form
      obtain ⟨r1, r2, r3⟩ := HM8.out.grownI hgrow9
      obtain ⟨_, _, _, t3⟩ := r2.cell
      have tf := r2.free 3
      rw [← List.length_append] at hO9 HAT9 ⊢
      have hll2 : (l' ++ ys).length ≤ (i + 1) * zc := by rw [List.length_append, Nat.succ_mul]; omega
      generalize hly : l' ++ ys = ly at *
      have HGI3 := Lib.hid HGI2.out.symm
      clear hly HGI2
      obtain ⟨hM9, hfar9⟩ := HM8.out.storedI' hgrow9 hO9 (by simpa using HAT9.out)
      have HM9 := Lib.hid hM9
      have HKP9 := Lib.hid (fun r (a1 : w4.heap.size ≤ r) (a2 : r < w6.heap.size) (a3 : r ≠ bo) => (hfar9 r ⟨a2, a1⟩ a3).trans (HKP8.out r a1 a2 a3))
      clear hO9 hgrow9 r1 r2 r3 hM9 hfar9 HM8 HKP8 HAT9 HF8 HYS8 HFR8 HSZ8
      go_wp2_with fail
      go_roundw
      case rel => exact ⟨i + 1, nx', ly, _, _, by go_num, by omega, hnl2, hll2, HM9.out, HKP9.out, HGN3, HGI3⟩
      case measure => simp [intOf]; omega
    · have hie : i = l.length := by omega
      subst hie
      have hgn := HGN.out
      have hgi := HGI.out
      rw [List.take_length] at hgn hgi
      have hje : joinedV frame l = .mk k0 sh n' l' := by rw [HJ.out, ← hgn, ← hgi]
      rw [hje] at HRV3
      obtain ⟨pa, ca, hv2, _, _⟩ := hM.on.ints
      subst hv2
      obtain ⟨pb, cb, hv3, _, _⟩ := hM.oi.items (by omega)
      subst hv3
      have hA := MkB.arr (G := fun b => w4.heap.size ≤ b ∧ b ≠ bo) hM hk0 ⟨ps, cs, rfl, HKZ.out, HOS.out.mono fun b hb hlt => ⟨hb.1, HKP.out b hb.1.1 hb.2 hb.1.2⟩⟩ (by omega)
      have HA := Lib.hid (ArrAt.mono (G := fun b => w.heap.size + 1 < b) (w' := wr) (fun b hb _ => ⟨by rcases hb with hb | hb <;> omega, rfl⟩) _ _ _ _ _ hA)
      have hEr := HE.out.trans hM.ext
      replace HBr := Lib.hid (HBr.out.ext hM.ext)
      have HBO := Lib.hid hM.box
      obtain ⟨q0, q1, q2, q3⟩ := hM.box.cell
      clear hA hM hje hgn hgi HGN HGI HJ HFIT HLE hil hlt
      go_wp2_with fail
      refine (right_any _ (.mk k0 sh n' l') _ _ _ _ wr HA.out).mono ?_
      rintro e w8 ⟨rfl, hE8⟩
      replace HBr := Lib.hid (HBr.out.ext hE8)
      have HBO2 := Lib.hid (HBO.out.ext hE8)
      have HA2 := Lib.hid (HA.out.ext hE8)
      have hE9 := hEr.trans hE8
      clear hE8 hEr q0 q1 q2 q3 HA HBO
      by_cases hpr : rightV (.mk k0 sh n' l') = 0
      · have HRV4 := Lib.hid (show rv = (.mk k0 sh n' l', 0) by rw [HRV3.out, if_pos hpr])
        rw [hpr]
        clear hpr HRV3
        obtain ⟨q0, q1, q2, q3⟩ := HBO2.out.cell
        have hbz := HBr.out
        obtain ⟨x0, x1, x2, x3⟩ := hbz.cell
        have y0 := hbz.free 0
        have y1 := hbz.free 1
        have y2 := hbz.free 2
        have y3 := hbz.free 3
        obtain ⟨gg3, gg4, gg5⟩ := hbz.put4 (hE9) (by omega) (.int .i64 k0) (.slice ps sh.length cs) (.slice pa n'.length ca) (.slice pb l'.length cb)
        have hA9 : ArrAt (fun b => w.heap.size ≤ b) ((((w8.setCell ⟨w.heap.size + 1, 0, none⟩ (.int .i64 k0)).setCell ⟨w.heap.size + 1, 1, none⟩ (.slice ps sh.length cs)).setCell ⟨w.heap.size + 1, 2, none⟩ (.slice pa n'.length ca)).setCell ⟨w.heap.size + 1, 3, none⟩ (.slice pb l'.length cb)) (.mk k0 sh n' l') (.int .i64 k0) (.slice ps sh.length cs) (.slice pa n'.length ca) (.slice pb l'.length cb) := ArrAt.mono (fun b hb _ => ⟨by omega, gg5 b (by omega)⟩) _ _ _ _ _ HA2.out
        have HG := Lib.hid (And.intro gg3 (And.intro gg4 hA9))
        clear gg3 gg4 gg5 hA9 hbz
        go_wp2_with fail
        obtain ⟨gg3, gg4, hA9⟩ := HG.out
        clear HG
        revert gg3 gg4 hA9
        generalize ((((w8.setCell ⟨w.heap.size + 1, 0, none⟩ (.int .i64 k0)).setCell ⟨w.heap.size + 1, 1, none⟩ (.slice ps sh.length cs)).setCell ⟨w.heap.size + 1, 2, none⟩ (.slice pa n'.length ca)).setCell ⟨w.heap.size + 1, 3, none⟩ (.slice pb l'.length cb)) = w9
        intro gg3 gg4 hA9
        obtain ⟨z0, z1, z2, z3⟩ := gg4.cell
        refine bodyPost_ret (v := .tuple #[.agg #[.int .i64 k0, .slice ps sh.length cs, .slice pa n'.length ca, .slice pb l'.length cb], .int .i64 (0)]) ?_ rfl ⟨_, _, _, _, by rw [HRV4.out], by rw [HRV4.out]; exact hA9, gg3⟩
        simp [results, Try.results47, go_sem, z0, z1, z2, z3]
      · have HRV4 := Lib.hid (show rv = (Arr.zero, 21) by rw [HRV3.out, if_neg hpr])
        generalize rightV (.mk k0 sh n' l') = rr at *
        clear HRV3
        have hbz := HBr.out
        obtain ⟨x0, x1, x2, x3⟩ := hbz.cell
        have y0 := hbz.free 0
        have y1 := hbz.free 1
        have y2 := hbz.free 2
        have y3 := hbz.free 3
        obtain ⟨gg3, gg4, gg5⟩ := hbz.put4 (hE9) (by omega) (.int .i64 0) (.slice none 0 0) (.slice none 0 0) (.slice none 0 0)
        have hA9 : ArrAt (fun b => w.heap.size ≤ b) ((((w8.setCell ⟨w.heap.size + 1, 0, none⟩ (.int .i64 0)).setCell ⟨w.heap.size + 1, 1, none⟩ (.slice none 0 0)).setCell ⟨w.heap.size + 1, 2, none⟩ (.slice none 0 0)).setCell ⟨w.heap.size + 1, 3, none⟩ (.slice none 0 0)) (Arr.zero) (.int .i64 0) (.slice none 0 0) (.slice none 0 0) (.slice none 0 0) := Arr.zero_at _ _
        have HG := Lib.hid (And.intro gg3 (And.intro gg4 hA9))
        clear gg3 gg4 gg5 hA9 hbz
        go_wp2_with fail
        obtain ⟨gg3, gg4, hA9⟩ := HG.out
        clear HG
        revert gg3 gg4 hA9
        generalize ((((w8.setCell ⟨w.heap.size + 1, 0, none⟩ (.int .i64 0)).setCell ⟨w.heap.size + 1, 1, none⟩ (.slice none 0 0)).setCell ⟨w.heap.size + 1, 2, none⟩ (.slice none 0 0)).setCell ⟨w.heap.size + 1, 3, none⟩ (.slice none 0 0)) = w9
        intro gg3 gg4 hA9
        obtain ⟨z0, z1, z2, z3⟩ := gg4.cell
        refine bodyPost_ret (v := .tuple #[.agg #[.int .i64 0, .slice none 0 0, .slice none 0 0, .slice none 0 0], .int .i64 (21)]) ?_ rfl ⟨_, _, _, _, by rw [HRV4.out], by rw [HRV4.out]; exact hA9, gg3⟩
        simp [results, Try.results47, go_sem, z0, z1, z2, z3]

end Go.Proofs.Ytmpjnjhiklaofaa
