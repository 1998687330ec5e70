/-
  THE WALK of arraylangref25.Where. (Printed by gen_rwhere.py.)
-/
import Derived.Test.YtgkemmdghmklfaaM25B
import Derived.Test.YtgkemmdghmklfaaRRight
namespace Go.Proofs.Ytgkemmdghmklfaa
set_option linter.unusedSimpArgs false
set_option linter.unusedVariables false
open Go.RowKit

/-! ### The plain law -/
def tot : List Int → Nat
  | [] => 0
  | n :: r => n.toNat + tot r
def flatW : Nat → List Int → List Int
  | _, [] => []
  | i, n :: r => List.replicate n.toNat (i : Int) ++ flatW (i + 1) r
theorem flatW_len : ∀ (i : Nat) (l : List Int), (flatW i l).length = tot l
  | _, [] => rfl
  | i, n :: r => by rw [flatW, List.length_append, List.length_replicate, flatW_len (i + 1) r, tot]
theorem whGo_eq : ∀ (l : List Int) (i : Nat) (acc : List Int), (∀ n ∈ l, 0 ≤ n) → acc.length ≤ 65536 → whGo i l acc = if acc.length + tot l ≤ 65536 then some (acc ++ flatW i l) else none
  | [], i, acc, _, ha => by rw [whGo, tot, if_pos (by omega), flatW, List.append_nil]
  | n :: r, i, acc, h, ha => by
    have hn := h n (by simp)
    rw [whGo, tot]
    by_cases h1 : 65536 - (acc.length : Int) < n
    · rw [if_pos h1, if_neg (by omega)]
    · rw [if_neg h1, whGo_eq r (i + 1) _ (fun m hm => h m (by simp [hm])) (by rw [List.length_append, List.length_replicate]; omega), List.length_append, List.length_replicate, flatW, List.append_assoc]
      by_cases h2 : acc.length + (n.toNat + tot r) ≤ 65536
      · rw [if_pos h2, if_pos (by omega)]
      · rw [if_neg h2, if_neg (by omega)]
def rsum : List Int → Int → Int
  | [], s => s
  | n :: r, s => rsum r (if 65537 < s + (if 65537 < n then 65537 else n) then 65537 else s + (if 65537 < n then 65537 else n))
theorem rsum_eq : ∀ (l : List Int) (s : Int), (∀ n ∈ l, 0 ≤ n) → 0 ≤ s → s ≤ 65537 → rsum l s = if 65537 < s + tot l then 65537 else s + tot l
  | [], s, _, h0, h1 => by rw [rsum, tot, if_neg (by omega)]; omega
  | n :: r, s, h, h0, h1 => by
    have hn := h n (by simp)
    have hr := fun m (hm : m ∈ r) => h m (by simp [hm])
    rw [rsum, tot]
    have ih := fun s' a b => rsum_eq r s' hr a b
    by_cases a : 65537 < n
    · rw [if_pos a]
      by_cases b : 65537 < s + 65537
      · by_cases c : 65537 < 65537 + (tot r : Int)
        · rw [if_pos b, ih _ (by omega) (by omega), if_pos c, if_pos (by omega)]
        · rw [if_pos b, ih _ (by omega) (by omega), if_neg c, if_pos (by omega)]; omega
      · rw [if_neg b, ih _ (by omega) (by omega)]
        by_cases c : 65537 < s + 65537 + (tot r : Int)
        · rw [if_pos c, if_pos (by omega)]
        · rw [if_neg c, if_pos (by omega)]; omega
    · rw [if_neg a]
      by_cases b : 65537 < s + n
      · rw [if_pos b, ih _ (by omega) (by omega), if_pos (by omega : 65537 < s + ((n.toNat + tot r : Nat) : Int))]
        by_cases c : 65537 < 65537 + (tot r : Int)
        · rw [if_pos c]
        · rw [if_neg c]; omega
      · rw [if_neg b, ih _ (by omega) (by omega)]
        by_cases c : 65537 < s + n + (tot r : Int)
        · rw [if_pos c, if_pos (by omega)]
        · rw [if_neg c, if_neg (by omega)]; omega
theorem rsum_step {l : List Int} {i : Nat} (h : i < l.length) (s : Int) : rsum (l.drop i) s = rsum (l.drop (i + 1)) (if 65537 < s + (if 65537 < l.getD i 0 then 65537 else l.getD i 0) then 65537 else s + (if 65537 < l.getD i 0 then 65537 else l.getD i 0)) := by
  have e : l.drop i = l.getD i 0 :: l.drop (i + 1) := by rw [List.drop_eq_getElem_cons h]; simp [List.getD, h]
  rw [e, rsum]
theorem tot_app (a b : List Int) : tot (a ++ b) = tot a + tot b := by
  induction a with
  | nil => simp [tot]
  | cons x r ih => simp only [List.cons_append, tot, ih]; omega
theorem flatW_app (b : List Int) : ∀ (a : List Int) (i : Nat), flatW i (a ++ b) = flatW i a ++ flatW (i + a.length) b
  | [], i => by simp [flatW]
  | x :: r, i => by rw [List.cons_append, flatW, flatW, flatW_app b r (i + 1), List.append_assoc, List.length_cons, show i + 1 + r.length = i + (r.length + 1) by omega]
theorem flatW_snoc {l : List Int} {i : Nat} (h : i < l.length) : flatW 0 (l.take (i + 1)) = flatW 0 (l.take i) ++ List.replicate (l.getD i 0).toNat (i : Int) := by
  have e : l.take (i + 1) = l.take i ++ [l.getD i 0] := by rw [List.take_succ_eq_append_getElem h]; simp [List.getD, h]
  rw [e, flatW_app, List.length_take, Nat.zero_add, Nat.min_eq_left (by omega)]
  simp [flatW]
theorem tot_take {l : List Int} {i : Nat} (h : i < l.length) : tot (l.take i) + (l.getD i 0).toNat ≤ tot l := by
  have e : l.drop i = l.getD i 0 :: l.drop (i + 1) := by rw [List.drop_eq_getElem_cons h]; simp [List.getD, h]
  have h2 := tot_app (l.take i) (l.drop i)
  rw [List.take_append_drop, e, tot] at h2
  omega

set_option maxRecDepth 1000000 in
set_option maxHeartbeats 16000000 in
theorem rwhere_any (F : Nat → Prop) (y : Arr) (c0 c1 c2 c3 : Value) (w : World) (hy : ArrAt F w y c0 c1 c2 c3) :
    Calls Try.prog 67 #[.agg #[c0, c1, c2, c3]] w fun e w' => ∃ e0 e1 e2 e3, e = .returned (.tuple #[.agg #[e0, e1, e2, e3], .int .i64 (whereV y).2]) ∧ ArrAt (fun b => w.heap.size ≤ b) w' (whereV y).1 e0 e1 e2 e3 ∧ Ext w w' := by
  obtain ⟨ky, s, ns, it⟩ := y
  have hy' := hy
  unfold ArrAt at hy'
  obtain ⟨rfl, hky, ⟨p1, m1, rfl, ⟨r1, r1', r1''⟩, j1⟩, ⟨p2, m2, rfl, ⟨r2, r2', r2''⟩, j2⟩, ⟨p3, m3, rfl, ⟨r3, r3', r3''⟩, j3⟩⟩ := hy'
  have HV : Hid (whereV (.mk ky s ns it) = if rightV (.mk ky s ns it) ≠ 0 then ((Arr.zero, 1) : Arr × Int) else if ky ≠ 1 then (Arr.zero, 14) else if 1 < s.length then (Arr.zero, 15) else if ns.any isNeg = true then (Arr.zero, 17) else match whGo 0 ns [] with
    | none => (Arr.zero, 21)
    | some l => (vecV l, 0)) := rfl
  generalize whereV (.mk ky s ns it) = vv at *
  have HY := Lib.hid hy
  have HJ := Lib.hid j2
  clear hy j1 j2 j3
  go_enter Try.func67, Try.ntmps67
  have hE0 : Ext w ((w.alloc (.cells #[.int .i64 ky, .slice p1 s.length m1, .slice p2 ns.length m2, .slice p3 it.length m3] 26)).alloc (.cells #[.int .i64 0, .slice none 0 0, .slice none 0 0, .slice none 0 0] 26)) := ((Ext.refl _).alloc _).alloc _
  have hBY := (box_new w (.int .i64 ky) (.slice p1 s.length m1) (.slice p2 ns.length m2) (.slice p3 it.length m3)).ext ((Ext.refl _).alloc (.cells #[.int .i64 0, .slice none 0 0, .slice none 0 0, .slice none 0 0] 26))
  have hBT := box_new (w.alloc (.cells #[.int .i64 ky, .slice p1 s.length m1, .slice p2 ns.length m2, .slice p3 it.length m3] 26)) (.int .i64 0) (.slice none 0 0) (.slice none 0 0) (.slice none 0 0)
  simp only [World.size_alloc] at hBT
  have HE := Lib.hid hE0
  have HBY := Lib.hid hBY
  have HBT := Lib.hid hBT
  clear hE0 hBY hBT
  go_upto_region 1 with (fail)
  generalize ((w.alloc (.cells #[.int .i64 ky, .slice p1 s.length m1, .slice p2 ns.length m2, .slice p3 it.length m3] 26)).alloc (.cells #[.int .i64 0, .slice none 0 0, .slice none 0 0, .slice none 0 0] 26)) = w1 at *
  obtain ⟨s0, s1, s2, s3⟩ := HBY.out.cell
  have HRY := Lib.hid (rright6_any F _ _ _ _ _ w1 (HY.out.ext HE.out))
  go_wp2_with fail
  refine HRY.out.mono ?_
  rintro e w2 ⟨rfl, hE1⟩
  replace HE := Lib.hid (HE.out.trans hE1)
  replace HBY := Lib.hid (HBY.out.ext hE1)
  replace HBT := Lib.hid (HBT.out.ext hE1)
  clear hE1 s0 s1 s2 s3 HRY
  generalize hr : rightV (.mk ky s ns it) = ry at *
  by_cases h1 : ry = 0
  rotate_left
  · have h1' : (ry != 0) = true := by simpa using h1
    have hv := HV.out
    rw [if_pos h1] at hv
    have HV2 := Lib.hid hv
    clear h1 HV hv hr
    obtain ⟨t0, t1, t2, t3⟩ := HBT.out.cell
    have y0 := HBT.out.free 0
    have y1 := HBT.out.free 1
    have y2 := HBT.out.free 2
    have y3 := HBT.out.free 3
    go_wp2_with fail
    obtain ⟨g1, g2, g3⟩ := HBT.out.put4 HE.out (by omega) (.int .i64 0) (.slice none 0 0) (.slice none 0 0) (.slice none 0 0)
    revert g1 g2 g3
    generalize ((((w2.setCell ⟨w.heap.size + 1, 0, none⟩ (.int .i64 0)).setCell ⟨w.heap.size + 1, 1, none⟩ (.slice none 0 0)).setCell ⟨w.heap.size + 1, 2, none⟩ (.slice none 0 0)).setCell ⟨w.heap.size + 1, 3, none⟩ (.slice none 0 0)) = w9
    intro g1 g2 g3
    obtain ⟨z0, z1, z2, z3⟩ := g2.cell
    (try simp only [Exit.noGoto])
    refine bodyPost_ret (v := .tuple #[.agg #[(.int .i64 0), (.slice none 0 0), (.slice none 0 0), (.slice none 0 0)], .int .i64 1]) ?_ rfl ⟨_, _, _, _, by rw [HV2.out], by rw [HV2.out]; exact Arr.zero_at _ _, g1⟩
    simp [results, Try.results67, go_sem, z0, z1, z2, z3]
  have hv := HV.out
  rw [if_neg (by rw [h1]; simp)] at hv
  replace HV := Lib.hid hv
  have hN6 : ns.length ≤ 65536 := by
    rw [h1] at hr
    obtain ⟨_, _, _, hq, hq2⟩ := right_parts hr
    have := shapeSize_hi s
    by_cases hk : ky = 3
    · have := hq2 hk; rw [this.1]; simp
    · have := hq hk; omega
  subst h1
  clear hv hr
  obtain ⟨s0, s1, s2, s3⟩ := HBY.out.cell
  by_cases h1 : ky = 1
  rotate_left
  · have h1' : (ky != 1) = true := by simpa using h1
    have hv := HV.out
    rw [if_pos h1] at hv
    have HV2 := Lib.hid hv
    clear h1 HV hv
    obtain ⟨t0, t1, t2, t3⟩ := HBT.out.cell
    have y0 := HBT.out.free 0
    have y1 := HBT.out.free 1
    have y2 := HBT.out.free 2
    have y3 := HBT.out.free 3
    go_wp2_with fail
    obtain ⟨g1, g2, g3⟩ := HBT.out.put4 HE.out (by omega) (.int .i64 0) (.slice none 0 0) (.slice none 0 0) (.slice none 0 0)
    revert g1 g2 g3
    generalize ((((w2.setCell ⟨w.heap.size + 1, 0, none⟩ (.int .i64 0)).setCell ⟨w.heap.size + 1, 1, none⟩ (.slice none 0 0)).setCell ⟨w.heap.size + 1, 2, none⟩ (.slice none 0 0)).setCell ⟨w.heap.size + 1, 3, none⟩ (.slice none 0 0)) = w9
    intro g1 g2 g3
    obtain ⟨z0, z1, z2, z3⟩ := g2.cell
    (try simp only [Exit.noGoto])
    refine bodyPost_ret (v := .tuple #[.agg #[(.int .i64 0), (.slice none 0 0), (.slice none 0 0), (.slice none 0 0)], .int .i64 14]) ?_ rfl ⟨_, _, _, _, by rw [HV2.out], by rw [HV2.out]; exact Arr.zero_at _ _, g1⟩
    simp [results, Try.results67, go_sem, z0, z1, z2, z3]
  have hv := HV.out
  rw [if_neg (by rw [h1]; simp)] at hv
  replace HV := Lib.hid hv
  subst h1
  clear hv
  by_cases h1 : 1 < s.length
  · have hv := HV.out
    rw [if_pos h1] at hv
    have HV2 := Lib.hid hv
    clear HV hv
    obtain ⟨t0, t1, t2, t3⟩ := HBT.out.cell
    have y0 := HBT.out.free 0
    have y1 := HBT.out.free 1
    have y2 := HBT.out.free 2
    have y3 := HBT.out.free 3
    go_wp2_with fail
    obtain ⟨g1, g2, g3⟩ := HBT.out.put4 HE.out (by omega) (.int .i64 0) (.slice none 0 0) (.slice none 0 0) (.slice none 0 0)
    revert g1 g2 g3
    generalize ((((w2.setCell ⟨w.heap.size + 1, 0, none⟩ (.int .i64 0)).setCell ⟨w.heap.size + 1, 1, none⟩ (.slice none 0 0)).setCell ⟨w.heap.size + 1, 2, none⟩ (.slice none 0 0)).setCell ⟨w.heap.size + 1, 3, none⟩ (.slice none 0 0)) = w9
    intro g1 g2 g3
    obtain ⟨z0, z1, z2, z3⟩ := g2.cell
    (try simp only [Exit.noGoto])
    refine bodyPost_ret (v := .tuple #[.agg #[(.int .i64 0), (.slice none 0 0), (.slice none 0 0), (.slice none 0 0)], .int .i64 15]) ?_ rfl ⟨_, _, _, _, by rw [HV2.out], by rw [HV2.out]; exact Arr.zero_at _ _, g1⟩
    simp [results, Try.results67, go_sem, z0, z1, z2, z3]
  have hv := HV.out
  rw [if_neg h1] at hv
  replace HV := Lib.hid hv
  clear hv
  obtain ⟨n, hn⟩ : ∃ n, ns.length = n := ⟨_, rfl⟩
  have HN := Lib.hid hn
  rw [hn] at hN6 HBY ⊢
  clear hn s0 s1 s2 s3
  obtain ⟨s0, s1, s2, s3⟩ := HBY.out.cell
  go_wp2_with fail
  go_loopw [4, 5] (fun sv iv wr => ∃ (i : Nat) (sm : Int), i ≤ n ∧ sv = .int .i64 sm ∧ iv = .int .i64 (i : Int) ∧ 0 ≤ sm ∧ sm ≤ 65537 ∧ Hid (rsum (ns.drop i) sm = rsum ns 0) ∧ Hid (∀ j, j < i → 0 ≤ ns.getD j 0) ∧ Hid (Ext w2 wr)) (fun _ iv _ => n - (intOf iv).toNat)
  case atStart => exact ⟨0, 0, Nat.zero_le _, rfl, rfl, by omega, by omega, by rw [List.drop_zero]; rfl, fun j hj => by omega, Ext.refl _⟩
  case round =>
  obtain ⟨i, sm, hin, rfl, rfl, hs0, hs1, HG, HNN, HEr⟩ := hrel
  clear s0 s1 s2 s3
  obtain ⟨s0, s1, s2, s3⟩ := (HBY.out.ext HEr.out).cell
  by_cases hlt : i < n
  · have hil : i < ns.length := by rw [HN.out]; exact hlt
    obtain ⟨bx, ox, rfl, cx, wx0, wx1⟩ := (HJ.out.ext (HE.out.trans HEr.out)).get hil
    have HST := Lib.hid (rsum_step hil sm)
    have HANY := Lib.hid (fun (h : ns.getD i 0 < 0) => show ns.any isNeg = true from List.any_eq_true.2 ⟨ns.getD i 0, by simp [List.getD, hil], by simpa [isNeg] using h⟩)
    have HNN2 := Lib.hid (fun (h : 0 ≤ ns.getD i 0) (j : Nat) (hj : j < i + 1) => show 0 ≤ ns.getD j 0 from by
      by_cases e : j = i
      · rw [e]; exact h
      · exact HNN.out j (by omega))
    generalize ns.getD i 0 = x at *
    clear hil
    by_cases hneg : x < 0
    · have hv := HV.out
      rw [if_pos (HANY.out hneg)] at hv
      have HV2 : Hid (vv = (Arr.zero, 17)) := hv
      have HB2 := Lib.hid (HBT.out.ext HEr.out)
      have HE2 := Lib.hid (HE.out.trans HEr.out)
      clear HV hv HG HST HBT HE HANY HNN2
      have HBT := HB2
      have HE := HE2
      clear HB2 HE2
      obtain ⟨t0, t1, t2, t3⟩ := HBT.out.cell
      have y0 := HBT.out.free 0
      have y1 := HBT.out.free 1
      have y2 := HBT.out.free 2
      have y3 := HBT.out.free 3
      go_wp2_with fail
      obtain ⟨g1, g2, g3⟩ := HBT.out.put4 HE.out (by omega) (.int .i64 0) (.slice none 0 0) (.slice none 0 0) (.slice none 0 0)
      revert g1 g2 g3
      generalize ((((wr.setCell ⟨w.heap.size + 1, 0, none⟩ (.int .i64 0)).setCell ⟨w.heap.size + 1, 1, none⟩ (.slice none 0 0)).setCell ⟨w.heap.size + 1, 2, none⟩ (.slice none 0 0)).setCell ⟨w.heap.size + 1, 3, none⟩ (.slice none 0 0)) = w9
      intro g1 g2 g3
      obtain ⟨z0, z1, z2, z3⟩ := g2.cell
      (try simp only [Exit.noGoto])
      refine bodyPost_ret (v := .tuple #[.agg #[(.int .i64 0), (.slice none 0 0), (.slice none 0 0), (.slice none 0 0)], .int .i64 17]) ?_ rfl ⟨_, _, _, _, by rw [HV2.out], by rw [HV2.out]; exact Arr.zero_at _ _, g1⟩
      simp [results, Try.results67, go_sem, z0, z1, z2, z3]
    have HNN3 := Lib.hid (HNN2.out (by omega))
    obtain ⟨y, hy⟩ : ∃ y, (if 65537 < x then (65537 : Int) else x) = y := ⟨_, rfl⟩
    have hyb : 0 ≤ y ∧ y ≤ 65537 := by rw [← hy]; split <;> omega
    obtain ⟨z, hz⟩ : ∃ z, (if 65537 < sm + y then (65537 : Int) else sm + y) = z := ⟨_, rfl⟩
    have hzb : 0 ≤ z ∧ z ≤ 65537 := by rw [← hz]; split <;> omega
    rw [hy, hz] at HST
    have HG2 : Hid (rsum (ns.drop (i + 1)) z = rsum ns 0) := by unfold Hid; rw [← HST.out]; exact HG.out
    have HZ := Lib.hid hz
    have HY2 := Lib.hid hy
    clear HG HST HANY HNN2 hy hz
    go_wp2_with fail
    (try rw [HY2.out])
    (try rw [HZ.out])
    go_roundw
    case rel => exact ⟨i + 1, z, by omega, by first | rfl | rw [HY2.out, HZ.out], by go_num, hzb.1, hzb.2, HG2, HNN3, HEr⟩
    case measure => simp [intOf]; omega
  have hin2 : n = i := by omega
  subst hin2
  have hnn : ∀ m ∈ ns, 0 ≤ m := fun m hm => by
    obtain ⟨j, hj, rfl⟩ := List.getElem_of_mem hm
    have := HNN.out j (by rw [← HN.out]; exact hj)
    simpa [List.getD, hj] using this
  have hsm : sm = if 65537 < (tot ns : Int) then 65537 else (tot ns : Int) := by
    have h1 := HG.out
    rw [List.drop_of_length_le (by rw [HN.out]; exact Nat.le_refl _), rsum, rsum_eq ns 0 hnn (by omega) (by omega)] at h1
    simpa using h1
  have hany : ns.any isNeg = false := by
    rw [List.any_eq_false]
    intro m hm
    have := hnn m hm
    simp [isNeg]; omega
  have hwg := whGo_eq ns 0 [] hnn (by simp)
  simp only [List.length_nil, List.nil_append, Nat.zero_add] at hwg
  have hv := HV.out
  rw [hany, if_neg (by simp), hwg] at hv
  obtain ⟨tt, htt⟩ : ∃ tt, tot ns = tt := ⟨_, rfl⟩
  rw [htt] at hsm hv
  have HTT := Lib.hid htt
  have HNN9 := Lib.hid hnn
  clear hany hwg htt hnn HG HNN HV hlt
  by_cases hbig : 65536 < sm
  · have hn2 : ¬ tt ≤ 65536 := by
      rw [hsm] at hbig
      split at hbig <;> omega
    rw [if_neg hn2] at hv
    have HV2 : Hid (vv = (Arr.zero, 21)) := hv
    have HB2 := Lib.hid (HBT.out.ext HEr.out)
    have HE2 := Lib.hid (HE.out.trans HEr.out)
    clear hv HBT HE hsm hn2
    have HBT := HB2
    have HE := HE2
    clear HB2 HE2
    obtain ⟨t0, t1, t2, t3⟩ := HBT.out.cell
    have y0 := HBT.out.free 0
    have y1 := HBT.out.free 1
    have y2 := HBT.out.free 2
    have y3 := HBT.out.free 3
    go_wp2_with fail
    obtain ⟨g1, g2, g3⟩ := HBT.out.put4 HE.out (by omega) (.int .i64 0) (.slice none 0 0) (.slice none 0 0) (.slice none 0 0)
    revert g1 g2 g3
    generalize ((((wr.setCell ⟨w.heap.size + 1, 0, none⟩ (.int .i64 0)).setCell ⟨w.heap.size + 1, 1, none⟩ (.slice none 0 0)).setCell ⟨w.heap.size + 1, 2, none⟩ (.slice none 0 0)).setCell ⟨w.heap.size + 1, 3, none⟩ (.slice none 0 0)) = w9
    intro g1 g2 g3
    obtain ⟨z0, z1, z2, z3⟩ := g2.cell
    (try simp only [Exit.noGoto])
    refine bodyPost_ret (v := .tuple #[.agg #[(.int .i64 0), (.slice none 0 0), (.slice none 0 0), (.slice none 0 0)], .int .i64 21]) ?_ rfl ⟨_, _, _, _, by rw [HV2.out], by rw [HV2.out]; exact Arr.zero_at _ _, g1⟩
    simp [results, Try.results67, go_sem, z0, z1, z2, z3]
  have htt6 : tt ≤ 65536 := by
    rw [hsm] at hbig
    split at hbig <;> omega
  have hsm2 : sm = (tt : Int) := by rw [hsm, if_neg (by omega)]
  rw [if_pos htt6] at hv
  have HV2 : Hid (vv = (vecV (flatW 0 ns), 0)) := hv
  have HFL : Hid ((flatW 0 ns).length = tt) := by unfold Hid; rw [flatW_len, HTT.out]
  subst hsm2
  clear hv hsm
  have hEr := HEr.out
  have HYr := Lib.hid (HBY.out.ext HEr.out)
  have HTr := Lib.hid (HBT.out.ext HEr.out)
  have HEw := Lib.hid (HE.out.trans HEr.out)
  obtain ⟨w4, rfl⟩ : ∃ wx : World, wx = wr := ⟨_, rfl⟩
  have g1 : Ext w4 ((w4.alloc (.cells #[.int .i64 (tt : Int)] 3)).alloc (.cells #[.int .i64 1, .slice (some ⟨w4.heap.size, 0, none⟩) 1 1, .slice none 0 0, .slice none 0 0] 26)) := ((Ext.refl _).alloc _).alloc _
  have g2 := box_new (w4.alloc (.cells #[.int .i64 (tt : Int)] 3)) (.int .i64 1) (.slice (some ⟨w4.heap.size, 0, none⟩) 1 1) (.slice none 0 0) (.slice none 0 0)
  have g3 := (rowI_new w4 [(tt : Int)])
  rw [World.size_alloc] at g2
  have g4 : RowI ((w4.alloc (.cells #[.int .i64 (tt : Int)] 3)).alloc (.cells #[.int .i64 1, .slice (some ⟨w4.heap.size, 0, none⟩) 1 1, .slice none 0 0, .slice none 0 0] 26)) w4.heap.size [(tt : Int)] := RowI.ext g3 ((Ext.refl _).alloc _)
  have hsz : ((w4.alloc (.cells #[.int .i64 (tt : Int)] 3)).alloc (.cells #[.int .i64 1, .slice (some ⟨w4.heap.size, 0, none⟩) 1 1, .slice none 0 0, .slice none 0 0] 26)).heap.size = w4.heap.size + 1 + 1 := by simp
  have HG1 := Lib.hid g1
  have HG2 := Lib.hid g2
  have HG4 := Lib.hid g4
  have HSZ := Lib.hid hsz
  clear g1 g2 g3 g4 hsz hEr HE HBT HBY
  go_upto_region 17 with (fail)
  clear s0 s1 s2 s3
  generalize (w4.alloc (.cells #[.int .i64 (tt : Int)] 3)).alloc (.cells #[.int .i64 1, .slice (some ⟨w4.heap.size, 0, none⟩) 1 1, .slice none 0 0, .slice none 0 0] 26) = w5 at *
  obtain ⟨br, hbr⟩ : ∃ br, w4.heap.size = br := ⟨_, rfl⟩
  have HBR := Lib.hid hbr
  rw [hbr] at HG2 HG4 HSZ ⊢
  clear hbr
  have hM0 : MkB w4 w5 (fun x => x = br + 1 ∨ x = br) (br + 1) 1 (.slice (some ⟨br, 0, none⟩) 1 1) (.slice none 0 0) (.slice none 0 0) [] [] :=
    MkB.fresh HG1.out (by rw [HBR.out]; exact Nat.le_succ _) HG2.out (.inl rfl) (fun x hx => by
      have h1 := HSZ.out
      rcases hx with rfl | rfl <;> omega)
  have HM0 := Lib.hid hM0
  clear hM0 HG1 HG2
  go_wp2_with fail
  go_loopw [7] (fun iv wr => ∃ (i : Nat) (v2 : Value), i ≤ n ∧ iv = .int .i64 (i : Int) ∧ Hid (MkB w4 wr (fun x => x = br + 1 ∨ x = br) (br + 1) 1 (.slice (some ⟨br, 0, none⟩) 1 1) v2 (.slice none 0 0) (flatW 0 (ns.take i)) []) ∧ Hid (RowI wr br [(tt : Int)])) (fun iv _ => n - (intOf iv).toNat)
  case atStart => exact ⟨0, _, Nat.zero_le _, rfl, by rw [List.take_zero]; exact HM0, HG4⟩
  case round =>
  obtain ⟨i, v2, hin, rfl, HM, HR⟩ := hrel
  clear HM0 HG4
  obtain ⟨s0, s1, s2, s3⟩ := (HYr.out.ext HM.out.ext).cell
  by_cases hlt : i < n
  · have hil : i < ns.length := by rw [HN.out]; exact hlt
    have hmem : ns.getD i 0 ∈ ns := by simp [List.getD, hil]
    have hx0 := HNN9.out _ hmem
    have hsn := flatW_snoc hil
    have htk := tot_take hil
    obtain ⟨xn, hxn⟩ : ∃ xn : Nat, ns.getD i 0 = xn := ⟨(ns.getD i 0).toNat, by omega⟩
    rw [hxn, Int.toNat_natCast] at hsn htk
    rw [HTT.out] at htk
    have HSN := Lib.hid hsn
    have HFT : Hid ((flatW 0 (ns.take i)).length + xn ≤ tt) := by unfold Hid; rw [flatW_len]; exact htk
    have HXN := Lib.hid hxn
    obtain ⟨wo, rfl⟩ : ∃ wx : World, wx = wr := ⟨_, rfl⟩
    clear hmem hx0 hsn htk hxn hil
    go_wp2_with fail
    go_loopw [8] (fun kv wq => ∃ (k : Nat) (v2 : Value), k ≤ xn ∧ kv = .int .i64 (k : Int) ∧ Hid (MkB w4 wq (fun x => x = br + 1 ∨ x = br) (br + 1) 1 (.slice (some ⟨br, 0, none⟩) 1 1) v2 (.slice none 0 0) (flatW 0 (ns.take i) ++ List.replicate k (i : Int)) []) ∧ Hid (RowI wq br [(tt : Int)])) (fun kv _ => xn - (intOf kv).toNat)
    case atStart => exact ⟨0, _, Nat.zero_le _, rfl, by rw [List.replicate_zero, List.append_nil]; exact HM, HR⟩
    case round =>
    obtain ⟨k, v2, hkx, rfl, HM2, HR2⟩ := hrel
    clear HM HR s0 s1 s2 s3
    obtain ⟨s0, s1, s2, s3⟩ := (HYr.out.ext HM2.out.ext).cell
    have hil : i < ns.length := by rw [HN.out]; exact hlt
    obtain ⟨bx, ox, rfl, cx, wx0, wx1⟩ := (HJ.out.ext (HEw.out.trans HM2.out.ext)).get hil
    rw [HXN.out] at cx wx0 wx1
    clear hil
    by_cases hk : k < xn
    rotate_left
    · have hke : k = xn := by omega
      subst hke
      have HM3 := HM2
      rw [← HSN.out] at HM3
      clear HM2
      go_wp2_with fail
      go_roundw
      case rel => exact ⟨i + 1, _, by omega, by go_num, HM3, HR2⟩
      case measure => simp [intOf]; omega
    have HRP : Hid (flatW 0 (ns.take i) ++ List.replicate (k + 1) (i : Int) = (flatW 0 (ns.take i) ++ List.replicate k (i : Int)) ++ [(i : Int)]) := by
      unfold Hid
      rw [List.append_assoc, ← List.replicate_succ']
    have HRL : Hid ((flatW 0 (ns.take i) ++ List.replicate k (i : Int)).length ≤ tt) := by
      unfold Hid
      rw [List.length_append, List.length_replicate]
      have := HFT.out; omega
    generalize flatW 0 (ns.take i) ++ List.replicate k (i : Int) = nn at *
    have hM2 := HM2.out
    have hnlen : nn.length < 17592186044416 := by have := HRL.out; omega
    have hvb : -9223372036854775808 ≤ (i : Int) ∧ (i : Int) ≤ 9223372036854775807 := by omega
    obtain ⟨pv, cv, rfl, _⟩ := hM2.on.form
    have HR3 := Lib.hid (fun (W : World) (h : W.heap[br]? = wr.heap[br]?) => show RowI W br [(tt : Int)] from RowI.kept HR2.out h)
    have HBLT := Lib.hid (show br < wr.heap.size from HM2.out.xl br (.inr rfl))
    clear HM2 HR2
    obtain ⟨t0, t1, t2, t3⟩ := hM2.box.cell
    have hEn : Ext wr (wr.alloc (.cells #[.int .i64 (i : Int)] 3)) := (Ext.refl _).alloc _
    have hnc : (wr.alloc (.cells #[.int .i64 (i : Int)] 3)).cell? ⟨wr.heap.size, 0, none⟩ = some (.int .i64 (i : Int)) := by simp
    have hM7 := hM2.next hEn
    have HM7 := Lib.hid hM7
    have HEN := Lib.hid hEn
    clear hM7 hEn hM2
    go_wp2_with (at_builtin; refine wpList_append_int rfl _ _ rfl w4.heap.size _ (.slice pv nn.length cv) nn.length nn (i : Int) rfl HM7.out.on ⟨wr.heap.size, 0, none⟩ 1 rfl hnc HM7.out.xl2 hvb (by omega) HM7.out.ext.lt ?_)
    intro g cap w8 hon8 hgrow hat8 _ _
    obtain ⟨q1, q2, q3⟩ := HM7.out.grownN hgrow
    clear t0 t1 t2 t3 hnc
    obtain ⟨_, _, t2, _⟩ := q2.cell
    have tf := q2.free 2
    obtain ⟨hM8, hfar⟩ := HM7.out.storedN (n' := nn ++ [(i : Int)]) hgrow (by simp) hon8 (by simpa using hat8)
    have HM8 := Lib.hid hM8
    have HFAR := Lib.hid hfar
    clear HM7 hon8 hgrow hat8 q1 q2 q3 hM8 hfar
    go_wp2_with fail
    obtain hM8 := HM8.out
    obtain hfar := HFAR.out
    obtain hEn := HEN.out
    clear HM8 HFAR HEN t2 tf
    have HR4 := Lib.hid (HR3.out _ ((hfar br (.inr rfl) (by omega)).trans (hEn.block HBLT.out)))
    have HM8 := Lib.hid hM8
    clear hM8 hfar hEn HR3
    rw [← HRP.out] at HM8
    go_wp2_with fail
    go_roundw
    case rel => exact ⟨k + 1, _, by omega, by go_num, HM8, HR4⟩
    case measure => simp [intOf]; omega
  have hin2 : n = i := by omega
  subst hin2
  have hMM := HM.out
  rw [List.take_of_length_le (by rw [HN.out]; exact Nat.le_refl _)] at hMM
  have hA := MkB.arr (G := fun x => x = br) (s := [(tt : Int)]) hMM (by decide) ⟨_, _, rfl, ⟨Nat.le_refl _, by simp, by simp⟩, RowI.ints HR.out (by simp; omega)⟩ (by simp)
  obtain ⟨pv, cv, rfl, _⟩ := hMM.on.form
  have HA := Lib.hid hA
  have HB6 := Lib.hid hMM.box
  have HTr2 := Lib.hid (HTr.out.ext hMM.ext)
  have HE9 := Lib.hid (HEw.out.trans hMM.ext)
  have HLT := Lib.hid (show w.heap.size + 1 < br by have := HTr.out.lt; have := HBR.out; omega)
  clear hMM hA HM HR HTr HYr
  obtain ⟨t0, t1, t2, t3⟩ := HTr2.out.cell
  have y0 := HTr2.out.free 0
  have y1 := HTr2.out.free 1
  have y2 := HTr2.out.free 2
  have y3 := HTr2.out.free 3
  obtain ⟨u0, u1, u2, u3⟩ := HB6.out.cell
  go_wp2_with fail
  obtain ⟨g1, g2, g3⟩ := HTr2.out.put4 HE9.out (by omega) (.int .i64 1) (.slice (some ⟨br, 0, none⟩) 1 1) (.slice pv (flatW 0 ns).length cv) (.slice none 0 0)
  have hA9 := ArrAt.mono (G := fun b => w.heap.size ≤ b) (w' := ((((wr.setCell ⟨w.heap.size + 1, 0, none⟩ (.int .i64 1)).setCell ⟨w.heap.size + 1, 1, none⟩ (.slice (some ⟨br, 0, none⟩) 1 1)).setCell ⟨w.heap.size + 1, 2, none⟩ (.slice pv (flatW 0 ns).length cv)).setCell ⟨w.heap.size + 1, 3, none⟩ (.slice none 0 0))) (fun b hb _ => by
    have h1 := HLT.out
    have h2 := HBR.out
    rcases hb with hb | hb
    · exact ⟨by have := hb.1; omega, g3 b (by have := hb.1; omega)⟩
    · exact ⟨by omega, g3 b (by omega)⟩) _ _ _ _ _ HA.out
  revert g1 g2 g3 hA9
  generalize ((((wr.setCell ⟨w.heap.size + 1, 0, none⟩ (.int .i64 1)).setCell ⟨w.heap.size + 1, 1, none⟩ (.slice (some ⟨br, 0, none⟩) 1 1)).setCell ⟨w.heap.size + 1, 2, none⟩ (.slice pv (flatW 0 ns).length cv)).setCell ⟨w.heap.size + 1, 3, none⟩ (.slice none 0 0)) = w9
  intro g1 g2 g3 hA9
  obtain ⟨x0, x1, x2, x3⟩ := g2.cell
  refine bodyPost_ret (v := .tuple #[.agg #[.int .i64 1, .slice (some ⟨br, 0, none⟩) 1 1, .slice pv (flatW 0 ns).length cv, .slice none 0 0], .int .i64 0]) ?_ rfl ⟨_, _, _, _, by rw [HV2.out], by rw [HV2.out]; unfold vecV; rw [HFL.out] at hA9 ⊢; exact hA9, g1⟩
  simp [results, Try.results67, go_sem, x0, x1, x2, x3]
end Go.Proofs.Ytgkemmdghmklfaa
