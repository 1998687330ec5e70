/-
  THE WALK of searching.search. (Printed by gen_search.py.) (Merged: BsLaw, OrdM, Find, Find2, CFrmN, Search.)
-/
import Derived.Test.YtgkemmdghmklfaaSRT
import Derived.Test.YtgkemmdghmklfaaSame
import Derived.Test.YtgkemmdghmklfaaOrdLaw
import Derived.Test.YtgkemmdghmklfaaRegY
import Derived.Test.YtgkemmdghmklfaaM25C
import Derived.Test.YtgkemmdghmklfaaMkB
namespace Go.Proofs.Ytgkemmdghmklfaa
set_option linter.unusedVariables false
set_option linter.unusedSimpArgs false

/-- The number of the first array that is q, or the length. -/
def placeV (L : List Arr) (q : Arr) : Nat := L.findIdx fun t => sameV t q
theorem placeV_le (L : List Arr) (q : Arr) : placeV L q ≤ L.length := List.findIdx_le_length
/-- The comparison with q, by index. -/
def cmpQ (m : Nat) (L : List Arr) (q : Arr) (x : Int) : Int := cmpF m (L.getD x.toNat default) q
theorem insAll_getD_lt {c : Int → Int → Int} {n a : Nat} (h : a < n) : ∃ k : Nat, k < n ∧ (insAll c n).getD a 0 = (k : Int) := by
  have hl : (insAll c n).length = n := by rw [(insAll_perm c n).length_eq, idxs_length]
  have hm : (insAll c n).getD a 0 ∈ insAll c n := by simp [List.getD, hl, h]
  have := idxs_mem.1 ((insAll_perm c n).mem_iff.1 hm)
  exact ⟨((insAll c n).getD a 0).toNat, by omega, by omega⟩
theorem insAll_at {c : Int → Int → Int} {n k : Nat} (h : k < n) : ∃ a, a < n ∧ (insAll c n).getD a 0 = (k : Int) := by
  have hl : (insAll c n).length = n := by rw [(insAll_perm c n).length_eq, idxs_length]
  have hm : (k : Int) ∈ insAll c n := (insAll_perm c n).mem_iff.2 (idxs_mem.2 (by omega))
  obtain ⟨a, ha, e⟩ := getD_of_mem hm
  exact ⟨a, by omega, e⟩
theorem insAll_bef {c : Int → Int → Int} (h : POrd c) {n a b : Nat} (hab : a < b) (hb : b < n) : Bef c id ((insAll c n).getD a 0) ((insAll c n).getD b 0) :=
  srt_get (insAll_pw h n) hab (by rw [(insAll_perm c n).length_eq, idxs_length]; exact hb)
theorem cmpQ_mono {m : Nat} {L : List Arr} {q : Arr} {a b : Nat} (hab : a ≤ b) (hb : b < L.length) (h : cmpQ m L q ((insAll (cmpM m L) L.length).getD b 0) < 0) : cmpQ m L q ((insAll (cmpM m L) L.length).getD a 0) < 0 := by
  by_cases e : a = b
  · rw [e]; exact h
  · have hbef := insAll_bef (cmpM_ord m L) (show a < b by omega) hb
    generalize (insAll (cmpM m L) L.length).getD a 0 = x at *
    generalize (insAll (cmpM m L) L.length).getD b 0 = y at *
    have h1 : cmpM m L x y ≤ 0 := by rcases hbef with h | h <;> omega
    have h2 := (cmpF_t3 m (L.getD x.toNat default) (L.getD y.toNat default) q).2.1
    exact h2 h1 h
/-- What the search finds. -/
theorem place_of {m : Nat} {L : List Arr} {q : Arr} (hr : ∀ t ∈ L, rightV t = 0) (hm : ∀ t ∈ L, szA t < m) (hq : rightV q = 0) {i : Nat}
    (h1 : ∀ h, h < i → cmpQ m L q ((insAll (cmpM m L) L.length).getD h 0) < 0) (h2 : ∀ h, i ≤ h → h < L.length → 0 ≤ cmpQ m L q ((insAll (cmpM m L) L.length).getD h 0)) :
    (i < L.length → cmpQ m L q ((insAll (cmpM m L) L.length).getD i 0) = 0 → (insAll (cmpM m L) L.length).getD i 0 = (placeV L q : Int)) ∧ (¬ (i < L.length ∧ cmpQ m L q ((insAll (cmpM m L) L.length).getD i 0) = 0) → placeV L q = L.length) := by
  have hz : ∀ k, k < L.length → cmpQ m L q (k : Int) = 0 → L.getD k default = q := fun k hk h => by
    have hmem : L.getD k default ∈ L := by simp [List.getD, hk]
    exact cmpF_zero m _ _ (hm _ hmem) (hr _ hmem) hq (by simpa [cmpQ] using h)
  have hz2 : ∀ k, k < L.length → L.getD k default = q → cmpQ m L q (k : Int) = 0 := fun k hk h => by
    have : cmpQ m L q (k : Int) = cmpF m (L.getD k default) q := by simp [cmpQ]
    rw [this, h, cmpF_self]
  constructor
  · intro hi h0
    obtain ⟨k, hk, e⟩ := insAll_getD_lt (c := cmpM m L) hi
    rw [e] at h0 ⊢
    have hkq := hz k hk h0
    have hpl : placeV L q = k := by
      unfold placeV
      rw [List.findIdx_eq hk]
      have hk2 : L[k] = L.getD k default := by simp [List.getD, hk]
      refine ⟨by rw [hk2, sameV_eq]; exact hkq, fun j hj => ?_⟩
      have hjl : j < L.length := by omega
      have hj2 : L[j] = L.getD j default := by simp [List.getD, hjl]
      rw [hj2]
      by_cases hs : sameV (L.getD j default) q = true
      · exfalso
        have hjq := (sameV_eq _ _).1 hs
        obtain ⟨a, ha, ea⟩ := insAll_at (c := cmpM m L) hjl
        have hja : ¬ a < i := fun hlt => by
          have := h1 a hlt
          rw [ea, hz2 j hjl hjq] at this
          omega
        by_cases hai : a = i
        · rw [hai, e] at ea; omega
        · have hb := insAll_bef (cmpM_ord m L) (show i < a by omega) ha
          rw [e, ea] at hb
          have hc : cmpM m L (k : Int) (j : Int) = 0 := by
            have : cmpM m L (k : Int) (j : Int) = cmpF m (L.getD k default) (L.getD j default) := by simp [cmpM]
            rw [this, hkq, hjq, cmpF_self]
          rcases hb with hb | ⟨_, hb⟩
          · omega
          · simp only [id] at hb; omega
      · simpa using hs
    rw [hpl]
  · intro hn
    unfold placeV
    rw [List.findIdx_eq_length]
    intro t ht
    obtain ⟨k, hk, rfl⟩ := List.getElem_of_mem ht
    by_cases hs : sameV L[k] q = true
    · exfalso
      have hk2 : L[k] = L.getD k default := by simp [List.getD, hk]
      have hkq := (sameV_eq _ _).1 hs
      rw [hk2] at hkq
      have h0 := hz2 k hk hkq
      obtain ⟨a, ha, ea⟩ := insAll_at (c := cmpM m L) hk
      have hja : ¬ a < i := fun hlt => by
        have := h1 a hlt
        rw [ea, h0] at this
        omega
      have hil : i < L.length := by omega
      by_cases hai : a = i
      · exact hn ⟨hil, by rw [← hai, ea]; exact h0⟩
      · have hb := insAll_bef (cmpM_ord m L) (show i < a by omega) ha
        have hge := h2 i (Nat.le_refl _) hil
        obtain ⟨k2, hk2', e2⟩ := insAll_getD_lt (c := cmpM m L) hil
        rw [e2] at hge hn
        rw [e2, ea] at hb
        have hle : cmpM m L (k2 : Int) (k : Int) ≤ 0 := by rcases hb with h | h <;> omega
        have h3 := (cmpF_t3 m (L.getD k2 default) (L.getD k default) q).1 (by simpa [cmpM] using hle) (by have := h0; simp only [cmpQ, Int.toNat_natCast] at this; omega)
        exact hn ⟨hil, by have hx : cmpQ m L q (k2 : Int) = cmpF m (L.getD k2 default) q := by simp [cmpQ]
                          omega⟩
    · simpa using hs
end Go.Proofs.Ytgkemmdghmklfaa

namespace Go.Proofs.Ytgkemmdghmklfaa
set_option linter.unusedSimpArgs false
set_option linter.unusedVariables false
open Go.RowKit

/-- order.Compare and Less. -/
def ocmpM (m : Nat) (x y : Arr) : Int := if rightV x ≠ 0 ∨ rightV y ≠ 0 then 0 else cmpF m x y
set_option maxRecDepth 100000 in
set_option maxHeartbeats 2000000 in
theorem ocomparem_any (m : Nat) (F G : Nat → Prop) (x y : Arr) (c0 c1 c2 c3 d0 d1 d2 d3 : Value) (w : World) (hx : ArrAt F w x c0 c1 c2 c3) (hy : ArrAt G w y d0 d1 d2 d3) (hm : szA x < m) :
    Calls Try.prog 52 #[.agg #[c0, c1, c2, c3], .agg #[d0, d1, d2, d3]] w fun e w' => e = .returned (.int .i64 (ocmpM m x y)) ∧ Ext w w' := by
  obtain ⟨kx, sx, nx, ix⟩ := x
  obtain ⟨ky, sy, ny, iy⟩ := y
  have hx' := hx
  have hy' := hy
  unfold ArrAt at hx' hy'
  obtain ⟨rfl, hkx, ⟨p1, m1, rfl, ⟨o1, o1', o1''⟩, i1⟩, ⟨p2, m2, rfl, ⟨o2, o2', o2''⟩, i2⟩, ⟨p3, m3, rfl, ⟨o3, o3', o3''⟩, i3⟩⟩ := hx'
  obtain ⟨rfl, hky, ⟨q1, n1, rfl, ⟨r1, r1', r1''⟩, j1⟩, ⟨q2, n2, rfl, ⟨r2, r2', r2''⟩, j2⟩, ⟨q3, n3, rfl, ⟨r3, r3', r3''⟩, j3⟩⟩ := hy'
  have HX := Lib.hid hx
  have HY := Lib.hid hy
  have HSX := Lib.hid i1
  have HSY := Lib.hid j1
  clear hx hy i1 i2 i3 j1 j2 j3
  have HV : Hid (ocmpM m (.mk kx sx nx ix) (.mk ky sy ny iy) = if rightV (.mk kx sx nx ix) ≠ 0 ∨ rightV (.mk ky sy ny iy) ≠ 0 then 0 else cmpF m (.mk kx sx nx ix) (.mk ky sy ny iy)) := rfl
  generalize ocmpM m (.mk kx sx nx ix) (.mk ky sy ny iy) = ov at *
  have HCM := Lib.hid (fun (w' : World) (e : Ext w w') => compare_any F G m (.mk kx sx nx ix) (.mk ky sy ny iy) _ _ _ _ _ _ _ _ w' hm (HX.out.ext e) (HY.out.ext e))
  go_enter Try.func52, Try.ntmps52
  go_wp2_with fail
  have hE0 : Ext w ((w.alloc (.cells #[.int .i64 kx, .slice p1 sx.length m1, .slice p2 nx.length m2, .slice p3 ix.length m3] 26)).alloc (.cells #[.int .i64 ky, .slice q1 sy.length n1, .slice q2 ny.length n2, .slice q3 iy.length n3] 26)) := ((Ext.refl _).alloc _).alloc _
  have hBX := (box_new w (.int .i64 kx) (.slice p1 sx.length m1) (.slice p2 nx.length m2) (.slice p3 ix.length m3)).ext ((Ext.refl _).alloc (.cells #[.int .i64 ky, .slice q1 sy.length n1, .slice q2 ny.length n2, .slice q3 iy.length n3] 26))
  have hBY := box_new (w.alloc (.cells #[.int .i64 kx, .slice p1 sx.length m1, .slice p2 nx.length m2, .slice p3 ix.length m3] 26)) (.int .i64 ky) (.slice q1 sy.length n1) (.slice q2 ny.length n2) (.slice q3 iy.length n3)
  rw [World.size_alloc] at hBY
  generalize ((w.alloc (.cells #[.int .i64 kx, .slice p1 sx.length m1, .slice p2 nx.length m2, .slice p3 ix.length m3] 26)).alloc (.cells #[.int .i64 ky, .slice q1 sy.length n1, .slice q2 ny.length n2, .slice q3 iy.length n3] 26)) = w1 at hE0 hBX hBY ⊢
  refine (right_any F _ _ _ _ _ w1 (HX.out.ext hE0)).mono ?_
  rintro e w2 ⟨rfl, hE1⟩
  have HBX := Lib.hid (hBX.ext hE1)
  have HBY := Lib.hid (hBY.ext hE1)
  have HE := Lib.hid (hE0.trans hE1)
  clear hBX hBY hE0 hE1
  generalize hr1 : rightV (.mk kx sx nx ix) = r1 at *
  by_cases h1 : r1 = 0
  rotate_left
  · have h1' : (r1 != 0) = true := by simpa using h1
    have HV2 := Lib.hid (show ov = 0 by rw [HV.out, if_pos (.inl h1)])
    clear h1
    go_wp2_with fail
    go_ret
    exact ⟨ret_int HV2.out.symm, HE.out⟩
  subst h1
  obtain ⟨t0, t1, t2, t3⟩ := HBY.out.cell
  go_wp2_with fail
  refine (right_any G _ _ _ _ _ w2 (HY.out.ext HE.out)).mono ?_
  rintro e w3 ⟨rfl, hE1⟩
  clear t0 t1 t2 t3
  replace HBX := Lib.hid (HBX.out.ext hE1)
  replace HBY := Lib.hid (HBY.out.ext hE1)
  replace HE := Lib.hid (HE.out.trans hE1)
  clear hE1
  generalize hr2 : rightV (.mk ky sy ny iy) = r2 at *
  by_cases h2 : r2 = 0
  rotate_left
  · have h2' : (r2 != 0) = true := by simpa using h2
    have HV2 := Lib.hid (show ov = 0 by rw [HV.out, if_pos (.inr h2)])
    clear h2
    go_wp2_with fail
    go_ret
    exact ⟨ret_int HV2.out.symm, HE.out⟩
  subst h2
  have HV2 := Lib.hid (show ov = cmpF m (.mk kx sx nx ix) (.mk ky sy ny iy) by rw [HV.out, if_neg (by simp)])
  have HCM2 := Lib.hid (HCM.out w3 HE.out (by simp) (by simp))
  clear HV HCM
  obtain ⟨s0, s1, s2, s3⟩ := HBX.out.cell
  obtain ⟨t0, t1, t2, t3⟩ := HBY.out.cell
  go_wp2_with fail
  refine HCM2.out.mono ?_
  rintro e w4 ⟨rfl, hE1⟩
  have hE2 := HE.out.trans hE1
  clear s0 s1 s2 s3 t0 t1 t2 t3 hE1
  go_wp2_with fail
  go_ret
  exact ⟨ret_int HV2.out.symm, hE2⟩
theorem ocmpm_rd {w : World} {a b : Arr} {v1 v2 : Value} (m : Nat) (hm : szA a < m) (ha : rightV a = 0) (hb : rightV b = 0) {n : Int} (ex : cmpF m a b = n) (h1 : Rd w a v1) (h2 : Rd w b v2) : Calls Try.prog 52 #[v1, v2] w fun e w' => e = .returned (.int .i64 n) ∧ Ext w w' := by
  obtain ⟨F, c0, c1, c2, c3, rfl, hA⟩ := h1
  obtain ⟨G, d0, d1, d2, d3, rfl, hB⟩ := h2
  have h := ocomparem_any m F G a b _ _ _ _ _ _ _ _ w hA hB hm
  rw [ocmpM, if_neg (by rw [ha, hb]; simp), ex] at h
  exact h
end Go.Proofs.Ytgkemmdghmklfaa

namespace Go.Proofs.Ytgkemmdghmklfaa
set_option linter.unusedSimpArgs false
set_option linter.unusedVariables false
open Go.RowKit

set_option maxRecDepth 1000000 in
set_option maxHeartbeats 8000000 in
theorem findc_any (m : Nat) (F G : Nat → Prop) (L : List Arr) (q : Arr) (bx cL : Nat) (pL : Option Addr) (qk : Int) (qa qb qc : Option Addr) (qla qma qlb qmb qlc qmc : Nat) (w : World) (hb : w.cell? ⟨bx, 0, none⟩ = some (.slice pL L.length cL)) (h : ItemsAt F w pL 0 L)
    (hq : ArrAt G w q (.int .i64 qk) (.slice qa qla qma) (.slice qb qlb qmb) (.slice qc qlc qmc)) (hr : ∀ t ∈ L, rightV t = 0) (hm : ∀ t ∈ L, szA t < m) (hqr : rightV q = 0) (x : Int) (hx0 : 0 ≤ x) (hx1 : x < L.length) :
    Calls Try.prog 149 #[.int .i64 x, .agg #[.int .i64 qk, .slice qa qla qma, .slice qb qlb qmb, .slice qc qlc qmc], .pointer (some ⟨bx, 0, none⟩)] w fun e w' => e = .returned (.int .i64 (cmpQ m L q x)) ∧ Ext w w' := by
  obtain ⟨i, rfl⟩ : ∃ i : Nat, x = i := ⟨x.toNat, by omega⟩
  have hi : i < L.length := by omega
  obtain ⟨ba, oa, c0, c1, c2, c3, rfl, k0, k1, k2, k3, hA⟩ := h.getD hi
  have m1 : L.getD i default ∈ L := by simp [List.getD, hi]
  have HV : Hid (cmpQ m L q (i : Int) = cmpF m (L.getD i default) q) := by unfold Hid cmpQ; simp
  have HC := Lib.hid (fun (w' : World) (e : Ext w w') => ocomparem_any m F G (L.getD i default) q _ _ _ _ _ _ _ _ w' (hA.ext e) (hq.ext e) (hm _ m1))
  rw [ocmpM, if_neg (by rw [hr _ m1, hqr]; simp)] at HC
  generalize cmpF m (L.getD i default) q = v at *
  generalize cmpQ m L q (i : Int) = v2 at *
  obtain ⟨ka, ua, va, za, ub, vb, zb, uc, vc, zc, rfl, rfl, rfl, rfl⟩ := hA.form
  have hE0 : Ext w (w.alloc (.cells #[(.int .i64 qk), (.slice qa qla qma), (.slice qb qlb qmb), (.slice qc qlc qmc)] 26)) := (Ext.refl _).alloc _
  have hB := box_new w (.int .i64 qk) (.slice qa qla qma) (.slice qb qlb qmb) (.slice qc qlc qmc)
  have HE0 := Lib.hid hE0
  have HB := Lib.hid hB
  have HK := Lib.hid (And.intro (hE0.cell hb) (And.intro (hE0.cell k0) (And.intro (hE0.cell k1) (And.intro (hE0.cell k2) (hE0.cell k3)))))
  clear h hr hm hA hq hqr m1 hx0 hx1 hb k0 k1 k2 k3 hE0 hB
  go_enter Try.func149, Try.ntmps149
  go_wp2_with fail
  generalize w.alloc (.cells #[(.int .i64 qk), (.slice qa qla qma), (.slice qb qlb qmb), (.slice qc qlc qmc)] 26) = w1 at *
  refine wp_region_x0 [MProp.is (.pointer (some ⟨bx, 0, none⟩)), MProp.is (.slice (some ⟨ba, oa, none⟩) L.length cL), MProp.is (.int .i64 (i : Int)), MProp.is (.pointer (some ⟨ba, oa + i * 4, none⟩)), MProp.is (.agg #[.int .i64 ka, .slice ua va za, .slice ub vb zb, .slice uc vc zc]), MProp.is (.agg #[.int .i64 qk, .slice qa qla qma, .slice qb qlb qmb, .slice qc qlc qmc]), MProp.is (.int .i64 v), MProp.is (.int .i64 v)] [0, 1, 2, 3, 4, 5, 6, 7] [] [6, 7, 8, 9, 10, 11, 12, 5] (by kernel_rfl) (by kernel_rfl) (by kernel_rfl) ?_ ?_ ?_
  · refine mem_cons_m ?_ (mem_cons_m ?_ (mem_cons_m ?_ (mem_cons_m ?_ (mem_cons_m ?_ (mem_cons_m ?_ (mem_cons_m ?_ (mem_cons_m ?_ (mem_nil_m))))))))
    · refine ⟨_, 6, rfl, by kernel_rfl, ?_⟩
      intro u w9 X hE hX hd K hK
      clear hd
      simp only [overlay, List.setIfInBounds_toArray, List.set] at hK ⊢
      go_wp2_with fail
      exact hK _ _ X (Ext.refl _) kept_m hX rfl
    · refine ⟨_, 7, rfl, by kernel_rfl, ?_⟩
      intro u w9 X hE hX hd K hK
      have d0 : u 6 = .pointer (some ⟨bx, 0, none⟩) := hd 0 (by kernel_rfl)
      clear hd
      simp only [overlay, List.setIfInBounds_toArray, List.set, d0] at hK ⊢
      have e9 : Ext w1 w9 := (Ext.refl w1).drew.trans hE
      have a9 := e9.cell HK.out.1
      go_wp2_with fail
      exact hK _ _ X (Ext.refl _) kept_m hX rfl
    · refine ⟨_, 8, rfl, by kernel_rfl, ?_⟩
      intro u w9 X hE hX hd K hK
      clear hd
      simp only [overlay, List.setIfInBounds_toArray, List.set] at hK ⊢
      go_wp2_with fail
      exact hK _ _ X (Ext.refl _) kept_m hX rfl
    · refine ⟨_, 9, rfl, by kernel_rfl, ?_⟩
      intro u w9 X hE hX hd K hK
      have d1 : u 7 = .slice (some ⟨ba, oa, none⟩) L.length cL := hd 1 (by kernel_rfl)
      have d2 : u 8 = .int .i64 (i : Int) := hd 2 (by kernel_rfl)
      clear hd
      simp only [overlay, List.setIfInBounds_toArray, List.set, d1, d2] at hK ⊢
      go_wp2_with fail
      exact hK _ _ X (Ext.refl _) kept_m hX rfl
    · refine ⟨_, 10, rfl, by kernel_rfl, ?_⟩
      intro u w9 X hE hX hd K hK
      have d3 : u 9 = .pointer (some ⟨ba, oa + i * 4, none⟩) := hd 3 (by kernel_rfl)
      clear hd
      simp only [overlay, List.setIfInBounds_toArray, List.set, d3] at hK ⊢
      have e9 : Ext w1 w9 := (Ext.refl w1).drew.trans hE
      obtain ⟨_, k0, k1, k2, k3⟩ := HK.out
      have a0 := e9.cell k0
      have a1 := e9.cell k1
      have a2 := e9.cell k2
      have a3 := e9.cell k3
      clear k0 k1 k2 k3
      go_wp2_with fail
      exact hK _ _ X (Ext.refl _) kept_m hX rfl
    · refine ⟨_, 11, rfl, by kernel_rfl, ?_⟩
      intro u w9 X hE hX hd K hK
      clear hd
      simp only [overlay, List.setIfInBounds_toArray, List.set] at hK ⊢
      have e9 : Ext w1 w9 := (Ext.refl w1).drew.trans hE
      obtain ⟨s0, s1, s2, s3⟩ := (HB.out.ext e9).cell
      go_wp2_with fail
      exact hK _ _ X (Ext.refl _) kept_m hX rfl
    · refine ⟨_, 12, rfl, by kernel_rfl, ?_⟩
      intro u w9 X hE hX hd K hK
      have d4 : u 10 = .agg #[.int .i64 ka, .slice ua va za, .slice ub vb zb, .slice uc vc zc] := hd 4 (by kernel_rfl)
      have d5 : u 11 = .agg #[.int .i64 qk, .slice qa qla qma, .slice qb qlb qmb, .slice qc qlc qmc] := hd 5 (by kernel_rfl)
      clear hd
      simp only [overlay, List.setIfInBounds_toArray, List.set, d4, d5] at hK ⊢
      have e9 : Ext w1 w9 := (Ext.refl w1).drew.trans hE
      go_wp2_with fail
      refine (HC.out w9 (HE0.out.trans e9)).mono ?_
      rintro e w8 ⟨rfl, hE8⟩
      go_wp2_with fail
      exact hK _ _ X hE8 kept_m (hX.ext hE8) rfl
    · refine ⟨_, 5, rfl, by kernel_rfl, ?_⟩
      intro u w9 X hE hX hd K hK
      have d6 : u 12 = .int .i64 v := hd 6 (by kernel_rfl)
      clear hd
      simp only [overlay, List.setIfInBounds_toArray, List.set, d6] at hK ⊢
      go_wp2_with fail
      exact hK _ _ X (Ext.refl _) kept_m hX rfl
  · exact mem_nil_m
  intro u w9 X hE hX hd
  have d0 : u 6 = .pointer (some ⟨bx, 0, none⟩) := hd 0 (by decide)
  have d1 : u 7 = .slice (some ⟨ba, oa, none⟩) L.length cL := hd 1 (by decide)
  have d2 : u 8 = .int .i64 (i : Int) := hd 2 (by decide)
  have d3 : u 9 = .pointer (some ⟨ba, oa + i * 4, none⟩) := hd 3 (by decide)
  have d4 : u 10 = .agg #[.int .i64 ka, .slice ua va za, .slice ub vb zb, .slice uc vc zc] := hd 4 (by decide)
  have d5 : u 11 = .agg #[.int .i64 qk, .slice qa qla qma, .slice qb qlb qmb, .slice qc qlc qmc] := hd 5 (by decide)
  have d6 : u 12 = .int .i64 v := hd 6 (by decide)
  have d7 : u 5 = .int .i64 v := hd 7 (by decide)
  clear hd
  simp only [overlay, List.setIfInBounds_toArray, List.set, d0, d1, d2, d3, d4, d5, d6, d7]
  have e9 : Ext w1 w9 := (Ext.refl w1).drew.trans hE
  clear d0 d1 d2 d3 d4 d5 d6 d7
  clear hX hE
  generalize u 7 = t7z1
  generalize u 10 = t10z1
  generalize u 11 = t11z1
  clear u
  obtain ⟨wk2, rfl⟩ : ∃ wx : World, wx = w9 := ⟨_, rfl⟩
  have hEF := HE0.out.trans e9
  clear e9
  go_wp2_with fail
  go_ret
  exact ⟨ret_int HV.out.symm, hEF⟩

set_option maxRecDepth 1000000 in
set_option maxHeartbeats 8000000 in
theorem bsearch_any (cf : Int → Int) (wB : World) (lv : Value) (qk : Int) (qa qb qc : Option Addr) (qla qma qlb qmb qlc qmc : Nat) (F : Nat → Prop) (ix : List Int) (ps : Option Addr) (cs : Nat) (w : World)
    (hcmp : ∀ (w' : World) (x : Int), Ext wB w' → x ∈ ix → Calls Try.prog 149 #[.int .i64 x, .agg #[.int .i64 qk, .slice qa qla qma, .slice qb qlb qmb, .slice qc qlc qmc], lv] w' fun e w'' => e = .returned (.int .i64 (cf x)) ∧ Ext w' w'')
    (hmono : ∀ a b, a ≤ b → b < ix.length → cf (ix.getD b 0) < 0 → cf (ix.getD a 0) < 0) (hI : IntsAt F w ps ix) (hE : Ext wB w) (hl : ix.length ≤ 65536) (n : Nat) (hn : ix.length = n) :
    Calls Try.prog 148 #[.slice ps n cs, .agg #[.int .i64 qk, .slice qa qla qma, .slice qb qlb qmb, .slice qc qlc qmc], .func (.func 149) #[] #[lv]] w fun e w' => ∃ i : Nat, i ≤ n ∧ (∀ h, h < i → cf (ix.getD h 0) < 0) ∧ (∀ h, i ≤ h → h < n → 0 ≤ cf (ix.getD h 0)) ∧
      e = .returned (.tuple #[.int .i64 (i : Int), .bool (decide (i < n ∧ cf (ix.getD i 0) = 0))]) ∧ Ext w w' := by
  have HCMP := Lib.hid hcmp
  have HM := Lib.hid hmono
  have HI := Lib.hid hI
  have HN := Lib.hid hn
  have HE := Lib.hid hE
  rw [hn] at hl
  have hE0 : Ext w (w.alloc (.cells #[(.int .i64 qk), (.slice qa qla qma), (.slice qb qlb qmb), (.slice qc qlc qmc)] 26)) := (Ext.refl _).alloc _
  have hB := box_new w (.int .i64 qk) (.slice qa qla qma) (.slice qb qlb qmb) (.slice qc qlc qmc)
  have HE0 := Lib.hid hE0
  have HB := Lib.hid hB
  clear hcmp hmono hI hn hE hE0 hB
  go_enter Try.func148, Try.ntmps148
  go_wp2_with fail
  generalize w.alloc (.cells #[(.int .i64 qk), (.slice qa qla qma), (.slice qb qlb qmb), (.slice qc qlc qmc)] 26) = w1 at *
  go_loopw [9, 10] (fun iv jv wr => ∃ (i j : Nat), iv = .int .i64 (i : Int) ∧ jv = .int .i64 (j : Int) ∧ i ≤ j ∧ j ≤ n ∧ Hid (∀ h, h < i → cf (ix.getD h 0) < 0) ∧ Hid (∀ h, j ≤ h → h < n → 0 ≤ cf (ix.getD h 0)) ∧ Ext w1 wr) (fun iv jv _ => (intOf jv).toNat - (intOf iv).toNat)
  case atStart => exact ⟨0, n, rfl, rfl, Nat.zero_le _, Nat.le_refl _, fun h hh => by omega, fun h h1 h2 => by omega, Ext.refl _⟩
  case round =>
  obtain ⟨i, j, rfl, rfl, hij, hjn, HLo, HHi, hE1⟩ := hrel
  have HER := Lib.hid hE1
  clear hE1
  by_cases hlt : i < j
  · obtain ⟨t, ht⟩ : ∃ h, h = (i + j) / 2 := ⟨_, rfl⟩
    have u1 : IntKind.i64.wrap ((i : Int) + (j : Int)) = (i : Int) + (j : Int) := IntWalk.i64_in _ (by omega)
    have u2 : IntKind.u64.wrap ((i : Int) + (j : Int)) = (i : Int) + (j : Int) := IntWalk.u64_in _ (by omega)
    have u3 : ((i : Int) + (j : Int)) / 2 = (t : Int) := by omega
    have u4 : IntKind.i64.wrap (t : Int) = (t : Int) := IntWalk.i64_in _ (by omega)
    have htj : t < j := by omega
    have hit : i ≤ t := by omega
    have htn : t < n := by omega
    have htx : t < ix.length := by rw [HN.out]; exact htn
    obtain ⟨b1, f1, rfl, cx, _, _⟩ := (HI.out.ext (HE0.out.trans HER.out)).get htx
    have hmx : ix.getD t 0 ∈ ix := by simp [List.getD, htx]
    have HCX := Lib.hid (fun (w' : World) (e : Ext wB w') => HCMP.out w' (ix.getD t 0) e hmx)
    obtain ⟨x, hgx⟩ : ∃ x, ix.getD t 0 = x := ⟨_, rfl⟩
    obtain ⟨z, hgz⟩ : ∃ z, cf x = z := ⟨_, rfl⟩
    rw [hgx] at cx hmx HCX
    rw [hgz] at HCX
    have HGX := Lib.hid hgx
    have HGZ := Lib.hid hgz
    have CX := Lib.hid cx
    clear cx hmx hgx hgz
    clear ht htx
    go_wp2_with fail
    by_cases hz : z < 0
    · have hzd : decide (z < 0) = true := by simpa using hz
      refine wp_region_x0 [MProp.is (.func (.func 149) #[] #[lv]), MProp.is (.slice (some ⟨b1, f1, none⟩) n cs), MProp.is (.int .i64 (t : Int)), MProp.is (.pointer (some ⟨b1, f1 + t, none⟩)), MProp.is (.int .i64 x), MProp.is (.agg #[.int .i64 qk, .slice qa qla qma, .slice qb qlb qmb, .slice qc qlc qmc]), MProp.is (.int .i64 z), MProp.is (.bool true)] [0, 1, 2, 3, 4, 5, 6, 7] [] [24, 25, 26, 27, 28, 29, 30, 31] (by kernel_rfl) (by kernel_rfl) (by kernel_rfl) ?_ ?_ ?_
      · refine mem_cons_m ?_ (mem_cons_m ?_ (mem_cons_m ?_ (mem_cons_m ?_ (mem_cons_m ?_ (mem_cons_m ?_ (mem_cons_m ?_ (mem_cons_m ?_ (mem_nil_m))))))))
        · refine ⟨_, 24, rfl, by kernel_rfl, ?_⟩
          intro u w9 X hE hX hd K hK
          clear hd
          simp only [overlay, List.setIfInBounds_toArray, List.set] at hK ⊢
          go_wp2_with fail
          exact hK _ _ X (Ext.refl _) kept_m hX rfl
        · refine ⟨_, 25, rfl, by kernel_rfl, ?_⟩
          intro u w9 X hE hX hd K hK
          clear hd
          simp only [overlay, List.setIfInBounds_toArray, List.set] at hK ⊢
          go_wp2_with fail
          exact hK _ _ X (Ext.refl _) kept_m hX rfl
        · refine ⟨_, 26, rfl, by kernel_rfl, ?_⟩
          intro u w9 X hE hX hd K hK
          clear hd
          simp only [overlay, List.setIfInBounds_toArray, List.set] at hK ⊢
          go_wp2_with fail
          exact hK _ _ X (Ext.refl _) kept_m hX rfl
        · refine ⟨_, 27, rfl, by kernel_rfl, ?_⟩
          intro u w9 X hE hX hd K hK
          have d1 : u 25 = .slice (some ⟨b1, f1, none⟩) n cs := hd 1 (by kernel_rfl)
          have d2 : u 26 = .int .i64 (t : Int) := hd 2 (by kernel_rfl)
          clear hd
          simp only [overlay, List.setIfInBounds_toArray, List.set, d1, d2] at hK ⊢
          go_wp2_with fail
          exact hK _ _ X (Ext.refl _) kept_m hX rfl
        · refine ⟨_, 28, rfl, by kernel_rfl, ?_⟩
          intro u w9 X hE hX hd K hK
          have d3 : u 27 = .pointer (some ⟨b1, f1 + t, none⟩) := hd 3 (by kernel_rfl)
          clear hd
          simp only [overlay, List.setIfInBounds_toArray, List.set, d3] at hK ⊢
          have e9 : Ext wr w9 := (Ext.refl wr).drew.trans hE
          have a9 := e9.cell CX.out
          go_wp2_with fail
          exact hK _ _ X (Ext.refl _) kept_m hX rfl
        · refine ⟨_, 29, rfl, by kernel_rfl, ?_⟩
          intro u w9 X hE hX hd K hK
          clear hd
          simp only [overlay, List.setIfInBounds_toArray, List.set] at hK ⊢
          have e9 : Ext wr w9 := (Ext.refl wr).drew.trans hE
          obtain ⟨s0, s1, s2, s3⟩ := ((HB.out.ext HER.out).ext e9).cell
          go_wp2_with fail
          exact hK _ _ X (Ext.refl _) kept_m hX rfl
        · refine ⟨_, 30, rfl, by kernel_rfl, ?_⟩
          intro u w9 X hE hX hd K hK
          have d0 : u 24 = .func (.func 149) #[] #[lv] := hd 0 (by kernel_rfl)
          have d4 : u 28 = .int .i64 x := hd 4 (by kernel_rfl)
          have d5 : u 29 = .agg #[.int .i64 qk, .slice qa qla qma, .slice qb qlb qmb, .slice qc qlc qmc] := hd 5 (by kernel_rfl)
          clear hd
          simp only [overlay, List.setIfInBounds_toArray, List.set, d0, d4, d5] at hK ⊢
          have e9 : Ext wr w9 := (Ext.refl wr).drew.trans hE
          go_wp2_with fail
          refine (HCX.out w9 (HE.out.trans (HE0.out.trans (HER.out.trans e9)))).mono ?_
          rintro e w8 ⟨rfl, hE8⟩
          go_wp2_with fail
          exact hK _ _ X hE8 kept_m (hX.ext hE8) rfl
        · refine ⟨_, 31, rfl, by kernel_rfl, ?_⟩
          intro u w9 X hE hX hd K hK
          have d6 : u 30 = .int .i64 z := hd 6 (by kernel_rfl)
          clear hd
          simp only [overlay, List.setIfInBounds_toArray, List.set, d6] at hK ⊢
          go_wp2_with fail
          exact hK _ _ X (Ext.refl _) kept_m hX rfl
      · exact mem_nil_m
      intro u w9 X hE hX hd
      have d0 : u 24 = .func (.func 149) #[] #[lv] := hd 0 (by decide)
      have d1 : u 25 = .slice (some ⟨b1, f1, none⟩) n cs := hd 1 (by decide)
      have d2 : u 26 = .int .i64 (t : Int) := hd 2 (by decide)
      have d3 : u 27 = .pointer (some ⟨b1, f1 + t, none⟩) := hd 3 (by decide)
      have d4 : u 28 = .int .i64 x := hd 4 (by decide)
      have d5 : u 29 = .agg #[.int .i64 qk, .slice qa qla qma, .slice qb qlb qmb, .slice qc qlc qmc] := hd 5 (by decide)
      have d6 : u 30 = .int .i64 z := hd 6 (by decide)
      have d7 : u 31 = .bool true := hd 7 (by decide)
      clear hd
      simp only [overlay, List.setIfInBounds_toArray, List.set, d0, d1, d2, d3, d4, d5, d6, d7]
      have e9 : Ext wr w9 := (Ext.refl wr).drew.trans hE
      clear d0 d1 d2 d3 d4 d5 d6 d7
      clear hX hE
      generalize u 28 = t28z1
      generalize u 29 = t29z1
      clear u
      obtain ⟨wk2, rfl⟩ : ∃ wx : World, wx = w9 := ⟨_, rfl⟩
      have HEN := Lib.hid (HER.out.trans e9)
      clear e9
      clear CX hzd HER HCX
      go_wp2_with fail
      go_roundw
      case rel => exact ⟨t + 1, j, by go_num, rfl, by omega, hjn, Lib.hid (fun h hh => by
        by_cases e : h = t
        · rw [e, HGX.out, HGZ.out]; exact hz
        · exact HM.out h t (by omega) (by rw [HN.out]; exact htn) (by rw [HGX.out, HGZ.out]; exact hz)), HHi, HEN.out⟩
      case measure => simp [intOf]; omega
    · have hzd : decide (z < 0) = false := by simpa using hz
      refine wp_region_x0 [MProp.is (.func (.func 149) #[] #[lv]), MProp.is (.slice (some ⟨b1, f1, none⟩) n cs), MProp.is (.int .i64 (t : Int)), MProp.is (.pointer (some ⟨b1, f1 + t, none⟩)), MProp.is (.int .i64 x), MProp.is (.agg #[.int .i64 qk, .slice qa qla qma, .slice qb qlb qmb, .slice qc qlc qmc]), MProp.is (.int .i64 z), MProp.is (.bool false)] [0, 1, 2, 3, 4, 5, 6, 7] [] [24, 25, 26, 27, 28, 29, 30, 31] (by kernel_rfl) (by kernel_rfl) (by kernel_rfl) ?_ ?_ ?_
      · refine mem_cons_m ?_ (mem_cons_m ?_ (mem_cons_m ?_ (mem_cons_m ?_ (mem_cons_m ?_ (mem_cons_m ?_ (mem_cons_m ?_ (mem_cons_m ?_ (mem_nil_m))))))))
        · refine ⟨_, 24, rfl, by kernel_rfl, ?_⟩
          intro u w9 X hE hX hd K hK
          clear hd
          simp only [overlay, List.setIfInBounds_toArray, List.set] at hK ⊢
          go_wp2_with fail
          exact hK _ _ X (Ext.refl _) kept_m hX rfl
        · refine ⟨_, 25, rfl, by kernel_rfl, ?_⟩
          intro u w9 X hE hX hd K hK
          clear hd
          simp only [overlay, List.setIfInBounds_toArray, List.set] at hK ⊢
          go_wp2_with fail
          exact hK _ _ X (Ext.refl _) kept_m hX rfl
        · refine ⟨_, 26, rfl, by kernel_rfl, ?_⟩
          intro u w9 X hE hX hd K hK
          clear hd
          simp only [overlay, List.setIfInBounds_toArray, List.set] at hK ⊢
          go_wp2_with fail
          exact hK _ _ X (Ext.refl _) kept_m hX rfl
        · refine ⟨_, 27, rfl, by kernel_rfl, ?_⟩
          intro u w9 X hE hX hd K hK
          have d1 : u 25 = .slice (some ⟨b1, f1, none⟩) n cs := hd 1 (by kernel_rfl)
          have d2 : u 26 = .int .i64 (t : Int) := hd 2 (by kernel_rfl)
          clear hd
          simp only [overlay, List.setIfInBounds_toArray, List.set, d1, d2] at hK ⊢
          go_wp2_with fail
          exact hK _ _ X (Ext.refl _) kept_m hX rfl
        · refine ⟨_, 28, rfl, by kernel_rfl, ?_⟩
          intro u w9 X hE hX hd K hK
          have d3 : u 27 = .pointer (some ⟨b1, f1 + t, none⟩) := hd 3 (by kernel_rfl)
          clear hd
          simp only [overlay, List.setIfInBounds_toArray, List.set, d3] at hK ⊢
          have e9 : Ext wr w9 := (Ext.refl wr).drew.trans hE
          have a9 := e9.cell CX.out
          go_wp2_with fail
          exact hK _ _ X (Ext.refl _) kept_m hX rfl
        · refine ⟨_, 29, rfl, by kernel_rfl, ?_⟩
          intro u w9 X hE hX hd K hK
          clear hd
          simp only [overlay, List.setIfInBounds_toArray, List.set] at hK ⊢
          have e9 : Ext wr w9 := (Ext.refl wr).drew.trans hE
          obtain ⟨s0, s1, s2, s3⟩ := ((HB.out.ext HER.out).ext e9).cell
          go_wp2_with fail
          exact hK _ _ X (Ext.refl _) kept_m hX rfl
        · refine ⟨_, 30, rfl, by kernel_rfl, ?_⟩
          intro u w9 X hE hX hd K hK
          have d0 : u 24 = .func (.func 149) #[] #[lv] := hd 0 (by kernel_rfl)
          have d4 : u 28 = .int .i64 x := hd 4 (by kernel_rfl)
          have d5 : u 29 = .agg #[.int .i64 qk, .slice qa qla qma, .slice qb qlb qmb, .slice qc qlc qmc] := hd 5 (by kernel_rfl)
          clear hd
          simp only [overlay, List.setIfInBounds_toArray, List.set, d0, d4, d5] at hK ⊢
          have e9 : Ext wr w9 := (Ext.refl wr).drew.trans hE
          go_wp2_with fail
          refine (HCX.out w9 (HE.out.trans (HE0.out.trans (HER.out.trans e9)))).mono ?_
          rintro e w8 ⟨rfl, hE8⟩
          go_wp2_with fail
          exact hK _ _ X hE8 kept_m (hX.ext hE8) rfl
        · refine ⟨_, 31, rfl, by kernel_rfl, ?_⟩
          intro u w9 X hE hX hd K hK
          have d6 : u 30 = .int .i64 z := hd 6 (by kernel_rfl)
          clear hd
          simp only [overlay, List.setIfInBounds_toArray, List.set, d6] at hK ⊢
          go_wp2_with fail
          exact hK _ _ X (Ext.refl _) kept_m hX rfl
      · exact mem_nil_m
      intro u w9 X hE hX hd
      have d0 : u 24 = .func (.func 149) #[] #[lv] := hd 0 (by decide)
      have d1 : u 25 = .slice (some ⟨b1, f1, none⟩) n cs := hd 1 (by decide)
      have d2 : u 26 = .int .i64 (t : Int) := hd 2 (by decide)
      have d3 : u 27 = .pointer (some ⟨b1, f1 + t, none⟩) := hd 3 (by decide)
      have d4 : u 28 = .int .i64 x := hd 4 (by decide)
      have d5 : u 29 = .agg #[.int .i64 qk, .slice qa qla qma, .slice qb qlb qmb, .slice qc qlc qmc] := hd 5 (by decide)
      have d6 : u 30 = .int .i64 z := hd 6 (by decide)
      have d7 : u 31 = .bool false := hd 7 (by decide)
      clear hd
      simp only [overlay, List.setIfInBounds_toArray, List.set, d0, d1, d2, d3, d4, d5, d6, d7]
      have e9 : Ext wr w9 := (Ext.refl wr).drew.trans hE
      clear d0 d1 d2 d3 d4 d5 d6 d7
      clear hX hE
      generalize u 28 = t28z1
      generalize u 29 = t29z1
      clear u
      obtain ⟨wk2, rfl⟩ : ∃ wx : World, wx = w9 := ⟨_, rfl⟩
      have HEN := Lib.hid (HER.out.trans e9)
      clear e9
      clear CX hzd HER HCX
      go_wp2_with fail
      go_roundw
      case rel => exact ⟨i, t, rfl, rfl, hit, by omega, HLo, Lib.hid (fun h h1 h2 => by
        by_cases e : 0 ≤ cf (ix.getD h 0)
        · exact e
        · have := HM.out t h h1 (by rw [HN.out]; exact h2) (by omega)
          rw [HGX.out, HGZ.out] at this
          omega), HEN.out⟩
      case measure => simp [intOf]; omega
  have hji : j = i := by omega
  subst hji
  by_cases hin : j < n
  rotate_left
  · have hjI : decide ((j : Int) < (n : Int)) = false := by simp; omega
    have HR : Hid (decide (j < n ∧ cf (ix.getD j 0) = 0) = false) := by unfold Hid; simp [hin]
    go_wp2_with fail
    refine wp_region_x1 [MProp.is (.int .i64 (j : Int)), MProp.is (.int .i64 (j : Int)), MProp.is (.int .i64 (n : Int)), MProp.is (.bool false), MProp.is (.bool false), MProp.is (undef), MProp.is (undef), MProp.is (undef), MProp.is (undef), MProp.is (undef), MProp.is (undef), MProp.is (undef), MProp.is (undef), MProp.is (.bool false), MProp.is (.int .i64 (j : Int))] [0, 1, 2, 3, 4, 5, 6, 7, 8, 9, 10, 11, 12, 13, 14] [] [35, 36, 37, 38, 39, 40, 41, 42, 43, 44, 45, 46, 47, 48, 6] 15 (by kernel_rfl) (by kernel_rfl) (by kernel_rfl) rfl ?_ ?_ ?_
    · refine mem_cons_m ?_ (mem_cons_m ?_ (mem_cons_m ?_ (mem_cons_m ?_ (mem_cons_m ?_ (mem_cons_m ?_ (mem_cons_m ?_ (mem_cons_m ?_ (mem_cons_m ?_ (mem_cons_m ?_ (mem_cons_m ?_ (mem_cons_m ?_ (mem_cons_m ?_ (mem_cons_m ?_ (mem_cons_m ?_ (mem_nil_m)))))))))))))))
      · refine ⟨_, 35, rfl, by kernel_rfl, ?_⟩
        intro u w9 X hE hX hd K hK
        clear hd
        simp only [overlay, List.setIfInBounds_toArray, List.set] at hK ⊢
        go_wp2_with fail
        exact hK _ _ X (Ext.refl _) kept_m hX rfl
      · refine ⟨_, 36, rfl, by kernel_rfl, ?_⟩
        intro u w9 X hE hX hd K hK
        clear hd
        simp only [overlay, List.setIfInBounds_toArray, List.set] at hK ⊢
        go_wp2_with fail
        exact hK _ _ X (Ext.refl _) kept_m hX rfl
      · refine ⟨_, 37, rfl, by kernel_rfl, ?_⟩
        intro u w9 X hE hX hd K hK
        clear hd
        simp only [overlay, List.setIfInBounds_toArray, List.set] at hK ⊢
        go_wp2_with fail
        exact hK _ _ X (Ext.refl _) kept_m hX rfl
      · refine ⟨_, 38, rfl, by kernel_rfl, ?_⟩
        intro u w9 X hE hX hd K hK
        have d1 : u 36 = .int .i64 (j : Int) := hd 1 (by kernel_rfl)
        have d2 : u 37 = .int .i64 (n : Int) := hd 2 (by kernel_rfl)
        clear hd
        simp only [overlay, List.setIfInBounds_toArray, List.set, d1, d2] at hK ⊢
        go_wp2_with fail
        exact hK _ _ X (Ext.refl _) kept_m hX rfl
      · refine ⟨_, 39, rfl, by kernel_rfl, ?_⟩
        intro u w9 X hE hX hd K hK
        have d3 : u 38 = .bool false := hd 3 (by kernel_rfl)
        clear hd
        simp only [overlay, List.setIfInBounds_toArray, List.set, d3] at hK ⊢
        go_wp2_with fail
        exact hK _ _ X (Ext.refl _) kept_m hX rfl
      · refine ⟨_, 40, rfl, by kernel_rfl, ?_⟩
        intro u w9 X hE hX hd K hK
        have d4 : u 39 = .bool false := hd 4 (by kernel_rfl)
        clear hd
        simp only [overlay, List.setIfInBounds_toArray, List.set, d4] at hK ⊢
        go_wp2_with fail
        exact hK _ _ X (Ext.refl _) kept_m hX rfl
      · refine ⟨_, 41, rfl, by kernel_rfl, ?_⟩
        intro u w9 X hE hX hd K hK
        have d4 : u 39 = .bool false := hd 4 (by kernel_rfl)
        clear hd
        simp only [overlay, List.setIfInBounds_toArray, List.set, d4] at hK ⊢
        go_wp2_with fail
        exact hK _ _ X (Ext.refl _) kept_m hX rfl
      · refine ⟨_, 42, rfl, by kernel_rfl, ?_⟩
        intro u w9 X hE hX hd K hK
        have d4 : u 39 = .bool false := hd 4 (by kernel_rfl)
        clear hd
        simp only [overlay, List.setIfInBounds_toArray, List.set, d4] at hK ⊢
        go_wp2_with fail
        exact hK _ _ X (Ext.refl _) kept_m hX rfl
      · refine ⟨_, 43, rfl, by kernel_rfl, ?_⟩
        intro u w9 X hE hX hd K hK
        have d6 : u 41 = undef := hd 6 (by kernel_rfl)
        have d7 : u 42 = undef := hd 7 (by kernel_rfl)
        have d4 : u 39 = .bool false := hd 4 (by kernel_rfl)
        clear hd
        simp only [overlay, List.setIfInBounds_toArray, List.set, d6, d7, d4] at hK ⊢
        go_wp2_with fail
        exact hK _ _ X (Ext.refl _) kept_m hX rfl
      · refine ⟨_, 44, rfl, by kernel_rfl, ?_⟩
        intro u w9 X hE hX hd K hK
        have d8 : u 43 = undef := hd 8 (by kernel_rfl)
        have d4 : u 39 = .bool false := hd 4 (by kernel_rfl)
        clear hd
        simp only [overlay, List.setIfInBounds_toArray, List.set, d8, d4] at hK ⊢
        go_wp2_with fail
        exact hK _ _ X (Ext.refl _) kept_m hX rfl
      · refine ⟨_, 45, rfl, by kernel_rfl, ?_⟩
        intro u w9 X hE hX hd K hK
        have d4 : u 39 = .bool false := hd 4 (by kernel_rfl)
        clear hd
        simp only [overlay, List.setIfInBounds_toArray, List.set, d4] at hK ⊢
        go_wp2_with fail
        exact hK _ _ X (Ext.refl _) kept_m hX rfl
      · refine ⟨_, 46, rfl, by kernel_rfl, ?_⟩
        intro u w9 X hE hX hd K hK
        have d5 : u 40 = undef := hd 5 (by kernel_rfl)
        have d9 : u 44 = undef := hd 9 (by kernel_rfl)
        have d10 : u 45 = undef := hd 10 (by kernel_rfl)
        have d4 : u 39 = .bool false := hd 4 (by kernel_rfl)
        clear hd
        simp only [overlay, List.setIfInBounds_toArray, List.set, d5, d9, d10, d4] at hK ⊢
        go_wp2_with fail
        exact hK _ _ X (Ext.refl _) kept_m hX rfl
      · refine ⟨_, 47, rfl, by kernel_rfl, ?_⟩
        intro u w9 X hE hX hd K hK
        have d11 : u 46 = undef := hd 11 (by kernel_rfl)
        have d4 : u 39 = .bool false := hd 4 (by kernel_rfl)
        clear hd
        simp only [overlay, List.setIfInBounds_toArray, List.set, d11, d4] at hK ⊢
        go_wp2_with fail
        exact hK _ _ X (Ext.refl _) kept_m hX rfl
      · refine ⟨_, 48, rfl, by kernel_rfl, ?_⟩
        intro u w9 X hE hX hd K hK
        have d4 : u 39 = .bool false := hd 4 (by kernel_rfl)
        have d12 : u 47 = undef := hd 12 (by kernel_rfl)
        clear hd
        simp only [overlay, List.setIfInBounds_toArray, List.set, d4, d12] at hK ⊢
        go_wp2_with fail
        exact hK _ _ X (Ext.refl _) kept_m hX rfl
      · refine ⟨_, 6, rfl, by kernel_rfl, ?_⟩
        intro u w9 X hE hX hd K hK
        have d0 : u 35 = .int .i64 (j : Int) := hd 0 (by kernel_rfl)
        clear hd
        simp only [overlay, List.setIfInBounds_toArray, List.set, d0] at hK ⊢
        go_wp2_with fail
        exact hK _ _ X (Ext.refl _) kept_m hX rfl
    · exact mem_nil_m
    intro u w9 X hE hX hd
    have d0 : u 35 = .int .i64 (j : Int) := hd 0 (by decide)
    have d1 : u 36 = .int .i64 (j : Int) := hd 1 (by decide)
    have d2 : u 37 = .int .i64 (n : Int) := hd 2 (by decide)
    have d3 : u 38 = .bool false := hd 3 (by decide)
    have d4 : u 39 = .bool false := hd 4 (by decide)
    have d5 : u 40 = undef := hd 5 (by decide)
    have d6 : u 41 = undef := hd 6 (by decide)
    have d7 : u 42 = undef := hd 7 (by decide)
    have d8 : u 43 = undef := hd 8 (by decide)
    have d9 : u 44 = undef := hd 9 (by decide)
    have d10 : u 45 = undef := hd 10 (by decide)
    have d11 : u 46 = undef := hd 11 (by decide)
    have d12 : u 47 = undef := hd 12 (by decide)
    have d13 : u 48 = .bool false := hd 13 (by decide)
    have d14 : u 6 = .int .i64 (j : Int) := hd 14 (by decide)
    clear hd
    simp only [overlay, List.setIfInBounds_toArray, List.set, d0, d1, d2, d3, d4, d5, d6, d7, d8, d9, d10, d11, d12, d13, d14]
    have e9 : Ext wr w9 := (Ext.refl wr).drew.trans hE
    clear d0 d1 d2 d3 d4 d5 d6 d7 d8 d9 d10 d11 d12 d13 d14
    clear hX hE
    clear u
    obtain ⟨wk2, rfl⟩ : ∃ wx : World, wx = w9 := ⟨_, rfl⟩
    have HEN := Lib.hid (HE0.out.trans (HER.out.trans e9))
    clear e9
    go_wp2_with fail
    refine OnlyN.mk ?_
    (try simp only [Exit.inBlock, Exit.then])
    go_wp2_with fail
    refine bodyPost_ret (v := .tuple #[.int .i64 (j : Int), .bool false]) (by simp [results, Try.results148]) rfl ?_
    exact ⟨j, hjn, HLo.out, HHi.out, by rw [HR.out], HEN.out⟩
  have hjx : j < ix.length := by rw [HN.out]; exact hin
  have hjI : decide ((j : Int) < (n : Int)) = true := by simp; omega
  obtain ⟨b1, f1, rfl, cx, _, _⟩ := (HI.out.ext (HE0.out.trans HER.out)).get hjx
  have hmx : ix.getD j 0 ∈ ix := by simp [List.getD, hjx]
  have HCX := Lib.hid (fun (w' : World) (e : Ext wB w') => HCMP.out w' (ix.getD j 0) e hmx)
  obtain ⟨x, hgx⟩ : ∃ x, ix.getD j 0 = x := ⟨_, rfl⟩
  obtain ⟨z, hgz⟩ : ∃ z, cf x = z := ⟨_, rfl⟩
  rw [hgx] at cx hmx HCX
  rw [hgz] at HCX
  have HGX := Lib.hid hgx
  have HGZ := Lib.hid hgz
  have CX := Lib.hid cx
  clear cx hmx hgx hgz
  by_cases hz : z = 0
  · have hzd : decide (z = 0) = true := by simpa using hz
    have hzb : (z == 0) = true := by simpa using hz
    have HR : Hid (decide (j < n ∧ cf (ix.getD j 0) = 0) = true) := by unfold Hid; rw [HGX.out, HGZ.out]; simp [hin, hz]
    clear hz
    go_wp2_with fail
    refine wp_region_x1 [MProp.is (.int .i64 (j : Int)), MProp.is (.int .i64 (j : Int)), MProp.is (.int .i64 (n : Int)), MProp.is (.bool true), MProp.is (.bool true), MProp.is (.func (.func 149) #[] #[lv]), MProp.is (.slice (some ⟨b1, f1, none⟩) n cs), MProp.is (.int .i64 (j : Int)), MProp.is (.pointer (some ⟨b1, f1 + j, none⟩)), MProp.is (.int .i64 x), MProp.is (.agg #[.int .i64 qk, .slice qa qla qma, .slice qb qlb qmb, .slice qc qlc qmc]), MProp.is (.int .i64 z), MProp.is (.bool true), MProp.is (.bool true), MProp.is (.int .i64 (j : Int))] [0, 1, 2, 3, 4, 5, 6, 7, 8, 9, 10, 11, 12, 13, 14] [] [35, 36, 37, 38, 39, 40, 41, 42, 43, 44, 45, 46, 47, 48, 6] 15 (by kernel_rfl) (by kernel_rfl) (by kernel_rfl) rfl ?_ ?_ ?_
    · refine mem_cons_m ?_ (mem_cons_m ?_ (mem_cons_m ?_ (mem_cons_m ?_ (mem_cons_m ?_ (mem_cons_m ?_ (mem_cons_m ?_ (mem_cons_m ?_ (mem_cons_m ?_ (mem_cons_m ?_ (mem_cons_m ?_ (mem_cons_m ?_ (mem_cons_m ?_ (mem_cons_m ?_ (mem_cons_m ?_ (mem_nil_m)))))))))))))))
      · refine ⟨_, 35, rfl, by kernel_rfl, ?_⟩
        intro u w9 X hE hX hd K hK
        clear hd
        simp only [overlay, List.setIfInBounds_toArray, List.set] at hK ⊢
        go_wp2_with fail
        exact hK _ _ X (Ext.refl _) kept_m hX rfl
      · refine ⟨_, 36, rfl, by kernel_rfl, ?_⟩
        intro u w9 X hE hX hd K hK
        clear hd
        simp only [overlay, List.setIfInBounds_toArray, List.set] at hK ⊢
        go_wp2_with fail
        exact hK _ _ X (Ext.refl _) kept_m hX rfl
      · refine ⟨_, 37, rfl, by kernel_rfl, ?_⟩
        intro u w9 X hE hX hd K hK
        clear hd
        simp only [overlay, List.setIfInBounds_toArray, List.set] at hK ⊢
        go_wp2_with fail
        exact hK _ _ X (Ext.refl _) kept_m hX rfl
      · refine ⟨_, 38, rfl, by kernel_rfl, ?_⟩
        intro u w9 X hE hX hd K hK
        have d1 : u 36 = .int .i64 (j : Int) := hd 1 (by kernel_rfl)
        have d2 : u 37 = .int .i64 (n : Int) := hd 2 (by kernel_rfl)
        clear hd
        simp only [overlay, List.setIfInBounds_toArray, List.set, d1, d2] at hK ⊢
        go_wp2_with fail
        exact hK _ _ X (Ext.refl _) kept_m hX rfl
      · refine ⟨_, 39, rfl, by kernel_rfl, ?_⟩
        intro u w9 X hE hX hd K hK
        have d3 : u 38 = .bool true := hd 3 (by kernel_rfl)
        clear hd
        simp only [overlay, List.setIfInBounds_toArray, List.set, d3] at hK ⊢
        go_wp2_with fail
        exact hK _ _ X (Ext.refl _) kept_m hX rfl
      · refine ⟨_, 40, rfl, by kernel_rfl, ?_⟩
        intro u w9 X hE hX hd K hK
        have d4 : u 39 = .bool true := hd 4 (by kernel_rfl)
        clear hd
        simp only [overlay, List.setIfInBounds_toArray, List.set, d4] at hK ⊢
        go_wp2_with fail
        exact hK _ _ X (Ext.refl _) kept_m hX rfl
      · refine ⟨_, 41, rfl, by kernel_rfl, ?_⟩
        intro u w9 X hE hX hd K hK
        have d4 : u 39 = .bool true := hd 4 (by kernel_rfl)
        clear hd
        simp only [overlay, List.setIfInBounds_toArray, List.set, d4] at hK ⊢
        go_wp2_with fail
        exact hK _ _ X (Ext.refl _) kept_m hX rfl
      · refine ⟨_, 42, rfl, by kernel_rfl, ?_⟩
        intro u w9 X hE hX hd K hK
        have d4 : u 39 = .bool true := hd 4 (by kernel_rfl)
        clear hd
        simp only [overlay, List.setIfInBounds_toArray, List.set, d4] at hK ⊢
        go_wp2_with fail
        exact hK _ _ X (Ext.refl _) kept_m hX rfl
      · refine ⟨_, 43, rfl, by kernel_rfl, ?_⟩
        intro u w9 X hE hX hd K hK
        have d6 : u 41 = .slice (some ⟨b1, f1, none⟩) n cs := hd 6 (by kernel_rfl)
        have d7 : u 42 = .int .i64 (j : Int) := hd 7 (by kernel_rfl)
        have d4 : u 39 = .bool true := hd 4 (by kernel_rfl)
        clear hd
        simp only [overlay, List.setIfInBounds_toArray, List.set, d6, d7, d4] at hK ⊢
        go_wp2_with fail
        exact hK _ _ X (Ext.refl _) kept_m hX rfl
      · refine ⟨_, 44, rfl, by kernel_rfl, ?_⟩
        intro u w9 X hE hX hd K hK
        have d8 : u 43 = .pointer (some ⟨b1, f1 + j, none⟩) := hd 8 (by kernel_rfl)
        have d4 : u 39 = .bool true := hd 4 (by kernel_rfl)
        clear hd
        simp only [overlay, List.setIfInBounds_toArray, List.set, d8, d4] at hK ⊢
        have e9 : Ext wr w9 := (Ext.refl wr).drew.trans hE
        have a9 := e9.cell CX.out
        go_wp2_with fail
        exact hK _ _ X (Ext.refl _) kept_m hX rfl
      · refine ⟨_, 45, rfl, by kernel_rfl, ?_⟩
        intro u w9 X hE hX hd K hK
        have d4 : u 39 = .bool true := hd 4 (by kernel_rfl)
        clear hd
        simp only [overlay, List.setIfInBounds_toArray, List.set, d4] at hK ⊢
        have e9 : Ext wr w9 := (Ext.refl wr).drew.trans hE
        obtain ⟨s0, s1, s2, s3⟩ := ((HB.out.ext HER.out).ext e9).cell
        go_wp2_with fail
        exact hK _ _ X (Ext.refl _) kept_m hX rfl
      · refine ⟨_, 46, rfl, by kernel_rfl, ?_⟩
        intro u w9 X hE hX hd K hK
        have d5 : u 40 = .func (.func 149) #[] #[lv] := hd 5 (by kernel_rfl)
        have d9 : u 44 = .int .i64 x := hd 9 (by kernel_rfl)
        have d10 : u 45 = .agg #[.int .i64 qk, .slice qa qla qma, .slice qb qlb qmb, .slice qc qlc qmc] := hd 10 (by kernel_rfl)
        have d4 : u 39 = .bool true := hd 4 (by kernel_rfl)
        clear hd
        simp only [overlay, List.setIfInBounds_toArray, List.set, d5, d9, d10, d4] at hK ⊢
        have e9 : Ext wr w9 := (Ext.refl wr).drew.trans hE
        go_wp2_with fail
        refine (HCX.out w9 (HE.out.trans (HE0.out.trans (HER.out.trans e9)))).mono ?_
        rintro e w8 ⟨rfl, hE8⟩
        go_wp2_with fail
        exact hK _ _ X hE8 kept_m (hX.ext hE8) rfl
      · refine ⟨_, 47, rfl, by kernel_rfl, ?_⟩
        intro u w9 X hE hX hd K hK
        have d11 : u 46 = .int .i64 z := hd 11 (by kernel_rfl)
        have d4 : u 39 = .bool true := hd 4 (by kernel_rfl)
        clear hd
        simp only [overlay, List.setIfInBounds_toArray, List.set, d11, d4] at hK ⊢
        go_wp2_with fail
        exact hK _ _ X (Ext.refl _) kept_m hX rfl
      · refine ⟨_, 48, rfl, by kernel_rfl, ?_⟩
        intro u w9 X hE hX hd K hK
        have d4 : u 39 = .bool true := hd 4 (by kernel_rfl)
        have d12 : u 47 = .bool true := hd 12 (by kernel_rfl)
        clear hd
        simp only [overlay, List.setIfInBounds_toArray, List.set, d4, d12] at hK ⊢
        go_wp2_with fail
        exact hK _ _ X (Ext.refl _) kept_m hX rfl
      · refine ⟨_, 6, rfl, by kernel_rfl, ?_⟩
        intro u w9 X hE hX hd K hK
        have d0 : u 35 = .int .i64 (j : Int) := hd 0 (by kernel_rfl)
        clear hd
        simp only [overlay, List.setIfInBounds_toArray, List.set, d0] at hK ⊢
        go_wp2_with fail
        exact hK _ _ X (Ext.refl _) kept_m hX rfl
    · exact mem_nil_m
    intro u w9 X hE hX hd
    have d0 : u 35 = .int .i64 (j : Int) := hd 0 (by decide)
    have d1 : u 36 = .int .i64 (j : Int) := hd 1 (by decide)
    have d2 : u 37 = .int .i64 (n : Int) := hd 2 (by decide)
    have d3 : u 38 = .bool true := hd 3 (by decide)
    have d4 : u 39 = .bool true := hd 4 (by decide)
    have d5 : u 40 = .func (.func 149) #[] #[lv] := hd 5 (by decide)
    have d6 : u 41 = .slice (some ⟨b1, f1, none⟩) n cs := hd 6 (by decide)
    have d7 : u 42 = .int .i64 (j : Int) := hd 7 (by decide)
    have d8 : u 43 = .pointer (some ⟨b1, f1 + j, none⟩) := hd 8 (by decide)
    have d9 : u 44 = .int .i64 x := hd 9 (by decide)
    have d10 : u 45 = .agg #[.int .i64 qk, .slice qa qla qma, .slice qb qlb qmb, .slice qc qlc qmc] := hd 10 (by decide)
    have d11 : u 46 = .int .i64 z := hd 11 (by decide)
    have d12 : u 47 = .bool true := hd 12 (by decide)
    have d13 : u 48 = .bool true := hd 13 (by decide)
    have d14 : u 6 = .int .i64 (j : Int) := hd 14 (by decide)
    clear hd
    simp only [overlay, List.setIfInBounds_toArray, List.set, d0, d1, d2, d3, d4, d5, d6, d7, d8, d9, d10, d11, d12, d13, d14]
    have e9 : Ext wr w9 := (Ext.refl wr).drew.trans hE
    clear d0 d1 d2 d3 d4 d5 d6 d7 d8 d9 d10 d11 d12 d13 d14
    clear hX hE
    generalize u 44 = t44z1
    generalize u 45 = t45z1
    clear u
    obtain ⟨wk2, rfl⟩ : ∃ wx : World, wx = w9 := ⟨_, rfl⟩
    have HEN := Lib.hid (HE0.out.trans (HER.out.trans e9))
    clear e9
    go_wp2_with fail
    refine OnlyN.mk ?_
    (try simp only [Exit.inBlock, Exit.then])
    go_wp2_with fail
    refine bodyPost_ret (v := .tuple #[.int .i64 (j : Int), .bool true]) (by simp [results, Try.results148]) rfl ?_
    exact ⟨j, hjn, HLo.out, HHi.out, by rw [HR.out], HEN.out⟩
  · have hzd : decide (z = 0) = false := by simpa using hz
    have hzb : (z == 0) = false := by simpa using hz
    have HR : Hid (decide (j < n ∧ cf (ix.getD j 0) = 0) = false) := by unfold Hid; rw [HGX.out, HGZ.out]; simp [hin, hz]
    clear hz
    go_wp2_with fail
    refine wp_region_x1 [MProp.is (.int .i64 (j : Int)), MProp.is (.int .i64 (j : Int)), MProp.is (.int .i64 (n : Int)), MProp.is (.bool true), MProp.is (.bool true), MProp.is (.func (.func 149) #[] #[lv]), MProp.is (.slice (some ⟨b1, f1, none⟩) n cs), MProp.is (.int .i64 (j : Int)), MProp.is (.pointer (some ⟨b1, f1 + j, none⟩)), MProp.is (.int .i64 x), MProp.is (.agg #[.int .i64 qk, .slice qa qla qma, .slice qb qlb qmb, .slice qc qlc qmc]), MProp.is (.int .i64 z), MProp.is (.bool false), MProp.is (.bool false), MProp.is (.int .i64 (j : Int))] [0, 1, 2, 3, 4, 5, 6, 7, 8, 9, 10, 11, 12, 13, 14] [] [35, 36, 37, 38, 39, 40, 41, 42, 43, 44, 45, 46, 47, 48, 6] 15 (by kernel_rfl) (by kernel_rfl) (by kernel_rfl) rfl ?_ ?_ ?_
    · refine mem_cons_m ?_ (mem_cons_m ?_ (mem_cons_m ?_ (mem_cons_m ?_ (mem_cons_m ?_ (mem_cons_m ?_ (mem_cons_m ?_ (mem_cons_m ?_ (mem_cons_m ?_ (mem_cons_m ?_ (mem_cons_m ?_ (mem_cons_m ?_ (mem_cons_m ?_ (mem_cons_m ?_ (mem_cons_m ?_ (mem_nil_m)))))))))))))))
      · refine ⟨_, 35, rfl, by kernel_rfl, ?_⟩
        intro u w9 X hE hX hd K hK
        clear hd
        simp only [overlay, List.setIfInBounds_toArray, List.set] at hK ⊢
        go_wp2_with fail
        exact hK _ _ X (Ext.refl _) kept_m hX rfl
      · refine ⟨_, 36, rfl, by kernel_rfl, ?_⟩
        intro u w9 X hE hX hd K hK
        clear hd
        simp only [overlay, List.setIfInBounds_toArray, List.set] at hK ⊢
        go_wp2_with fail
        exact hK _ _ X (Ext.refl _) kept_m hX rfl
      · refine ⟨_, 37, rfl, by kernel_rfl, ?_⟩
        intro u w9 X hE hX hd K hK
        clear hd
        simp only [overlay, List.setIfInBounds_toArray, List.set] at hK ⊢
        go_wp2_with fail
        exact hK _ _ X (Ext.refl _) kept_m hX rfl
      · refine ⟨_, 38, rfl, by kernel_rfl, ?_⟩
        intro u w9 X hE hX hd K hK
        have d1 : u 36 = .int .i64 (j : Int) := hd 1 (by kernel_rfl)
        have d2 : u 37 = .int .i64 (n : Int) := hd 2 (by kernel_rfl)
        clear hd
        simp only [overlay, List.setIfInBounds_toArray, List.set, d1, d2] at hK ⊢
        go_wp2_with fail
        exact hK _ _ X (Ext.refl _) kept_m hX rfl
      · refine ⟨_, 39, rfl, by kernel_rfl, ?_⟩
        intro u w9 X hE hX hd K hK
        have d3 : u 38 = .bool true := hd 3 (by kernel_rfl)
        clear hd
        simp only [overlay, List.setIfInBounds_toArray, List.set, d3] at hK ⊢
        go_wp2_with fail
        exact hK _ _ X (Ext.refl _) kept_m hX rfl
      · refine ⟨_, 40, rfl, by kernel_rfl, ?_⟩
        intro u w9 X hE hX hd K hK
        have d4 : u 39 = .bool true := hd 4 (by kernel_rfl)
        clear hd
        simp only [overlay, List.setIfInBounds_toArray, List.set, d4] at hK ⊢
        go_wp2_with fail
        exact hK _ _ X (Ext.refl _) kept_m hX rfl
      · refine ⟨_, 41, rfl, by kernel_rfl, ?_⟩
        intro u w9 X hE hX hd K hK
        have d4 : u 39 = .bool true := hd 4 (by kernel_rfl)
        clear hd
        simp only [overlay, List.setIfInBounds_toArray, List.set, d4] at hK ⊢
        go_wp2_with fail
        exact hK _ _ X (Ext.refl _) kept_m hX rfl
      · refine ⟨_, 42, rfl, by kernel_rfl, ?_⟩
        intro u w9 X hE hX hd K hK
        have d4 : u 39 = .bool true := hd 4 (by kernel_rfl)
        clear hd
        simp only [overlay, List.setIfInBounds_toArray, List.set, d4] at hK ⊢
        go_wp2_with fail
        exact hK _ _ X (Ext.refl _) kept_m hX rfl
      · refine ⟨_, 43, rfl, by kernel_rfl, ?_⟩
        intro u w9 X hE hX hd K hK
        have d6 : u 41 = .slice (some ⟨b1, f1, none⟩) n cs := hd 6 (by kernel_rfl)
        have d7 : u 42 = .int .i64 (j : Int) := hd 7 (by kernel_rfl)
        have d4 : u 39 = .bool true := hd 4 (by kernel_rfl)
        clear hd
        simp only [overlay, List.setIfInBounds_toArray, List.set, d6, d7, d4] at hK ⊢
        go_wp2_with fail
        exact hK _ _ X (Ext.refl _) kept_m hX rfl
      · refine ⟨_, 44, rfl, by kernel_rfl, ?_⟩
        intro u w9 X hE hX hd K hK
        have d8 : u 43 = .pointer (some ⟨b1, f1 + j, none⟩) := hd 8 (by kernel_rfl)
        have d4 : u 39 = .bool true := hd 4 (by kernel_rfl)
        clear hd
        simp only [overlay, List.setIfInBounds_toArray, List.set, d8, d4] at hK ⊢
        have e9 : Ext wr w9 := (Ext.refl wr).drew.trans hE
        have a9 := e9.cell CX.out
        go_wp2_with fail
        exact hK _ _ X (Ext.refl _) kept_m hX rfl
      · refine ⟨_, 45, rfl, by kernel_rfl, ?_⟩
        intro u w9 X hE hX hd K hK
        have d4 : u 39 = .bool true := hd 4 (by kernel_rfl)
        clear hd
        simp only [overlay, List.setIfInBounds_toArray, List.set, d4] at hK ⊢
        have e9 : Ext wr w9 := (Ext.refl wr).drew.trans hE
        obtain ⟨s0, s1, s2, s3⟩ := ((HB.out.ext HER.out).ext e9).cell
        go_wp2_with fail
        exact hK _ _ X (Ext.refl _) kept_m hX rfl
      · refine ⟨_, 46, rfl, by kernel_rfl, ?_⟩
        intro u w9 X hE hX hd K hK
        have d5 : u 40 = .func (.func 149) #[] #[lv] := hd 5 (by kernel_rfl)
        have d9 : u 44 = .int .i64 x := hd 9 (by kernel_rfl)
        have d10 : u 45 = .agg #[.int .i64 qk, .slice qa qla qma, .slice qb qlb qmb, .slice qc qlc qmc] := hd 10 (by kernel_rfl)
        have d4 : u 39 = .bool true := hd 4 (by kernel_rfl)
        clear hd
        simp only [overlay, List.setIfInBounds_toArray, List.set, d5, d9, d10, d4] at hK ⊢
        have e9 : Ext wr w9 := (Ext.refl wr).drew.trans hE
        go_wp2_with fail
        refine (HCX.out w9 (HE.out.trans (HE0.out.trans (HER.out.trans e9)))).mono ?_
        rintro e w8 ⟨rfl, hE8⟩
        go_wp2_with fail
        exact hK _ _ X hE8 kept_m (hX.ext hE8) rfl
      · refine ⟨_, 47, rfl, by kernel_rfl, ?_⟩
        intro u w9 X hE hX hd K hK
        have d11 : u 46 = .int .i64 z := hd 11 (by kernel_rfl)
        have d4 : u 39 = .bool true := hd 4 (by kernel_rfl)
        clear hd
        simp only [overlay, List.setIfInBounds_toArray, List.set, d11, d4] at hK ⊢
        go_wp2_with fail
        exact hK _ _ X (Ext.refl _) kept_m hX rfl
      · refine ⟨_, 48, rfl, by kernel_rfl, ?_⟩
        intro u w9 X hE hX hd K hK
        have d4 : u 39 = .bool true := hd 4 (by kernel_rfl)
        have d12 : u 47 = .bool false := hd 12 (by kernel_rfl)
        clear hd
        simp only [overlay, List.setIfInBounds_toArray, List.set, d4, d12] at hK ⊢
        go_wp2_with fail
        exact hK _ _ X (Ext.refl _) kept_m hX rfl
      · refine ⟨_, 6, rfl, by kernel_rfl, ?_⟩
        intro u w9 X hE hX hd K hK
        have d0 : u 35 = .int .i64 (j : Int) := hd 0 (by kernel_rfl)
        clear hd
        simp only [overlay, List.setIfInBounds_toArray, List.set, d0] at hK ⊢
        go_wp2_with fail
        exact hK _ _ X (Ext.refl _) kept_m hX rfl
    · exact mem_nil_m
    intro u w9 X hE hX hd
    have d0 : u 35 = .int .i64 (j : Int) := hd 0 (by decide)
    have d1 : u 36 = .int .i64 (j : Int) := hd 1 (by decide)
    have d2 : u 37 = .int .i64 (n : Int) := hd 2 (by decide)
    have d3 : u 38 = .bool true := hd 3 (by decide)
    have d4 : u 39 = .bool true := hd 4 (by decide)
    have d5 : u 40 = .func (.func 149) #[] #[lv] := hd 5 (by decide)
    have d6 : u 41 = .slice (some ⟨b1, f1, none⟩) n cs := hd 6 (by decide)
    have d7 : u 42 = .int .i64 (j : Int) := hd 7 (by decide)
    have d8 : u 43 = .pointer (some ⟨b1, f1 + j, none⟩) := hd 8 (by decide)
    have d9 : u 44 = .int .i64 x := hd 9 (by decide)
    have d10 : u 45 = .agg #[.int .i64 qk, .slice qa qla qma, .slice qb qlb qmb, .slice qc qlc qmc] := hd 10 (by decide)
    have d11 : u 46 = .int .i64 z := hd 11 (by decide)
    have d12 : u 47 = .bool false := hd 12 (by decide)
    have d13 : u 48 = .bool false := hd 13 (by decide)
    have d14 : u 6 = .int .i64 (j : Int) := hd 14 (by decide)
    clear hd
    simp only [overlay, List.setIfInBounds_toArray, List.set, d0, d1, d2, d3, d4, d5, d6, d7, d8, d9, d10, d11, d12, d13, d14]
    have e9 : Ext wr w9 := (Ext.refl wr).drew.trans hE
    clear d0 d1 d2 d3 d4 d5 d6 d7 d8 d9 d10 d11 d12 d13 d14
    clear hX hE
    generalize u 44 = t44z1
    generalize u 45 = t45z1
    clear u
    obtain ⟨wk2, rfl⟩ : ∃ wx : World, wx = w9 := ⟨_, rfl⟩
    have HEN := Lib.hid (HE0.out.trans (HER.out.trans e9))
    clear e9
    go_wp2_with fail
    refine OnlyN.mk ?_
    (try simp only [Exit.inBlock, Exit.then])
    go_wp2_with fail
    refine bodyPost_ret (v := .tuple #[.int .i64 (j : Int), .bool false]) (by simp [results, Try.results148]) rfl ?_
    exact ⟨j, hjn, HLo.out, HHi.out, by rw [HR.out], HEN.out⟩
end Go.Proofs.Ytgkemmdghmklfaa

namespace Go.Proofs.Ytgkemmdghmklfaa
set_option linter.unusedSimpArgs false
set_option linter.unusedVariables false
open Go.RowKit

/-- A struct of two cells (an index) in a block of its own. -/
def Box2 (w : World) (b : Nat) (c0 c1 : Value) : Prop := w.heap[b]? = some (.cells #[c0, c1] 124 (0, 0))
theorem Box2.cell {w : World} {b : Nat} {c0 c1 : Value} (h : Box2 w b c0 c1) : w.cell? ⟨b, 0, none⟩ = some c0 ∧ w.cell? ⟨b, 1, none⟩ = some c1 := by
  unfold Box2 at h
  refine ⟨?_, ?_⟩ <;> simp [World.cell?, h]
theorem Box2.free {w : World} {b : Nat} {c0 c1 : Value} (h : Box2 w b c0 c1) (o : Nat) : w.frozen? ⟨b, o, none⟩ = false := by
  unfold Box2 at h
  simp [World.frozen?, h]
theorem Box2.lt {w : World} {b : Nat} {c0 c1 : Value} (h : Box2 w b c0 c1) : b < w.heap.size := (Array.getElem?_eq_some_iff.1 h).1
theorem Box2.ext {w w' : World} {b : Nat} {c0 c1 : Value} (h : Box2 w b c0 c1) (e : Ext w w') : Box2 w' b c0 c1 := by
  have h2 := e.block h.lt
  unfold Box2 at h ⊢
  rw [h2]; exact h
theorem box2_new (w : World) (c0 c1 : Value) : Box2 (w.alloc (.cells #[c0, c1] 124)) w.heap.size c0 c1 := heap_alloc_new w _
theorem Box2.put2 {w0 w : World} {b : Nat} {c0 c1 : Value} (h : Box2 w b c0 c1) (hE : Ext w0 w) (hb : w0.heap.size ≤ b) (v0 v1 : Value) :
    Ext w0 ((w.setCell ⟨b, 0, none⟩ v0).setCell ⟨b, 1, none⟩ v1) ∧ Box2 ((w.setCell ⟨b, 0, none⟩ v0).setCell ⟨b, 1, none⟩ v1) b v0 v1 ∧
    ∀ x, x ≠ b → ((w.setCell ⟨b, 0, none⟩ v0).setCell ⟨b, 1, none⟩ v1).heap[x]? = w.heap[x]? := by
  refine ⟨(hE.setCell (p := ⟨b, 0, none⟩) hb _).setCell (p := ⟨b, 1, none⟩) hb _, ?_, fun x hx => by rw [Below.heap_setCell _ _ _ _ hx, Below.heap_setCell _ _ _ _ hx]⟩
  have h1 := heap_setCell_at (o := 0) (v := v0) h
  have h2 := heap_setCell_at (o := 1) (v := v1) h1
  simpa [Box2] using h2

theorem sortL_right {m : Nat} {L : List Arr} (hr : ∀ t ∈ L, rightV t = 0) : sortL m L = insAll (cmpM m L) L.length := if_pos hr
theorem sortL_len {m : Nat} {L : List Arr} (hr : ∀ t ∈ L, rightV t = 0) : (sortL m L).length = L.length := by rw [sortL_right hr, (insAll_perm _ _).length_eq, idxs_length]

set_option maxRecDepth 1000000 in
set_option maxHeartbeats 8000000 in
theorem find_any (m : Nat) (F G H : Nat → Prop) (L : List Arr) (q : Arr) (cL cs : Nat) (pL ps : Option Addr) (qk : Int) (qa qb qc : Option Addr) (qla qma qlb qmb qlc qmc : Nat) (w : World) (h : ItemsAt F w pL 0 L) (hS : IntsAt H w ps (sortL m L))
    (hq : ArrAt G w q (.int .i64 qk) (.slice qa qla qma) (.slice qb qlb qmb) (.slice qc qlc qmc)) (hr : ∀ t ∈ L, rightV t = 0) (hm : ∀ t ∈ L, szA t < m) (hqr : rightV q = 0) (hl : L.length ≤ 65536) (n : Nat) (hn : L.length = n) :
    Calls Try.prog 112 #[.agg #[.slice pL n cL, .slice ps n cs], .agg #[.int .i64 qk, .slice qa qla qma, .slice qb qlb qmb, .slice qc qlc qmc]] w fun e w' => e = .returned (.int .i64 (placeV L q : Int)) ∧ Ext w w' := by
  have hsl := sortL_len (m := m) hr
  have hE0 : Ext w ((w.alloc (.cells #[.slice pL n cL, .slice ps n cs] 124)).alloc (.cells #[.int .i64 qk, .slice qa qla qma, .slice qb qlb qmb, .slice qc qlc qmc] 26)) := ((Ext.refl _).alloc _).alloc _
  have hB := (box2_new w (.slice pL n cL) (.slice ps n cs)).ext ((Ext.refl _).alloc (.cells #[.int .i64 qk, .slice qa qla qma, .slice qb qlb qmb, .slice qc qlc qmc] 26))
  have hQ := box_new (w.alloc (.cells #[.slice pL n cL, .slice ps n cs] 124)) (.int .i64 qk) (.slice qa qla qma) (.slice qb qlb qmb) (.slice qc qlc qmc)
  rw [World.size_alloc] at hQ
  have HBS := Lib.hid (fun (w1 : World) (e : Ext w w1) (bx : Nat) (hb : w1.cell? ⟨bx, 0, none⟩ = some (.slice pL n cL)) => bsearch_any (cmpQ m L q) w1 (.pointer (some ⟨bx, 0, none⟩)) qk qa qb qc qla qma qlb qmb qlc qmc H (sortL m L) ps cs w1 (fun w' x e2 hx => by
      have hx2 := idxs_mem.1 ((insAll_perm _ _).mem_iff.1 (by rw [sortL_right hr] at hx; exact hx))
      refine findc_any m F G L q bx cL pL qk qa qb qc qla qma qlb qmb qlc qmc w' ?_ (h.ext (e.trans e2)) (hq.ext (e.trans e2)) hr hm hqr x hx2.1 hx2.2
      rw [hn]; exact e2.cell hb) (fun a b hab hb hlt => by
      rw [sortL_right hr] at hlt ⊢
      exact cmpQ_mono hab (by rw [hsl] at hb; exact hb) hlt) (hS.ext e) (Ext.refl _) (by rw [hsl]; exact hl) n (by rw [hsl]; exact hn))
  have HPL := Lib.hid (fun (i : Nat) h1 h2 => place_of (m := m) (L := L) (q := q) hr hm hqr (i := i) h1 h2)
  have HSL := Lib.hid (sortL_right (m := m) hr)
  have HHS := Lib.hid hS
  have HE0 := Lib.hid hE0
  have HB := Lib.hid hB
  have HQ := Lib.hid hQ
  have HN := Lib.hid hn
  have HSN := Lib.hid hsl
  rw [hn] at hl
  clear h hS hq hr hm hqr hE0 hB hQ hn hsl
  go_enter Try.func112, Try.ntmps112
  go_upto_region 1 with (fail)
  generalize (w.alloc (.cells #[.slice pL n cL, .slice ps n cs] 124)).alloc (.cells #[.int .i64 qk, .slice qa qla qma, .slice qb qlb qmb, .slice qc qlc qmc] 26) = w1 at HE0 HB HQ ⊢
  obtain ⟨b0, b1⟩ := HB.out.cell
  obtain ⟨q0, q1, q2, q3⟩ := HQ.out.cell
  have HCALL := Lib.hid (HBS.out w1 HE0.out w.heap.size b0)
  clear HBS HQ
  go_wp2_with fail
  refine HCALL.out.mono ?_
  rintro e w2 ⟨i, hin, h1, h2, rfl, hE2⟩
  rw [HSL.out] at h1 h2
  have hpl := HPL.out i h1 (fun h ha hb => h2 h ha (by rw [← HN.out]; exact hb))
  have HE2 := Lib.hid (HE0.out.trans hE2)
  have HB2 := Lib.hid (HB.out.ext hE2)
  clear hE2 HE0 HB b0 b1 q0 q1 q2 q3 HCALL h1 h2 HPL
  obtain ⟨b0, b1⟩ := HB2.out.cell
  by_cases hc : i < n ∧ cmpQ m L q ((sortL m L).getD i 0) = 0
  · rw [decide_eq_true hc]
    have hv := hpl.1 (by rw [HN.out]; exact hc.1) (by rw [← HSL.out]; exact hc.2)
    rw [← HSL.out] at hv
    have hilt : i < (sortL m L).length := by rw [HSN.out, HN.out]; exact hc.1
    obtain ⟨b3, f3, rfl, c3, _, _⟩ := (HHS.out.ext HE2.out).get hilt
    rw [hv] at c3
    have hi2 := hc.1
    clear hc hv hpl hilt HHS
    go_wp2_with fail
    go_ret
    exact ⟨rfl, HE2.out⟩
  · rw [decide_eq_false hc]
    have hv := hpl.2 (fun h => hc ⟨by rw [← HN.out]; exact h.1, by rw [HSL.out]; exact h.2⟩)
    rw [HN.out] at hv
    have HV := Lib.hid hv
    clear hc hpl hv HHS
    go_wp2_with fail
    go_ret
    exact ⟨ret_int (by rw [HV.out]), HE2.out⟩

set_option maxRecDepth 1000000 in
set_option maxHeartbeats 8000000 in
theorem indexed_any (F : Nat → Prop) (x : Arr) (c0 c1 c2 c3 : Value) (w : World) (hx : ArrAt F w x c0 c1 c2 c3) (hr : rightV x = 0) :
    Calls Try.prog 111 #[.agg #[c0, c1, c2, c3]] w fun e w' => ∃ pL cL ps cs, e = .returned (.agg #[.slice pL (cellsV x (-1)).length cL, .slice ps (cellsV x (-1)).length cs]) ∧ ItOk (cellsV x (-1)).length cL ∧ ItemsAt (fun b => w.heap.size ≤ b) w' pL 0 (cellsV x (-1)) ∧ IntsAt (fun b => w.heap.size ≤ b) w' ps (sortL (szL (cellsV x (-1))) (cellsV x (-1))) ∧ Ext w w' := by
  obtain ⟨f, c, z, ok⟩ := cells_ok hr (-1)
  have hlen : (cellsV x (-1)).length ≤ 65536 := by
    rw [ok.ce, List.length_map, List.length_range]
    obtain ⟨kx, s, n, it⟩ := x
    obtain ⟨_, h8, hrr, _, _⟩ := right_parts hr
    have h1 := (size_split hrr h8 f).2.2.1
    have h2 := ok.sc
    simp only [Arr.sh] at h2
    omega
  have hrt : ∀ t ∈ cellsV x (-1), rightV t = 0 := fun t ht => by
    rw [ok.ce] at ht
    obtain ⟨i, hi, rfl⟩ := List.mem_map.1 ht
    exact (cell_facts hr ok (List.mem_range.1 hi)).1
  have hsl := sortL_len (m := szL (cellsV x (-1))) hrt
  have HC := Lib.hid (fun (w1 : World) (e : Ext w w1) => ccells_any F x c0 c1 c2 c3 (-1) w1 (hx.ext e) (by decide))
  obtain ⟨k, p1, l1, m1, p2, l2, m2, p3, l3, m3, rfl, rfl, rfl, rfl⟩ := hx.form
  generalize cellsV x (-1) = L at *
  clear ok hrt hr hx
  have HSL := Lib.hid hsl
  have HLN := Lib.hid hlen
  have hE0 : Ext w ((w.alloc (.cells #[.int .i64 k, .slice p1 l1 m1, .slice p2 l2 m2, .slice p3 l3 m3] 26)).alloc (.cells #[.slice none 0 0, .slice none 0 0] 124)) := ((Ext.refl _).alloc _).alloc _
  have hB := box2_new (w.alloc (.cells #[.int .i64 k, .slice p1 l1 m1, .slice p2 l2 m2, .slice p3 l3 m3] 26)) (.slice none 0 0) (.slice none 0 0)
  rw [World.size_alloc] at hB
  have HE0 := Lib.hid hE0
  have HB := Lib.hid hB
  clear hE0 hB hsl hlen
  go_enter Try.func111, Try.ntmps111
  go_wp2_with fail
  refine (HC.out _ HE0.out).mono ?_
  rintro e w2 ⟨v, rfl, ⟨p, c, rfl, hk, hi⟩, hE2⟩
  have hi2 := ItemsAt.mono (G := fun b => w.heap.size + 1 + 1 ≤ b) (fun b hb _ => ⟨by simpa using hb, rfl⟩) _ _ _ hi
  have hl2 : w.heap.size + 1 + 1 ≤ w2.heap.size := by have := hE2.lt; simpa using this
  have HI := Lib.hid hi2
  have HK := Lib.hid hk
  replace HB := Lib.hid (HB.out.ext hE2)
  replace HE := Lib.hid (HE0.out.trans hE2)
  have HSO := Lib.hid (sortedN_any (szL L) _ p c L w2 hi2 (fun t ht => szL_mem ht) HLN.out)
  clear hi hi2 hk hE2 HE0 HC
  go_wp2_with fail
  refine HSO.out.mono ?_
  rintro e w3 ⟨v, rfl, hO, hE3⟩
  obtain ⟨ps, cs, rfl, hks, his⟩ := hO.ints
  rw [HSL.out]
  have HIS := Lib.hid (his.mono (G := fun b => w.heap.size + 1 + 1 ≤ b) (fun b hb _ => ⟨Nat.le_trans hl2 hb.1, rfl⟩))
  replace HI := Lib.hid (HI.out.ext hE3)
  replace HB := Lib.hid (HB.out.ext hE3)
  replace HE := Lib.hid (HE.out.trans hE3)
  clear hO hE3 his hks HSO
  obtain ⟨b0, b1⟩ := HB.out.cell
  have f0 := HB.out.free 0
  have f1 := HB.out.free 1
  go_wp2_with fail
  obtain ⟨g1, g2, g3⟩ := HB.out.put2 HE.out (Nat.le_succ _) (.slice p L.length c) (.slice ps L.length cs)
  revert g1 g2 g3
  generalize (w3.setCell ⟨w.heap.size + 1, 0, none⟩ (.slice p L.length c)).setCell ⟨w.heap.size + 1, 1, none⟩ (.slice ps L.length cs) = w9
  intro g1 g2 g3
  obtain ⟨z0, z1⟩ := g2.cell
  refine bodyPost_ret (v := .agg #[.slice p L.length c, .slice ps L.length cs]) ?_ rfl ⟨_, _, _, _, rfl, HK.out, ItemsAt.mono (fun b hb _ => ⟨by omega, g3 b (by omega)⟩) _ _ _ HI.out, HIS.out.mono fun b hb _ => ⟨by omega, g3 b (by omega)⟩, g1⟩
  simp [results, Try.results111, go_sem, z0, z1]
end Go.Proofs.Ytgkemmdghmklfaa

namespace Go.Proofs.Ytgkemmdghmklfaa
set_option linter.unusedSimpArgs false
set_option linter.unusedVariables false
open Go.RowKit

def RdNw (B : Nat) (w : World) (l : List Int) (v : Value) : Prop := ∃ (p : Option Addr) (c : Nat), v = .slice p l.length c ∧ SlOk l.length c ∧ IntsAt (fun b => B ≤ b) w p l
theorem RdNw.ext {B : Nat} {w w' : World} {l : List Int} {v : Value} (h : RdNw B w l v) (e : Ext w w') : RdNw B w' l v := by
  obtain ⟨p, c, h1, h2, h3⟩ := h
  exact ⟨p, c, h1, h2, h3.ext e⟩
def MProp.rdn (B : Nat) (l : List Int) : MProp := ⟨fun _ w v => RdNw B w l v, fun _ _ _ _ _ e _ h => h.ext e⟩
set_option maxRecDepth 100000 in
set_option maxHeartbeats 4000000 in
theorem cframeN_any (F : Nat → Prop) (x : Arr) (c0 c1 c2 c3 : Value) (k : Int) (w : World) (hx : ArrAt F w x c0 c1 c2 c3) (hk : -9223372036854775808 ≤ k ∧ k ≤ 9223372036854775807) :
    Calls Try.prog 147 #[.agg #[c0, c1, c2, c3], .int .i64 k] w fun e w' => ∃ v, e = .returned v ∧ RdNw w.heap.size w' (frameV x k) v ∧ Ext w w' := by
  obtain ⟨kx, s, nx, ix⟩ := x
  have hx' := hx
  unfold ArrAt at hx'
  obtain ⟨rfl, hkx, ⟨p1, m1, rfl, ⟨o1, o1', o1''⟩, i1⟩, ⟨p2, m2, rfl, ⟨o2, o2', o2''⟩, i2⟩, ⟨p3, m3, rfl, ⟨o3, o3', o3''⟩, i3⟩⟩ := hx'
  have HX := Lib.hid hx
  have HS := Lib.hid i1
  clear hx i1 i2 i3
  have HV : Hid (frameV (.mk kx s nx ix) k = if rightV (.mk kx s nx ix) ≠ 0 then [] else s.take (s.length - (rankV k s.length).toNat)) := rfl
  generalize frameV (.mk kx s nx ix) k = fv at *
  go_enter Try.func147, Try.ntmps147
  have hE0 : Ext w (w.alloc (.cells #[.int .i64 kx, .slice p1 s.length m1, .slice p2 nx.length m2, .slice p3 ix.length m3] 26)) := (Ext.refl _).alloc _
  have hB := box_new w (.int .i64 kx) (.slice p1 s.length m1) (.slice p2 nx.length m2) (.slice p3 ix.length m3)
  have HR := Lib.hid (right_any F _ _ _ _ _ _ (HX.out.ext hE0))
  have HE := Lib.hid hE0
  have HB := Lib.hid hB
  clear hE0 hB
  go_wp2_with fail
  refine HR.out.mono ?_
  rintro e w2 ⟨rfl, hE1⟩
  replace HE := Lib.hid (HE.out.trans hE1)
  have HBx := Lib.hid (HB.out.ext hE1)
  clear HR HB hE1
  generalize rightV (.mk kx s nx ix) = r at *
  by_cases hr : r = 0
  rotate_left
  · have hr1 : (r != 0) = true := by simpa using hr
    have HV2 := Lib.hid (show fv = [] by rw [HV.out, if_pos hr])
    clear hr
    go_wp2_with fail
    go_ret
    refine ⟨_, rfl, ?_, HE.out⟩
    rw [HV2.out]
    exact ⟨none, 0, rfl, ⟨by simp, by simp, by simp⟩, fun i hi => by simp at hi⟩
  subst hr
  have hbd := rankV_bd k s.length (by omega)
  obtain ⟨rv, hrv⟩ : ∃ rv : Nat, rankV k s.length = rv := ⟨(rankV k s.length).toNat, by omega⟩
  rw [hrv] at hbd
  have HRK := Lib.hid (show ∀ w, Calls Try.prog 158 #[.int .i64 k, .int .i64 (s.length : Int)] w fun e w' => e = .returned (.int .i64 (rv : Int)) ∧ Ext w w' from fun w => by
    have h := crank_any k s.length w hk (by omega)
    rw [hrv] at h
    exact same_ext h)
  obtain ⟨n, hn⟩ : ∃ n, s.length - rv = n := ⟨_, rfl⟩
  have HV2 := Lib.hid (show fv = s.take n by rw [HV.out, if_neg (by simp), hrv, Int.toNat_natCast, hn])
  have hsub : (s.length : Int) - (rv : Int) = (n : Int) := by omega
  have hws : IntKind.i64.wrap ((s.length : Int) - (rv : Int)) = (n : Int) := by rw [hsub]; exact IntWalk.i64_in _ (by omega)
  have hnl : n ≤ s.length := by omega
  have hrun := fun w => slice_h p1 s.length m1 w n (by omega)
  have htl : (s.take n).length = n := by rw [List.length_take]; omega
  have HTL := Lib.hid htl
  have hcut := HS.out.cut (n := n) 0 m1 o1
  rw [List.drop_zero] at hcut
  generalize cutAt p1 0 m1 1 = pc at *
  have HCUT := Lib.hid hcut
  have HEw := Lib.hid HE.out
  clear hcut hrv hn htl HV
  go_wp2_with fail
  have HAx : Hid True := Lib.hid trivial
  refine wp_region_x0 [MProp.is (.pointer (some ⟨w.heap.size, 1, none⟩)), MProp.is (.slice p1 s.length m1), MProp.is (.pointer (some ⟨w.heap.size, 1, none⟩)), MProp.is (.slice p1 s.length m1), MProp.is (.int .i64 (s.length : Int)), MProp.is (.int .i64 k), MProp.is (.pointer (some ⟨w.heap.size, 1, none⟩)), MProp.is (.slice p1 s.length m1), MProp.is (.int .i64 (s.length : Int)), MProp.is (.int .i64 (rv : Int)), MProp.is (.int .i64 (n : Int)), MProp.is (.slice pc n m1), MProp.rdn w2.heap.size (s.take n), MProp.rdn w2.heap.size (s.take n)] [0, 1, 2, 3, 4, 5, 6, 7, 8, 9, 10, 11, 12, 13] [] [8, 9, 10, 11, 12, 13, 14, 15, 16, 17, 18, 19, 20, 4] (by kernel_rfl) (by kernel_rfl) (by kernel_rfl) ?_ ?_ ?_
  · refine mem_cons_m ?_ (mem_cons_m ?_ (mem_cons_m ?_ (mem_cons_m ?_ (mem_cons_m ?_ (mem_cons_m ?_ (mem_cons_m ?_ (mem_cons_m ?_ (mem_cons_m ?_ (mem_cons_m ?_ (mem_cons_m ?_ (mem_cons_m ?_ (mem_cons_m ?_ (mem_cons_m ?_ (mem_nil_m))))))))))))))
    · refine ⟨_, 8, rfl, by kernel_rfl, ?_⟩
      intro u w9 X hE hX hd K hK
      clear hd
      simp only [overlay, List.setIfInBounds_toArray, List.set] at hK ⊢
      go_wp2_with fail
      exact hK _ _ X (Ext.refl _) kept_m hX rfl
    · refine ⟨_, 9, rfl, by kernel_rfl, ?_⟩
      intro u w9 X hE hX hd K hK
      have d0 : u 8 = .pointer (some ⟨w.heap.size, 1, none⟩) := hd 0 (by kernel_rfl)
      clear hd
      simp only [overlay, List.setIfInBounds_toArray, List.set, d0] at hK ⊢
      have e9 : Ext w2 w9 := (Ext.refl w2).drew.trans hE
      obtain ⟨s0, s1, s2, s3⟩ := (HBx.out.ext e9).cell
      go_wp2_with fail
      exact hK _ _ X (Ext.refl _) kept_m hX rfl
    · refine ⟨_, 10, rfl, by kernel_rfl, ?_⟩
      intro u w9 X hE hX hd K hK
      clear hd
      simp only [overlay, List.setIfInBounds_toArray, List.set] at hK ⊢
      go_wp2_with fail
      exact hK _ _ X (Ext.refl _) kept_m hX rfl
    · refine ⟨_, 11, rfl, by kernel_rfl, ?_⟩
      intro u w9 X hE hX hd K hK
      have d2 : u 10 = .pointer (some ⟨w.heap.size, 1, none⟩) := hd 2 (by kernel_rfl)
      clear hd
      simp only [overlay, List.setIfInBounds_toArray, List.set, d2] at hK ⊢
      have e9 : Ext w2 w9 := (Ext.refl w2).drew.trans hE
      obtain ⟨s0, s1, s2, s3⟩ := (HBx.out.ext e9).cell
      go_wp2_with fail
      exact hK _ _ X (Ext.refl _) kept_m hX rfl
    · refine ⟨_, 12, rfl, by kernel_rfl, ?_⟩
      intro u w9 X hE hX hd K hK
      have d3 : u 11 = .slice p1 s.length m1 := hd 3 (by kernel_rfl)
      clear hd
      simp only [overlay, List.setIfInBounds_toArray, List.set, d3] at hK ⊢
      go_wp2_with fail
      exact hK _ _ X (Ext.refl _) kept_m hX rfl
    · refine ⟨_, 13, rfl, by kernel_rfl, ?_⟩
      intro u w9 X hE hX hd K hK
      clear hd
      simp only [overlay, List.setIfInBounds_toArray, List.set] at hK ⊢
      go_wp2_with fail
      exact hK _ _ X (Ext.refl _) kept_m hX rfl
    · refine ⟨_, 14, rfl, by kernel_rfl, ?_⟩
      intro u w9 X hE hX hd K hK
      clear hd
      simp only [overlay, List.setIfInBounds_toArray, List.set] at hK ⊢
      go_wp2_with fail
      exact hK _ _ X (Ext.refl _) kept_m hX rfl
    · refine ⟨_, 15, rfl, by kernel_rfl, ?_⟩
      intro u w9 X hE hX hd K hK
      have d6 : u 14 = .pointer (some ⟨w.heap.size, 1, none⟩) := hd 6 (by kernel_rfl)
      clear hd
      simp only [overlay, List.setIfInBounds_toArray, List.set, d6] at hK ⊢
      have e9 : Ext w2 w9 := (Ext.refl w2).drew.trans hE
      obtain ⟨s0, s1, s2, s3⟩ := (HBx.out.ext e9).cell
      go_wp2_with fail
      exact hK _ _ X (Ext.refl _) kept_m hX rfl
    · refine ⟨_, 16, rfl, by kernel_rfl, ?_⟩
      intro u w9 X hE hX hd K hK
      have d7 : u 15 = .slice p1 s.length m1 := hd 7 (by kernel_rfl)
      clear hd
      simp only [overlay, List.setIfInBounds_toArray, List.set, d7] at hK ⊢
      go_wp2_with fail
      exact hK _ _ X (Ext.refl _) kept_m hX rfl
    · refine ⟨_, 17, rfl, by kernel_rfl, ?_⟩
      intro u w9 X hE hX hd K hK
      have d5 : u 13 = .int .i64 k := hd 5 (by kernel_rfl)
      have d8 : u 16 = .int .i64 (s.length : Int) := hd 8 (by kernel_rfl)
      clear hd
      simp only [overlay, List.setIfInBounds_toArray, List.set, d5, d8] at hK ⊢
      have e9 : Ext w2 w9 := (Ext.refl w2).drew.trans hE
      go_wp2_with fail
      refine (HRK.out w9).mono ?_
      rintro e w8 ⟨rfl, hE8⟩
      go_wp2_with fail
      exact hK _ _ X hE8 kept_m (hX.ext hE8) rfl
    · refine ⟨_, 18, rfl, by kernel_rfl, ?_⟩
      intro u w9 X hE hX hd K hK
      have d4 : u 12 = .int .i64 (s.length : Int) := hd 4 (by kernel_rfl)
      have d9 : u 17 = .int .i64 (rv : Int) := hd 9 (by kernel_rfl)
      clear hd
      simp only [overlay, List.setIfInBounds_toArray, List.set, d4, d9] at hK ⊢
      go_wp2_with fail
      exact hK _ _ X (Ext.refl _) kept_m hX rfl
    · refine ⟨_, 19, rfl, by kernel_rfl, ?_⟩
      intro u w9 X hE hX hd K hK
      have d1 : u 9 = .slice p1 s.length m1 := hd 1 (by kernel_rfl)
      have d10 : u 18 = .int .i64 (n : Int) := hd 10 (by kernel_rfl)
      clear hd
      simp only [overlay, List.setIfInBounds_toArray, List.set, d1, d10] at hK ⊢
      go_wp2_with fail
      exact hK _ _ X (Ext.refl _) kept_m hX rfl
    · refine ⟨_, 20, rfl, by kernel_rfl, ?_⟩
      intro u w9 X hE hX hd K hK
      have d11 : u 19 = .slice pc n m1 := hd 11 (by kernel_rfl)
      clear hd
      simp only [overlay, List.setIfInBounds_toArray, List.set, d11] at hK ⊢
      have e9 : Ext w2 w9 := (Ext.refl w2).drew.trans hE
      have hcl := clone_ints F pc m1 (s.take n) w9 (HCUT.out.ext (HEw.out.trans e9)) (by unfold lenMax; rw [HTL.out]; omega)
      rw [HTL.out] at hcl
      go_wp2_with fail
      refine hcl.mono ?_
      rintro e w8 ⟨v8, rfl, hO8, hE8⟩
      obtain ⟨p8, c8, rfl, hk8, hi8⟩ := hO8.ints
      have hz : RdNw w2.heap.size w8 (s.take n) (.slice p8 (s.take n).length c8) := ⟨p8, c8, rfl, hk8, hi8.mono fun b hb _ => ⟨Nat.le_trans e9.lt hb.1, rfl⟩⟩
      have hz2 := hz
      rw [HTL.out] at hz2
      go_wp2_with fail
      first | exact hK _ _ X hE8 kept_m (hX.ext hE8) hz2 | exact hK _ _ X hE8 kept_m (hX.ext hE8) hz
    · refine ⟨_, 4, rfl, by kernel_rfl, ?_⟩
      intro u w9 X hE hX hd K hK
      have d12 : RdNw w2.heap.size w9 (s.take n) (u 20) := hd 12 (by kernel_rfl)
      clear hd
      simp only [overlay, List.setIfInBounds_toArray, List.set] at hK ⊢
      obtain ⟨p8, c8, hv8, hk8, hi8⟩ := d12
      simp only [hv8] at hK ⊢
      have hz : RdNw w2.heap.size w9 (s.take n) (.slice p8 (s.take n).length c8) := ⟨p8, c8, rfl, hk8, hi8⟩
      have hz2 := hz
      rw [HTL.out] at hz2
      go_wp2_with fail
      first | exact hK _ _ X (Ext.refl _) kept_m hX hz2 | exact hK _ _ X (Ext.refl _) kept_m hX hz
  · exact mem_nil_m
  intro u w9 X hE hX hd
  have d0 : u 8 = .pointer (some ⟨w.heap.size, 1, none⟩) := hd 0 (by decide)
  have d1 : u 9 = .slice p1 s.length m1 := hd 1 (by decide)
  have d2 : u 10 = .pointer (some ⟨w.heap.size, 1, none⟩) := hd 2 (by decide)
  have d3 : u 11 = .slice p1 s.length m1 := hd 3 (by decide)
  have d4 : u 12 = .int .i64 (s.length : Int) := hd 4 (by decide)
  have d5 : u 13 = .int .i64 k := hd 5 (by decide)
  have d6 : u 14 = .pointer (some ⟨w.heap.size, 1, none⟩) := hd 6 (by decide)
  have d7 : u 15 = .slice p1 s.length m1 := hd 7 (by decide)
  have d8 : u 16 = .int .i64 (s.length : Int) := hd 8 (by decide)
  have d9 : u 17 = .int .i64 (rv : Int) := hd 9 (by decide)
  have d10 : u 18 = .int .i64 (n : Int) := hd 10 (by decide)
  have d11 : u 19 = .slice pc n m1 := hd 11 (by decide)
  have d12 : RdNw w2.heap.size w9 (s.take n) (u 20) := hd 12 (by decide)
  have d13 : RdNw w2.heap.size w9 (s.take n) (u 4) := hd 13 (by decide)
  clear hd
  simp only [overlay, List.setIfInBounds_toArray, List.set, d0, d1, d2, d3, d4, d5, d6, d7, d8, d9, d10, d11]
  have e9 : Ext w2 w9 := (Ext.refl w2).drew.trans hE
  obtain ⟨p7, c7, hv7, hk7, hi7⟩ := d13
  have HRES := Lib.hid (And.intro hk7 hi7)
  simp only [hv7]
  clear hk7 hi7 hv7
  clear d0 d1 d2 d3 d4 d5 d6 d7 d8 d9 d10 d11 d12 
  clear hX hE
  generalize u 19 = t19z1
  generalize u 20 = t20z1
  try generalize u 4 = t4z1
  clear u
  obtain ⟨wk2, rfl⟩ : ∃ wx : World, wx = w9 := ⟨_, rfl⟩
  replace HBx := Lib.hid (HBx.out.ext e9)
  replace HE := Lib.hid (HE.out.trans (e9))
  clear e9
  go_wp2_with fail
  go_ret
  refine ⟨_, rfl, ?_, HE.out⟩
  rw [HV2.out]
  exact ⟨p7, c7, rfl, HRES.out.1, HRES.out.2.mono fun b hb _ => ⟨Nat.le_trans HEw.out.lt hb, rfl⟩⟩

end Go.Proofs.Ytgkemmdghmklfaa

namespace Go.Proofs.Ytgkemmdghmklfaa
set_option linter.unusedSimpArgs false
set_option linter.unusedVariables false
open Go.RowKit

/-- The query rank. -/
def rankQ (z : Arr) : Nat := z.sh.length - 1
def searchE (z y : Arr) : Int := if rightV z ≠ 0 ∨ rightV y ≠ 0 then 1 else if y.sh.length < rankQ z then 15 else 0
def findNums (z y : Arr) : List Int := (cellsV y (rankQ z)).map fun q => (placeV (cellsV z (-1)) q : Int)
def searchV (z y : Arr) : Arr := if searchE z y ≠ 0 then Arr.zero else .mk 1 (frameV y (rankQ z)) (findNums z y) []
def searchN (z y : Arr) : Nat := if searchE z y ≠ 0 then 0 else (cellsV z (-1)).length
/-- An array with numbers in a row of the call's own. -/
def FreshN (B : Nat) (w : World) : Arr → Value → Value → Value → Value → Prop
  | .mk k s n it, c0, c1, c2, c3 => c0 = .int .i64 k ∧ it = [] ∧ c3 = .slice none 0 0 ∧ -9223372036854775808 ≤ k ∧ k ≤ 9223372036854775807 ∧ OwnI B (fun _ => False) w c2 n.length n ∧ ∃ p c, c1 = .slice p s.length c ∧ SlOk s.length c ∧ IntsAt (fun b => B ≤ b ∧ c2.ownBlock ≠ some b) w p s
theorem FreshN.arr {B : Nat} {w : World} {t : Arr} {c0 c1 c2 c3 : Value} (h : FreshN B w t c0 c1 c2 c3) : ArrAt (fun _ => True) w t c0 c1 c2 c3 := by
  obtain ⟨k, s, n, it⟩ := t
  obtain ⟨rfl, rfl, rfl, k1, k2, ho, p, c, rfl, hk, hi⟩ := h
  obtain ⟨p2, c2, e2, q2, i2⟩ := ho.ints
  subst e2
  unfold ArrAt
  exact ⟨rfl, ⟨k1, k2⟩, ⟨p, c, rfl, hk, hi.mono fun b _ _ => ⟨trivial, rfl⟩⟩, ⟨p2, c2, rfl, q2, i2.mono fun b _ _ => ⟨trivial, rfl⟩⟩, nilA _ _⟩
theorem FreshN.ext {B : Nat} {w w' : World} {t : Arr} {c0 c1 c2 c3 : Value} (h : FreshN B w t c0 c1 c2 c3) (e : Ext w w') : FreshN B w' t c0 c1 c2 c3 := by
  obtain ⟨k, s, n, it⟩ := t
  obtain ⟨h0, h1, h3, k1, k2, ho, p, c, e1, hk, hi⟩ := h
  exact ⟨h0, h1, h3, k1, k2, ho.ext e, p, c, e1, hk, hi.ext e⟩
theorem FreshN.base {B B' : Nat} {w : World} {t : Arr} {c0 c1 c2 c3 : Value} (h : FreshN B w t c0 c1 c2 c3) (hB : B' ≤ B) : FreshN B' w t c0 c1 c2 c3 := by
  obtain ⟨k, s, n, it⟩ := t
  obtain ⟨h0, h1, h3, k1, k2, ⟨o1, o2, o3, o4, o5⟩, p, c, e1, hk, hi⟩ := h
  exact ⟨h0, h1, h3, k1, k2, ⟨o1, o2, ownsRow_base o3 hB, o4, o5⟩, p, c, e1, hk, hi.mono fun b hb _ => ⟨⟨Nat.le_trans hB hb.1, hb.2⟩, rfl⟩⟩
theorem FreshN.zero (B : Nat) (w : World) : FreshN B w Arr.zero (.int .i64 0) (.slice none 0 0) (.slice none 0 0) (.slice none 0 0) :=
  ⟨rfl, rfl, rfl, by decide, by decide, OwnI.nil _ _ _, none, 0, rfl, ⟨by simp, by simp, by simp⟩, fun i hi => by simp at hi⟩
theorem FreshN.far {B : Nat} {w w' : World} {t : Arr} {c0 c1 c2 c3 : Value} (h : FreshN B w t c0 c1 c2 c3) (hf : ∀ b, B ≤ b → w'.heap[b]? = w.heap[b]?) : FreshN B w' t c0 c1 c2 c3 := by
  obtain ⟨k, s, n, it⟩ := t
  obtain ⟨h0, h1, h3, k1, k2, ho, p, c, e1, hk, hi⟩ := h
  exact ⟨h0, h1, h3, k1, k2, ho.same fun g hg _ hx => ⟨hf g (ho.2.2.1.lt g hg).1, hx⟩, p, c, e1, hk, hi.mono fun b hb _ => ⟨hb, hf b hb.1⟩⟩
theorem fresh_of_mkb {B : Nat} {w0 w : World} {X : Nat → Prop} {b : Nat} {v1 v2 : Value} {s n : List Int} (h : MkB w0 w X b 1 v1 v2 (.slice none 0 0) n []) (hB : B ≤ w0.heap.size) {p : Option Addr} {c : Nat} (e1 : v1 = .slice p s.length c) (hk : SlOk s.length c) (hi : IntsAt (fun x => B ≤ x ∧ x < w0.heap.size) w p s) :
    FreshN B w (.mk 1 s n []) (.int .i64 1) v1 v2 (.slice none 0 0) := by
  obtain ⟨o1, o2, o3, o4, o5⟩ := h.on
  have ho : OwnI w0.heap.size (fun _ => False) w v2 n.length n := ⟨o1, o2, o3, fun _ _ hx => hx, o5⟩
  exact ⟨rfl, rfl, rfl, by decide, by decide, ⟨o1, o2, ownsRow_base o3 hB, fun _ _ hx => hx, o5⟩, p, c, e1, hk, hi.mono fun x hx _ => ⟨⟨hx.1, fun e => by have := (ho.2.2.1.lt x e).1; omega⟩, rfl⟩⟩
theorem cells_len {x : Arr} (hr : rightV x = 0) (k : Int) : (cellsV x k).length ≤ 65536 ∧ ∀ t ∈ cellsV x k, rightV t = 0 := by
  obtain ⟨f, c, z, ok⟩ := cells_ok hr k
  refine ⟨?_, fun t ht => ?_⟩
  · rw [ok.ce, List.length_map, List.length_range]
    obtain ⟨kx, s, n, it⟩ := x
    obtain ⟨_, h8, hrr, _, _⟩ := right_parts hr
    have h1 := (size_split hrr h8 f).2.2.1
    have h2 := ok.sc
    simp only [Arr.sh] at h2
    omega
  · rw [ok.ce] at ht
    obtain ⟨i, hi, rfl⟩ := List.mem_map.1 ht
    exact (cell_facts hr ok (List.mem_range.1 hi)).1

set_option maxRecDepth 1000000 in
set_option maxHeartbeats 16000000 in
theorem search_any (F G : Nat → Prop) (z y : Arr) (c0 c1 c2 c3 d0 d1 d2 d3 : Value) (w : World) (hz : ArrAt F w z c0 c1 c2 c3) (hy : ArrAt G w y d0 d1 d2 d3) :
    Calls Try.prog 106 #[.agg #[c0, c1, c2, c3], .agg #[d0, d1, d2, d3]] w fun e w' => ∃ x0 x1 x2 x3, e = .returned (.tuple #[.agg #[x0, x1, x2, x3], .int .i64 (searchN z y : Int), .int .i64 (searchE z y)]) ∧ FreshN w.heap.size w' (searchV z y) x0 x1 x2 x3 ∧ Ext w w' := by
  have hEV : searchE z y = if rightV z ≠ 0 ∨ rightV y ≠ 0 then 1 else if y.sh.length < rankQ z then 15 else 0 := rfl
  have hVV : searchV z y = if searchE z y ≠ 0 then Arr.zero else .mk 1 (frameV y (rankQ z)) (findNums z y) [] := rfl
  have hNV : searchN z y = if searchE z y ≠ 0 then 0 else (cellsV z (-1)).length := rfl
  have HEV := Lib.hid hEV
  have HVV := Lib.hid hVV
  have HNV := Lib.hid hNV
  have HRQ : Hid (rankQ z = z.sh.length - 1) := rfl
  have HIX := Lib.hid (fun (w1 : World) (e : Ext w w1) (h : rightV z = 0) => indexed_any F z c0 c1 c2 c3 w1 (hz.ext e) h)
  have HFR := Lib.hid (fun (w1 : World) (e : Ext w w1) (k : Int) hk => cframeN_any G y d0 d1 d2 d3 k w1 (hy.ext e) hk)
  have HCE := Lib.hid (fun (w1 : World) (e : Ext w w1) (k : Int) hk => ccells_any G y d0 d1 d2 d3 k w1 (hy.ext e) hk)
  have HRZ := Lib.hid (fun (w1 : World) (e : Ext w w1) => right_any F z c0 c1 c2 c3 w1 (hz.ext e))
  have HRY := Lib.hid (fun (w1 : World) (e : Ext w w1) => right_any G y d0 d1 d2 d3 w1 (hy.ext e))
  have HZL := Lib.hid (fun (h : rightV z = 0) => cells_len h (-1))
  have HYL := Lib.hid (fun (h : rightV y = 0) => cells_len h (rankQ z : Int))
  have HFN : Hid (findNums z y = (cellsV y (rankQ z : Int)).map fun q => (placeV (cellsV z (-1)) q : Int)) := rfl
  clear hEV hVV hNV
  generalize searchE z y = ev at *
  generalize searchV z y = vv at *
  generalize searchN z y = nv at *
  generalize findNums z y = fn at *
  generalize rankQ z = rq at *
  generalize cellsV z (-1) = L at *
  generalize hQ : cellsV y (rq : Int) = Q at *
  obtain ⟨kz, sz, nz, iz⟩ := z
  obtain ⟨ky, sy, ny, iy⟩ := y
  unfold ArrAt at hz hy
  obtain ⟨rfl, hkz, ⟨a1, e1, rfl, ⟨o1, o1', o1''⟩, i1⟩, ⟨a2, e2, rfl, ⟨o2, o2', o2''⟩, i2⟩, ⟨a3, e3, rfl, ⟨o3, o3', o3''⟩, i3⟩⟩ := hz
  obtain ⟨rfl, hky, ⟨p1, m1, rfl, ⟨r1, r1', r1''⟩, j1⟩, ⟨p2, m2, rfl, ⟨r2, r2', r2''⟩, j2⟩, ⟨p3, m3, rfl, ⟨r3, r3', r3''⟩, j3⟩⟩ := hy
  clear i1 i2 i3 j1 j2 j3 hkz hky o2 o2' o2'' o3 o3' o3'' r2 r2' r2'' r3 r3' r3''
  generalize rightV (.mk kz sz nz iz) = rz at *
  generalize rightV (.mk ky sy ny iy) = ry at *
  generalize frameV (.mk ky sy ny iy) = fv at *
  simp only [Arr.sh] at HEV HRQ
  have HQ := Lib.hid hQ
  clear hQ
  go_enter Try.func106, Try.ntmps106
  have hE0 : Ext w (((w.alloc (.cells #[.int .i64 kz, .slice a1 sz.length e1, .slice a2 nz.length e2, .slice a3 iz.length e3] 26)).alloc (.cells #[.int .i64 ky, .slice p1 sy.length m1, .slice p2 ny.length m2, .slice p3 iy.length m3] 26)).alloc (.cells #[.int .i64 0, .slice none 0 0, .slice none 0 0, .slice none 0 0] 26)) := (((Ext.refl _).alloc _).alloc _).alloc _
  have hBZ := (box_new w (.int .i64 kz) (.slice a1 sz.length e1) (.slice a2 nz.length e2) (.slice a3 iz.length e3)).ext (((Ext.refl _).alloc (.cells #[.int .i64 ky, .slice p1 sy.length m1, .slice p2 ny.length m2, .slice p3 iy.length m3] 26)).alloc (.cells #[.int .i64 0, .slice none 0 0, .slice none 0 0, .slice none 0 0] 26))
  have hBY := (box_new (w.alloc (.cells #[.int .i64 kz, .slice a1 sz.length e1, .slice a2 nz.length e2, .slice a3 iz.length e3] 26)) (.int .i64 ky) (.slice p1 sy.length m1) (.slice p2 ny.length m2) (.slice p3 iy.length m3)).ext ((Ext.refl _).alloc (.cells #[.int .i64 0, .slice none 0 0, .slice none 0 0, .slice none 0 0] 26))
  have hBT := box_new ((w.alloc (.cells #[.int .i64 kz, .slice a1 sz.length e1, .slice a2 nz.length e2, .slice a3 iz.length e3] 26)).alloc (.cells #[.int .i64 ky, .slice p1 sy.length m1, .slice p2 ny.length m2, .slice p3 iy.length m3] 26)) (.int .i64 0) (.slice none 0 0) (.slice none 0 0) (.slice none 0 0)
  simp only [World.size_alloc] at hBY hBT
  have HE := Lib.hid hE0
  have HBZ := Lib.hid hBZ
  have HBY := Lib.hid hBY
  have HBT := Lib.hid hBT
  clear hE0 hBZ hBY hBT
  go_upto_region 1 with (fail)
  generalize (((w.alloc (.cells #[.int .i64 kz, .slice a1 sz.length e1, .slice a2 nz.length e2, .slice a3 iz.length e3] 26)).alloc (.cells #[.int .i64 ky, .slice p1 sy.length m1, .slice p2 ny.length m2, .slice p3 iy.length m3] 26)).alloc (.cells #[.int .i64 0, .slice none 0 0, .slice none 0 0, .slice none 0 0] 26)) = w1 at *
  obtain ⟨s0, s1, s2, s3⟩ := HBZ.out.cell
  go_wp2_with fail
  refine (HRZ.out w1 HE.out).mono ?_
  rintro e w2 ⟨rfl, hE1⟩
  replace HE := Lib.hid (HE.out.trans hE1)
  replace HBZ := Lib.hid (HBZ.out.ext hE1)
  replace HBY := Lib.hid (HBY.out.ext hE1)
  replace HBT := Lib.hid (HBT.out.ext hE1)
  clear hE1 s0 s1 s2 s3 HRZ
  by_cases h1 : rz = 0
  rotate_left
  · have h1' : (rz != 0) = true := by simpa using h1
    have hev : ev = 1 := by rw [HEV.out, if_pos (.inl h1)]
    have HV2 : Hid (vv = Arr.zero) := by unfold Hid; rw [HVV.out, if_pos (by rw [hev]; decide)]
    have HN2 : Hid (nv = 0) := by unfold Hid; rw [HNV.out, if_pos (by rw [hev]; decide)]
    have HEV2 := Lib.hid hev
    clear h1 hev HEV HVV HNV HFN HIX HFR HCE HRY HZL HYL
    obtain ⟨t0, t1, t2, t3⟩ := HBT.out.cell
    have y0 := HBT.out.free 0
    have y1 := HBT.out.free 1
    have y2 := HBT.out.free 2
    have y3 := HBT.out.free 3
    go_wp2_with fail
    obtain ⟨g1, g2, g3⟩ := HBT.out.put4 HE.out (by omega) (.int .i64 0) (.slice none 0 0) (.slice none 0 0) (.slice none 0 0)
    revert g1 g2 g3
    generalize ((((w2.setCell ⟨w.heap.size + 1 + 1, 0, none⟩ (.int .i64 0)).setCell ⟨w.heap.size + 1 + 1, 1, none⟩ (.slice none 0 0)).setCell ⟨w.heap.size + 1 + 1, 2, none⟩ (.slice none 0 0)).setCell ⟨w.heap.size + 1 + 1, 3, none⟩ (.slice none 0 0)) = w9
    intro g1 g2 g3
    obtain ⟨z0, z1, z2, z3⟩ := g2.cell
    refine bodyPost_ret (v := .tuple #[.agg #[(.int .i64 0), (.slice none 0 0), (.slice none 0 0), (.slice none 0 0)], .int .i64 0, .int .i64 1]) ?_ rfl ⟨_, _, _, _, by rw [HEV2.out, HN2.out]; rfl, by rw [HV2.out]; exact FreshN.zero _ _, g1⟩
    simp [results, Try.results106, go_sem, z0, z1, z2, z3]
  obtain ⟨t0, t1, t2, t3⟩ := HBY.out.cell
  go_wp2_with fail
  refine (HRY.out w2 HE.out).mono ?_
  rintro e w3 ⟨rfl, hE1⟩
  replace HE := Lib.hid (HE.out.trans hE1)
  replace HBZ := Lib.hid (HBZ.out.ext hE1)
  replace HBY := Lib.hid (HBY.out.ext hE1)
  replace HBT := Lib.hid (HBT.out.ext hE1)
  clear hE1 t0 t1 t2 t3 HRY
  by_cases h2 : ry = 0
  rotate_left
  · have h2' : (ry != 0) = true := by simpa using h2
    have hev : ev = 1 := by rw [HEV.out, if_pos (.inr h2)]
    have HV2 : Hid (vv = Arr.zero) := by unfold Hid; rw [HVV.out, if_pos (by rw [hev]; decide)]
    have HN2 : Hid (nv = 0) := by unfold Hid; rw [HNV.out, if_pos (by rw [hev]; decide)]
    have HEV2 := Lib.hid hev
    clear h2 hev HEV HVV HNV HFN HIX HFR HCE HZL HYL
    obtain ⟨t0, t1, t2, t3⟩ := HBT.out.cell
    have y0 := HBT.out.free 0
    have y1 := HBT.out.free 1
    have y2 := HBT.out.free 2
    have y3 := HBT.out.free 3
    go_wp2_with fail
    obtain ⟨g1, g2, g3⟩ := HBT.out.put4 HE.out (by omega) (.int .i64 0) (.slice none 0 0) (.slice none 0 0) (.slice none 0 0)
    revert g1 g2 g3
    generalize ((((w3.setCell ⟨w.heap.size + 1 + 1, 0, none⟩ (.int .i64 0)).setCell ⟨w.heap.size + 1 + 1, 1, none⟩ (.slice none 0 0)).setCell ⟨w.heap.size + 1 + 1, 2, none⟩ (.slice none 0 0)).setCell ⟨w.heap.size + 1 + 1, 3, none⟩ (.slice none 0 0)) = w9
    intro g1 g2 g3
    obtain ⟨z0, z1, z2, z3⟩ := g2.cell
    refine bodyPost_ret (v := .tuple #[.agg #[(.int .i64 0), (.slice none 0 0), (.slice none 0 0), (.slice none 0 0)], .int .i64 0, .int .i64 1]) ?_ rfl ⟨_, _, _, _, by rw [HEV2.out, HN2.out]; rfl, by rw [HV2.out]; exact FreshN.zero _ _, g1⟩
    simp [results, Try.results106, go_sem, z0, z1, z2, z3]
  have HZL2 := Lib.hid (HZL.out h1)
  have HYL2 := Lib.hid (HYL.out h2)
  have HIX2 := Lib.hid (fun w1 e => HIX.out w1 e h1)
  have HEV2 : Hid (ev = if sy.length < rq then 15 else 0) := by unfold Hid; rw [HEV.out, if_neg (by rw [h1, h2]; simp)]; rfl
  subst h1
  subst h2
  clear HZL HYL HEV HIX
  have hrq : (rq : Int) = if (sz.length : Int) - 1 < 0 then 0 else (sz.length : Int) - 1 := by rw [HRQ.out]; split <;> omega
  have hrqb : rq ≤ 17592186044416 := by rw [HRQ.out]; omega
  have HRQ2 := Lib.hid hrq
  clear hrq HRQ
  obtain ⟨s0, s1, s2, s3⟩ := HBZ.out.cell
  go_upto_region 4 with (fail)
  rw [← HRQ2.out]
  clear HRQ2 s0 s1 s2 s3
  obtain ⟨t0, t1, t2, t3⟩ := HBY.out.cell
  by_cases h15 : sy.length < rq
  · have hev : ev = 15 := by rw [HEV2.out, if_pos h15]
    have HV2 : Hid (vv = Arr.zero) := by unfold Hid; rw [HVV.out, if_pos (by rw [hev]; decide)]
    have HN2 : Hid (nv = 0) := by unfold Hid; rw [HNV.out, if_pos (by rw [hev]; decide)]
    replace HEV2 := Lib.hid hev
    clear hev HVV HNV HFN HIX2 HFR HCE HZL2 HYL2
    obtain ⟨t0, t1, t2, t3⟩ := HBT.out.cell
    have y0 := HBT.out.free 0
    have y1 := HBT.out.free 1
    have y2 := HBT.out.free 2
    have y3 := HBT.out.free 3
    go_wp2_with fail
    obtain ⟨g1, g2, g3⟩ := HBT.out.put4 HE.out (by omega) (.int .i64 0) (.slice none 0 0) (.slice none 0 0) (.slice none 0 0)
    revert g1 g2 g3
    generalize ((((w3.setCell ⟨w.heap.size + 1 + 1, 0, none⟩ (.int .i64 0)).setCell ⟨w.heap.size + 1 + 1, 1, none⟩ (.slice none 0 0)).setCell ⟨w.heap.size + 1 + 1, 2, none⟩ (.slice none 0 0)).setCell ⟨w.heap.size + 1 + 1, 3, none⟩ (.slice none 0 0)) = w9
    intro g1 g2 g3
    obtain ⟨z0, z1, z2, z3⟩ := g2.cell
    refine bodyPost_ret (v := .tuple #[.agg #[(.int .i64 0), (.slice none 0 0), (.slice none 0 0), (.slice none 0 0)], .int .i64 0, .int .i64 15]) ?_ rfl ⟨_, _, _, _, by rw [HEV2.out, HN2.out]; rfl, by rw [HV2.out]; exact FreshN.zero _ _, g1⟩
    simp [results, Try.results106, go_sem, z0, z1, z2, z3]
  have hev : ev = 0 := by rw [HEV2.out, if_neg h15]
  have HV2 : Hid (vv = .mk 1 (fv (rq : Int)) fn []) := by unfold Hid; rw [HVV.out, if_neg (by rw [hev]; decide)]
  have HN2 : Hid (nv = L.length) := by unfold Hid; rw [HNV.out, if_neg (by rw [hev]; decide)]
  replace HEV2 := Lib.hid hev
  obtain ⟨hL6, hLr⟩ := HZL2.out
  obtain ⟨hQ6, hQr⟩ := HYL2.out
  have HLR := Lib.hid hLr
  have HQR := Lib.hid hQr
  obtain ⟨nl, hnl⟩ : ∃ nl, L.length = nl := ⟨_, rfl⟩
  obtain ⟨ql, hql⟩ : ∃ ql, Q.length = ql := ⟨_, rfl⟩
  have HFL : Hid (fn.length = ql) := by unfold Hid; rw [HFN.out, List.length_map, hql]
  have HFG : Hid (∀ j, j < ql → fn.getD j 0 = (placeV L (Q.getD j default) : Int)) := fun j hj => by
    rw [HFN.out]; simp [List.getD, show j < Q.length by omega]
  rw [hnl] at HIX2 hL6 HN2
  rw [hql] at hQ6
  have HNL := Lib.hid hnl
  have HQL := Lib.hid hql
  clear hev HVV HNV HFN hLr hQr hnl hql HZL2 HYL2
  obtain ⟨s0, s1, s2, s3⟩ := HBZ.out.cell
  go_wp2_with fail
  refine (HIX2.out w3 HE.out).mono ?_
  rintro e w4 ⟨pL, cL, ps, cs, rfl, hkL, hiL, hiS, hE1⟩
  have g1 := (Ext.refl w4).alloc (.cells #[.slice pL nl cL, .slice ps nl cs] 124)
  have g2 := box2_new w4 (.slice pL nl cL) (.slice ps nl cs)
  have HG1 := Lib.hid g1
  have HG2 := Lib.hid g2
  have HIL := Lib.hid hiL
  have HIS := Lib.hid hiS
  have HKL := Lib.hid hkL
  replace HE := Lib.hid (HE.out.trans hE1)
  replace HBZ := Lib.hid (HBZ.out.ext hE1)
  replace HBY := Lib.hid (HBY.out.ext hE1)
  replace HBT := Lib.hid (HBT.out.ext hE1)
  clear g1 g2 hiL hiS hkL hE1 HIX2 t0 t1 t2 t3 s0 s1 s2 s3
  go_upto_region 7 with (fail)
  generalize w4.alloc (.cells #[.slice pL nl cL, .slice ps nl cs] 124) = w5 at *
  obtain ⟨bx, hbx⟩ : ∃ bx, w4.heap.size = bx := ⟨_, rfl⟩
  rw [hbx] at HG2 ⊢
  replace HE := Lib.hid (HE.out.trans HG1.out)
  replace HBY := Lib.hid (HBY.out.ext HG1.out)
  replace HBT := Lib.hid (HBT.out.ext HG1.out)
  have HBT5 := HBT
  replace HIL := Lib.hid (HIL.out.ext HG1.out)
  replace HIS := Lib.hid (HIS.out.ext HG1.out)
  clear HG1 HBZ hbx
  obtain ⟨t0, t1, t2, t3⟩ := HBY.out.cell
  go_wp2_with fail
  refine (HFR.out w5 HE.out (rq : Int) (by omega)).mono ?_
  rintro e w6 ⟨v, rfl, ⟨pf, cf, rfl, hkf, hif⟩, hE1⟩
  replace HE := Lib.hid (HE.out.trans hE1)
  replace HBY := Lib.hid (HBY.out.ext hE1)
  replace HBT := Lib.hid (HBT.out.ext hE1)
  replace HIL := Lib.hid (HIL.out.ext hE1)
  replace HIS := Lib.hid (HIS.out.ext hE1)
  have HBX := Lib.hid (HG2.out.ext hE1)
  have HIF := Lib.hid (hif.mono (G := fun x => w5.heap.size ≤ x ∧ x < w6.heap.size) (w' := w6) fun b hb hb2 => ⟨⟨hb, hb2⟩, rfl⟩)
  have HE6 := HE
  have HL56 := Lib.hid hE1.lt
  have HKF := Lib.hid hkf
  generalize fv (rq : Int) = fr at *
  obtain ⟨fl, hfl⟩ : ∃ fl, fr.length = fl := ⟨_, rfl⟩
  rw [hfl]
  have HFRL := Lib.hid hfl
  have g1 := (Ext.refl w6).alloc (.cells #[.int .i64 1, .slice pf fl cf, .slice none 0 0, .slice none 0 0] 26)
  have g2 := box_new w6 (.int .i64 1) (.slice pf fl cf) (.slice none 0 0) (.slice none 0 0)
  have HG1 := Lib.hid g1
  have HB4 := Lib.hid g2
  have HLT2 : Hid ((w6.alloc (.cells #[.int .i64 1, .slice pf fl cf, .slice none 0 0, .slice none 0 0] 26)).heap.size = w6.heap.size + 1) := by unfold Hid; simp
  clear g1 g2 hif hkf hE1 HG2 HFR t0 t1 t2 t3 hfl
  go_upto_region 8 with (fail)
  generalize w6.alloc (.cells #[.int .i64 1, .slice pf fl cf, .slice none 0 0, .slice none 0 0] 26) = w7 at *
  obtain ⟨bo, hbo⟩ : ∃ bo, w6.heap.size = bo := ⟨_, rfl⟩
  rw [hbo] at HB4 HLT2 ⊢
  have HBO := Lib.hid hbo
  replace HE := Lib.hid (HE.out.trans HG1.out)
  replace HBY := Lib.hid (HBY.out.ext HG1.out)
  clear hbo
  obtain ⟨t0, t1, t2, t3⟩ := HBY.out.cell
  go_wp2_with fail
  refine (HCE.out w7 HE.out (rq : Int) (by omega)).mono ?_
  rintro e w8 ⟨v, rfl, ⟨pq, cq, rfl, hkq, hiq⟩, hE1⟩
  rw [HQ.out] at hkq hiq ⊢
  rw [HQL.out] at hkq ⊢
  have hE68 := HG1.out.trans hE1
  have hM0 : MkB w6 w8 (fun x => x = bo ∨ x = bx ∨ (w7.heap.size ≤ x ∧ x < w8.heap.size)) bo 1 (.slice pf fl cf) (.slice none 0 0) (.slice none 0 0) [] [] :=
    MkB.fresh hE68 (by rw [HBO.out]; exact Nat.le_refl _) (HB4.out.ext hE1) (.inl rfl) (fun x hx => by
      have h1 := hE1.lt
      have h2 := HLT2.out
      have h3 := HBX.out.lt
      have h4 := HBO.out
      rcases hx with rfl | rfl | hx <;> omega)
  have HM0 := Lib.hid hM0
  have HIQ := Lib.hid hiq
  clear hE1 hE68 hM0 hiq HCE HG1 HB4 HE t0 t1 t2 t3 HBY
  obtain ⟨k1, k1', k1''⟩ := hkq
  go_wp2_with fail
  go_loopw [42] (fun iv wr => ∃ (j : Nat) (v2 : Value), iv = .int .i64 (j : Int) ∧ j ≤ ql ∧ Hid (MkB w6 wr (fun x => x = bo ∨ x = bx ∨ (w7.heap.size ≤ x ∧ x < w8.heap.size)) bo 1 (.slice pf fl cf) v2 (.slice none 0 0) (fn.take j) []) ∧ Hid (∀ q, (q = bo ∨ q = bx ∨ (w7.heap.size ≤ q ∧ q < w8.heap.size)) → q ≠ bo → wr.heap[q]? = w8.heap[q]?)) (fun iv _ => ql - (intOf iv).toNat)
  case atStart => exact ⟨0, _, rfl, Nat.zero_le _, by rw [List.take_zero]; exact HM0, fun q _ _ => rfl⟩
  case round =>
  obtain ⟨j, v2, rfl, hjq, HM, HF⟩ := hrel
  clear HM0
  by_cases hlt : j < ql
  · have hiqr := ItemsAt.mono (G := fun _ => True) (w' := wr) (fun b hb hb2 => ⟨trivial, HF.out b (.inr (.inr ⟨hb, hb2⟩)) (by have := HLT2.out; omega)⟩) _ _ _ HIQ.out
    have hjQ : j < Q.length := by rw [HQL.out]; exact hlt
    obtain ⟨bq, oq, x0, x1, x2, x3, rfl, q0, q1, q2, q3, hA⟩ := hiqr.getD hjQ
    obtain ⟨qk, qa, qla, qma, qb, qlb, qmb, qc, qlc, qmc, rfl, rfl, rfl, rfl⟩ := hA.form
    have hqr := HQR.out (Q.getD j default) (by simp [List.getD, hjQ])
    have hfj := HFG.out j hlt
    have HFD := Lib.hid (fun (W : World) (e : Ext wr W) => find_any (szL L) _ _ _ L (Q.getD j default) cL cs pL ps qk qa qb qc qla qma qlb qmb qlc qmc W (HIL.out.ext (HM.out.ext.trans e)) (HIS.out.ext (HM.out.ext.trans e)) (hA.ext e) HLR.out (fun t ht => szL_mem ht) hqr (by rw [HNL.out]; exact hL6) nl HNL.out)
    rw [← hfj] at HFD
    have hfb : 0 ≤ fn.getD j 0 ∧ fn.getD j 0 ≤ 65536 := by have := placeV_le L (Q.getD j default); rw [HNL.out] at this; omega
    have HTK : Hid (fn.take (j + 1) = fn.take j ++ [fn.getD j 0]) := by
      unfold Hid
      have hjf : j < fn.length := by rw [HFL.out]; exact hlt
      rw [List.take_succ_eq_append_getElem hjf]
      simp [List.getD, hjf]
    have HTL : Hid ((fn.take j).length = j) := by unfold Hid; rw [List.length_take, HFL.out]; omega
    generalize fn.getD j 0 = xv at *
    obtain ⟨ns, hns⟩ : ∃ ns, fn.take j = ns := ⟨_, rfl⟩
    rw [hns] at HM HTK HTL
    obtain ⟨pv, cv, rfl, hcv⟩ := HM.out.on.form
    have hvn : (Value.slice pv ns.length cv).ownBlock ≠ some wr.heap.size := fun e => by have := (HM.out.on.2.2.1.lt _ e).2; omega
    have g1 := (Ext.refl wr).alloc (.cells #[.int .i64 qk, .slice qa qla qma, .slice qb qlb qmb, .slice qc qlc qmc] 26)
    have g2 := box_new wr (.int .i64 qk) (.slice qa qla qma) (.slice qb qlb qmb) (.slice qc qlc qmc)
    have HG1 := Lib.hid g1
    have HG2 := Lib.hid g2
    clear hiqr hjQ hA hqr hfj hns g1 g2
    go_upto_region 11 with (fail)
    generalize wr.alloc (.cells #[.int .i64 qk, .slice qa qla qma, .slice qb qlb qmb, .slice qc qlc qmc] 26) = w9 at *
    have hM2 := HM.out.next HG1.out
    have hBx := HBX.out.ext hM2.ext
    have hBq := HG2.out
    obtain ⟨bb, hbb⟩ : ∃ bb, wr.heap.size = bb := ⟨_, rfl⟩
    rw [hbb] at hBq hvn ⊢
    clear q0 q1 q2 q3 hbb HG2
    go_wp2_with fail
    have hS0 : Ext w6 w9.drew ∧ w9.drew.cell? ⟨bo, 2, none⟩ = some (.slice pv ns.length cv) ∧ Box2 w9.drew bx (.slice pL nl cL) (.slice ps nl cs) ∧ Box4 w9.drew bb (.int .i64 qk) (.slice qa qla qma) (.slice qb qlb qmb) (.slice qc qlc qmc) := ⟨hM2.ext.drew, hM2.box.cell.2.2.1, hBx.ext (Ext.refl _).drew, hBq.ext (Ext.refl _).drew⟩
    refine wp_region_g [0, 1, 2, 3] [4, 5, 6, 7, 8] (fun w' => Ext w6 w' ∧ w'.cell? ⟨bo, 2, none⟩ = some (.slice pv ns.length cv) ∧ Box2 w' bx (.slice pL nl cL) (.slice ps nl cs) ∧ Box4 w' bb (.int .i64 qk) (.slice qa qla qma) (.slice qb qlb qmb) (.slice qc qlc qmc)) (by kernel_rfl) (by kernel_rfl) hS0 ?_
    iterate 4
      refine wpHead_cons (v := ?_) rfl (by rfl) (fun w' hS => ?_) ?_
      rotate_left
      · obtain ⟨hS1, hS2, hS3, hS4⟩ := hS
        obtain ⟨sb0, sb1⟩ := hS3.cell
        obtain ⟨sq0, sq1, sq2, sq3⟩ := hS4.cell
        go_simp
        try with_reducible rfl
      try simp only [Act.put, List.setIfInBounds_toArray, List.set]
    unfold wpHead
    refine wpTail_cons rfl (fun K hK => ?_)
    go_wp2_with fail
    refine (HFD.out w9.drew (HG1.out.trans (Ext.refl _).drew)).mono ?_
    rintro e w10 ⟨rfl, hE3⟩
    have hE9 : Ext w9 w10 := (Ext.refl w9).drew.trans hE3
    have hM3 := hM2.next hE9
    have hEwr := HG1.out.trans hE9
    have hBx3 := hBx.ext hE9
    have hBq3 := hBq.ext hE9
    clear hE3 hE9 hM2 hBx hBq hS0 HG1 HFD
    go_wp2_with fail
    refine hK _ _ ⟨hM3.ext, hM3.box.cell.2.2.1, hBx3, hBq3⟩ ?_
    try simp only [Act.put, List.setIfInBounds_toArray, List.set]
    refine wpTail_cons rfl (fun K hK => ?_)
    go_wp2_with fail
    have hEn : Ext w10 (w10.alloc (.cells #[.int .i64 xv] 3)) := (Ext.refl _).alloc _
    have hnc : (w10.alloc (.cells #[.int .i64 xv] 3)).cell? ⟨w10.heap.size, 0, none⟩ = some (.int .i64 xv) := by simp
    have hM7 := hM3.next hEn
    have hBx7 := hBx3.ext hEn
    have hBq7 := hBq3.ext hEn
    have hEwr2 := hEwr.trans hEn
    generalize hw7 : w10.alloc (.cells #[.int .i64 xv] 3) = w11 at hEn hnc hM7 hBx7 hBq7 hEwr2 ⊢
    have HWR := Lib.hid hEwr2
    clear hEwr hEwr2
    clear hw7
    refine hK _ _ ⟨hM7.ext, hM7.box.cell.2.2.1, hBx7, hBq7⟩ ?_
    try simp only [Act.put, List.setIfInBounds_toArray, List.set]
    refine wpTail_cons rfl (fun K hK => ?_)
    refine wpList_append_int rfl _ _ rfl w6.heap.size _ (.slice pv ns.length cv) ns.length ns xv rfl hM7.on ⟨w10.heap.size, 0, none⟩ 1 rfl hnc hM7.xl2 (by omega) (by rw [HTL.out]; omega) hM7.ext.lt ?_
    intro g cap w12 hon8 hgrow hat8 _ _
    obtain ⟨q1, q2, q3⟩ := hM7.grownN hgrow
    obtain ⟨_, _, t2, _⟩ := q2.cell
    have tf := q2.free 2
    obtain ⟨hM8, hfar⟩ := hM7.storedN (n' := ns ++ [xv]) hgrow (by simp) hon8 (by simpa using hat8)
    have hBx8 : Box2 w12 bx (.slice pL nl cL) (.slice ps nl cs) := by
      have h9 := q3 bx (.inr (.inl rfl))
      unfold Box2 at hBx7 ⊢
      rw [h9]; exact hBx7
    refine hK _ _ ⟨q1, t2, hBx8, hBq7.kept (hgrow.block bb hBq7.lt (fun e => hvn e.symm))⟩ ?_
    try simp only [Act.put, List.setIfInBounds_toArray, List.set]
    refine wpTail_free2 rfl rfl (by kernel_rfl) ?_
    have HM8 := Lib.hid hM8
    have HFAR := Lib.hid (fun q (h1 : q = bo ∨ q = bx ∨ (w7.heap.size ≤ q ∧ q < w8.heap.size)) (h2 : q ≠ bo) => hfar q h1 h2)
    clear hM7 hM3 hM8 hfar hBx3 hBx7 hBx8 hBq3 hBq7 hon8 hgrow hat8 q1 q2 q3 hnc hEn
    go_wp2_with fail
    refine OnlyN.mk ?_
    (try simp only [Exit.inBlock, Exit.then])
    go_wp2_with fail
    go_roundw
    case rel => exact ⟨j + 1, _, by go_num, by omega, by rw [HTK.out]; exact HM8.out, fun q h1 h2 => (HFAR.out q h1 h2).trans ((HWR.out.block (HM.out.xl q h1)).trans (HF.out q h1 h2))⟩
    case measure => simp [intOf]; omega
  have hjq2 : j = ql := by omega
  subst hjq2
  have htk : fn.take j = fn := List.take_of_length_le (by rw [HFL.out]; exact Nat.le_refl _)
  rw [htk] at HM
  obtain ⟨pv, cv, rfl, _⟩ := HM.out.on.form
  have hFR : FreshN w5.heap.size wr (.mk 1 fr fn []) (.int .i64 1) (.slice pf fl cf) (.slice pv fn.length cv) (.slice none 0 0) := fresh_of_mkb HM.out HL56.out (by rw [HFRL.out]) HKF.out (HIF.out.ext HM.out.ext)
  have HFRS := Lib.hid hFR
  have HBO9 := Lib.hid HM.out.box
  have HBX9 := Lib.hid (HBX.out.ext HM.out.ext)
  have HBT9 := Lib.hid (HBT.out.ext HM.out.ext)
  have HE9 := Lib.hid (HE6.out.trans HM.out.ext)
  have hb1 : w.heap.size + 1 + 1 ≠ bo := by have := HBT.out.lt; have := HBO.out; omega
  have hb2 : w.heap.size + 1 + 1 ≠ bx := fun e => by
    have h1 := HBT.out
    have h2 := HBX.out
    unfold Box4 at h1
    unfold Box2 at h2
    rw [e, h2] at h1
    simp at h1
  have HB12 := Lib.hid (And.intro hb1 hb2)
  have HB5 := Lib.hid (show w.heap.size + 1 + 1 < w5.heap.size from HBT5.out.lt)
  clear hFR htk HM HF HIF HIL HIS HKL HKF HIQ HBX HBT HFG HFL HQR HLR hb1 hb2 HE6 HNL
  obtain ⟨x0, x1, x2, x3⟩ := HBT9.out.cell
  have y0 := HBT9.out.free 0
  have y1 := HBT9.out.free 1
  have y2 := HBT9.out.free 2
  have y3 := HBT9.out.free 3
  go_wp2_with fail
  have hS0 : Box4 wr.drew bo (.int .i64 1) (.slice pf fl cf) (.slice pv fn.length cv) (.slice none 0 0) ∧ Box2 wr.drew bx (.slice pL nl cL) (.slice ps nl cs) := ⟨HBO9.out.ext (Ext.refl _).drew, HBX9.out.ext (Ext.refl _).drew⟩
  refine wp_region_g [0, 1, 2, 3] [4, 5, 6] (fun w' => Box4 w' bo (.int .i64 1) (.slice pf fl cf) (.slice pv fn.length cv) (.slice none 0 0) ∧ Box2 w' bx (.slice pL nl cL) (.slice ps nl cs)) (by kernel_rfl) (by kernel_rfl) hS0 ?_
  iterate 4
    refine wpHead_cons (v := ?_) rfl (by rfl) (fun w' hS => ?_) ?_
    rotate_left
    · obtain ⟨hS1, hS2⟩ := hS
      obtain ⟨sq0, sq1, sq2, sq3⟩ := hS1.cell
      obtain ⟨sb0, sb1⟩ := hS2.cell
      go_simp
      try with_reducible rfl
    try simp only [Act.put, List.setIfInBounds_toArray, List.set]
  unfold wpHead
  refine wpTail_cons rfl (fun K hK => ?_)
  go_wp2_with fail
  obtain ⟨h1, h2, h3⟩ := HBT9.out.put4 HE9.out (by omega) (.int .i64 1) (.slice pf fl cf) (.slice pv fn.length cv) (.slice none 0 0)
  revert h1 h2 h3
  generalize (((wr.setCell ⟨w.heap.size + 1 + 1, 0, none⟩ (.int .i64 1)).setCell ⟨w.heap.size + 1 + 1, 1, none⟩ (.slice pf fl cf)).setCell ⟨w.heap.size + 1 + 1, 2, none⟩ (.slice pv fn.length cv)).setCell ⟨w.heap.size + 1 + 1, 3, none⟩ (.slice none 0 0) = wd at *
  intro h1 h2 h3
  have hd : Ext wd wd.drew := (Ext.refl wd).drew
  have g3 := (HFRS.out.far (w' := wd) fun b hb => h3 b (by have := HB5.out; omega)).ext hd
  have g1 := h1.drew
  have g2 := h2.ext hd
  have hS1 : Box4 wd.drew bo (.int .i64 1) (.slice pf fl cf) (.slice pv fn.length cv) (.slice none 0 0) ∧ Box2 wd.drew bx (.slice pL nl cL) (.slice ps nl cs) :=
    ⟨(HBO9.out.kept (h3 bo (fun e => HB12.out.1 e.symm))).ext hd, (show Box2 wd bx (.slice pL nl cL) (.slice ps nl cs) by
      have h9 := h3 bx (fun e => HB12.out.2 e.symm)
      have h8 := HBX9.out
      unfold Box2 at h8 ⊢
      rw [h9]; exact h8).ext hd⟩
  generalize wd.drew = w9 at g1 g2 g3 hS1 ⊢
  refine hK _ _ hS1 ?_
  clear hK hS0
  have HRES := Lib.hid (And.intro g1 (And.intro g2 g3))
  clear g1 g2 g3 h1 h2 h3 hd x0 x1 x2 x3 y0 y1 y2 y3
  try simp only [Act.put, List.setIfInBounds_toArray, List.set]
  iterate 2
    refine wpTail_cons rfl (fun K hK => ?_)
    go_wp2_with fail
    refine hK _ _ hS1 ?_
    clear hK
    try simp only [Act.put, List.setIfInBounds_toArray, List.set]
  unfold wpTail
  refine OnlyN.mk ?_
  (try simp only [Exit.inBlock, Exit.then])
  go_wp2_with fail
  obtain ⟨g1, g2, g3⟩ := HRES.out
  obtain ⟨z0, z1, z2, z3⟩ := g2.cell
  refine bodyPost_ret (v := .tuple #[.agg #[.int .i64 1, .slice pf fl cf, .slice pv fn.length cv, .slice none 0 0], .int .i64 (nl : Int), .int .i64 0]) ?_ rfl ⟨_, _, _, _, by rw [HEV2.out, HN2.out], by rw [HV2.out]; exact g3.base (by have := HB5.out; omega), g1⟩
  simp [results, Try.results106, go_sem, z0, z1, z2, z3]
end Go.Proofs.Ytgkemmdghmklfaa
