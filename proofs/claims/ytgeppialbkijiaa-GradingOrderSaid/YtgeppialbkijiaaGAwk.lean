/-
  THE WALKS of law24.few, awake; contracts over readings; the rows of a right array are right. (Printed by gen_gawk.py.)
-/
import Derived.Test.YtgeppialbkijiaaGB
import Derived.Test.YtgeppialbkijiaaBackP
import Derived.Test.YtgeppialbkijiaaL04N
namespace Go.Proofs.Ytgeppialbkijiaa
set_option linter.unusedSimpArgs false
set_option linter.unusedVariables false
open Go.RowKit

theorem rowsE_right {y : Arr} (h : rowsE y = 0) : rightV y = 0 ∧ y.sh ≠ [] := by
  unfold rowsE at h
  split at h
  · cases h
  · rename_i h1
    split at h
    · cases h
    · rename_i h2
      exact ⟨Classical.byContradiction fun hc => h1 hc, h2⟩
theorem rows_right {y : Arr} (h : rowsE y = 0) : ∀ t ∈ rowsC y, rightV t = 0 := by
  obtain ⟨hr, _⟩ := rowsE_right h
  obtain ⟨f, c, z, o⟩ := cells_ok hr ((y.sh.length : Int) - 1)
  intro t ht
  unfold rowsC at ht
  rw [o.ce] at ht
  obtain ⟨i, hi, rfl⟩ := List.mem_map.1 ht
  exact (cell_facts hr o (List.mem_range.1 hi)).1
/-- Some fuel serves. -/
theorem rows_ok (y : Arr) : ∃ m, RowsOk m y := ⟨szL (rowsC y), fun h t ht => ⟨szL_mem ht, rows_right h t ht⟩⟩
theorem up_at {m : Nat} {X : Nat → Prop} {w : World} {a t : Arr} {n : Int} {v1 : Value} (hR : RowsOk m a) (ex : gradeV (cmpF m) a = t) (en : rowsE a = n) (h1 : RdX X w a v1) (hX : ∀ b, X b → b < w.heap.size) : Calls Try.prog 33 #[v1] w fun e w' => ∃ x, e = .returned (.tuple #[x, .int .i64 n]) ∧ RdX X w' t x ∧ Ext w w' := by
  obtain ⟨c0, c1, c2, c3, rfl, hA⟩ := h1
  refine (up_any m _ a _ _ _ _ w hA hR).mono ?_
  rintro e w' ⟨e0, e1, e2, e3, rfl, hB, hE⟩
  rw [ex] at hB
  rw [en]
  exact ⟨_, rfl, RdX.new hB (fun b hb _ => .inl hb) hX, hE⟩
theorem down_at {m : Nat} {X : Nat → Prop} {w : World} {a t : Arr} {n : Int} {v1 : Value} (hR : RowsOk m a) (ex : gradeV (fun x y => cmpF m y x) a = t) (en : rowsE a = n) (h1 : RdX X w a v1) (hX : ∀ b, X b → b < w.heap.size) : Calls Try.prog 35 #[v1] w fun e w' => ∃ x, e = .returned (.tuple #[x, .int .i64 n]) ∧ RdX X w' t x ∧ Ext w w' := by
  obtain ⟨c0, c1, c2, c3, rfl, hA⟩ := h1
  refine (down_any m _ a _ _ _ _ w hA hR).mono ?_
  rintro e w' ⟨e0, e1, e2, e3, rfl, hB, hE⟩
  rw [ex] at hB
  rw [en]
  exact ⟨_, rfl, RdX.new hB (fun b hb _ => .inl hb) hX, hE⟩
theorem gsort_at {m : Nat} {X : Nat → Prop} {w : World} {a t : Arr} {n : Int} {v1 : Value} (hR : RowsOk m a) (ex : sortV (cmpF m) a = t) (en : rowsE a = n) (h1 : RdX X w a v1) (hX : ∀ b, X b → b < w.heap.size) : Calls Try.prog 37 #[v1] w fun e w' => ∃ x, e = .returned (.tuple #[x, .int .i64 n]) ∧ RdX X w' t x ∧ Ext w w' := by
  obtain ⟨c0, c1, c2, c3, rfl, hA⟩ := h1
  refine (gsort_any m _ a _ _ _ _ w hA hR).mono ?_
  rintro e w' ⟨e0, e1, e2, e3, rfl, hB, hE⟩
  rw [ex] at hB
  rw [en]
  exact ⟨_, rfl, RdX.new hB (fun b hb _ => .inl hb) hX, hE⟩
theorem rup_at {m : Nat} {X : Nat → Prop} {w : World} {a t : Arr} {n : Int} {v1 : Value} (hR : RowsOk m a) (ex : gradeV (cmpF m) a = t) (en : rowsE a = n) (h1 : RdX X w a v1) (hX : ∀ b, X b → b < w.heap.size) : Calls Try.prog 34 #[v1] w fun e w' => ∃ x, e = .returned (.tuple #[x, .int .i64 n]) ∧ RdX X w' t x ∧ Ext w w' := by
  obtain ⟨c0, c1, c2, c3, rfl, hA⟩ := h1
  refine (rup_any m _ a _ _ _ _ w hA hR).mono ?_
  rintro e w' ⟨e0, e1, e2, e3, rfl, hB, hE⟩
  rw [ex] at hB
  rw [en]
  exact ⟨_, rfl, RdX.new hB (fun b hb _ => .inl hb) hX, hE⟩
theorem rdown_at {m : Nat} {X : Nat → Prop} {w : World} {a t : Arr} {n : Int} {v1 : Value} (hR : RowsOk m a) (ex : gradeV (fun x y => cmpF m y x) a = t) (en : rowsE a = n) (h1 : RdX X w a v1) (hX : ∀ b, X b → b < w.heap.size) : Calls Try.prog 36 #[v1] w fun e w' => ∃ x, e = .returned (.tuple #[x, .int .i64 n]) ∧ RdX X w' t x ∧ Ext w w' := by
  obtain ⟨c0, c1, c2, c3, rfl, hA⟩ := h1
  refine (rdown_any m _ a _ _ _ _ w hA hR).mono ?_
  rintro e w' ⟨e0, e1, e2, e3, rfl, hB, hE⟩
  rw [ex] at hB
  rw [en]
  exact ⟨_, rfl, RdX.new hB (fun b hb _ => .inl hb) hX, hE⟩
theorem rgsort_at {m : Nat} {X : Nat → Prop} {w : World} {a t : Arr} {n : Int} {v1 : Value} (hR : RowsOk m a) (ex : sortV (cmpF m) a = t) (en : rowsE a = n) (h1 : RdX X w a v1) (hX : ∀ b, X b → b < w.heap.size) : Calls Try.prog 38 #[v1] w fun e w' => ∃ x, e = .returned (.tuple #[x, .int .i64 n]) ∧ RdX X w' t x ∧ Ext w w' := by
  obtain ⟨c0, c1, c2, c3, rfl, hA⟩ := h1
  refine (rgsort_any m _ a _ _ _ _ w hA hR).mono ?_
  rintro e w' ⟨e0, e1, e2, e3, rfl, hB, hE⟩
  rw [ex] at hB
  rw [en]
  exact ⟨_, rfl, RdX.new hB (fun b hb _ => .inl hb) hX, hE⟩

set_option maxRecDepth 100000 in
set_option maxHeartbeats 2000000 in
theorem few24_any (F : Nat → Prop) (x : Arr) (c0 c1 c2 c3 : Value) (w : World) (hx : ArrAt F w x c0 c1 c2 c3) :
    Calls Try.prog 31 #[.agg #[c0, c1, c2, c3]] w fun e w' => (∃ b, e = .returned (.bool b)) ∧ Ext w w' := by
  obtain ⟨kx, s, nx, ix⟩ := x
  have hx' := hx
  unfold ArrAt at hx'
  obtain ⟨rfl, hkx, ⟨p1, m1, rfl, ⟨o1, o1', o1''⟩, i1⟩, ⟨p2, m2, rfl, ⟨o2, o2', o2''⟩, i2⟩, ⟨p3, m3, rfl, ⟨o3, o3', o3''⟩, i3⟩⟩ := hx'
  have HX := Lib.hid hx
  have HS := Lib.hid i1
  clear hx i1 i2 i3
  go_enter Try.func31, Try.ntmps31
  have hE0 : Ext w (w.alloc (.cells #[.int .i64 kx, .slice p1 s.length m1, .slice p2 nx.length m2, .slice p3 ix.length m3] 26)) := (Ext.refl _).alloc _
  have HB := Lib.hid (box_new w (.int .i64 kx) (.slice p1 s.length m1) (.slice p2 nx.length m2) (.slice p3 ix.length m3))
  have HE := Lib.hid hE0
  clear hE0
  go_wp2_with fail
  refine (few_any _ _ _ _ _ _ 300 _ (HX.out.ext HE.out)).mono ?_
  rintro e w2 ⟨rfl, hE1⟩
  have HBx := Lib.hid (HB.out.ext hE1)
  replace HE := Lib.hid (HE.out.trans hE1)
  clear HB hE1
  obtain ⟨s0, s1, s2, s3⟩ := HBx.out.cell
  cases hf : fewV (.mk kx s nx ix) 300 with
  | false =>
    clear hf
    go_wp2_with fail
    go_ret
    exact ⟨⟨_, rfl⟩, HE.out⟩
  | true =>
    clear hf
    cases s with
    | nil =>
      go_wp2_with fail
      go_ret
      exact ⟨⟨_, rfl⟩, HE.out⟩
    | cons d r =>
      obtain ⟨b, off, rfl, hc, _, _⟩ := (HS.out.ext HE.out).get (i := 0) (by simp)
      have hc2 : w2.cell? ⟨b, off, none⟩ = some (.int .i64 d) := by simpa using hc
      obtain ⟨n, hn⟩ : ∃ n, (d :: r).length = n := ⟨_, rfl⟩
      have hn1 : 0 < n := by rw [← hn]; simp
      rw [hn] at s1 ⊢
      clear hc hn HX HS
      by_cases hd : d ≤ 60
      · go_wp2_with fail
        go_ret
        exact ⟨⟨_, rfl⟩, HE.out⟩
      · go_wp2_with fail
        go_ret
        exact ⟨⟨_, rfl⟩, HE.out⟩

def gv1 : Arr := vecV [30, 10, 20, 10]
theorem ga0 : RowsOk 5 (vecV [30, 10, 20, 10]) := fun _ t ht => by
  have hl : rowsC (vecV [30, 10, 20, 10]) = [.mk 1 [] [30] [], .mk 1 [] [10] [], .mk 1 [] [20] [], .mk 1 [] [10] []] := by rfl
  rw [hl] at ht
  simp only [List.mem_cons, List.not_mem_nil, or_false] at ht
  rcases ht with rfl | rfl | rfl | rfl <;> exact ⟨by decide, by rfl⟩
theorem ga1 : gradeV (cmpF 5) (vecV [30, 10, 20, 10]) = vecV [1, 3, 2, 0] := by rfl
theorem ga2 : gradeV (fun x y => cmpF 5 y x) (vecV [30, 10, 20, 10]) = vecV [0, 2, 1, 3] := by rfl
theorem ga3 : sortV (cmpF 5) (vecV [30, 10, 20, 10]) = vecV [10, 10, 20, 30] := by rfl
theorem ga4 : RowsOk 5 (numV 1) := fun h => by
  have : rowsE (numV 1) = 15 := by rfl
  rw [this] at h; cases h
theorem ga5 : gradeV (cmpF 5) (numV 1) = Arr.zero := by rfl

set_option maxRecDepth 100000 in
set_option maxHeartbeats 8000000 in
theorem gawake_any (w : World) : Calls Try.prog 32 #[] w fun e w' => e = .returned (.bool true) ∧ Ext w w' := by
  go_enter Try.func32, Try.ntmps32
  have HE := Lib.hid (Ext.refl w)
  go_wp2_with fail
  refine (vec_rd (rdix_lit0 w [30, 10, 20, 10] (by decide) (by decide)) (fun _ h => False.elim h)).mono ?_
  rintro e wv ⟨xv, rfl, hxv, hExv⟩
  replace hExv := ((Ext.refl w).alloc (.cells #[.int .i64 30, .int .i64 10, .int .i64 20, .int .i64 10] 3)).trans hExv
  obtain ⟨c0, c1, c2, c3, rfl, hA9⟩ := hxv
  obtain ⟨ky1, pay1, lay1, may1, pby1, lby1, mby1, pcy1, lcy1, mcy1, rfl, rfl, rfl, rfl⟩ := hA9.form
  have hEn := (hExv).alloc (.cells #[(.int .i64 ky1), (.slice pay1 lay1 may1), (.slice pby1 lby1 mby1), (.slice pcy1 lcy1 mcy1)] 26)
  have hBn := box_new wv (.int .i64 ky1) (.slice pay1 lay1 may1) (.slice pby1 lby1 mby1) (.slice pcy1 lcy1 mcy1)
  have hAn := hA9.ext ((Ext.refl _).alloc (.cells #[(.int .i64 ky1), (.slice pay1 lay1 may1), (.slice pby1 lby1 mby1), (.slice pcy1 lcy1 mcy1)] 26))
  clear hA9 hExv
  have HF := Lib.hid (And.intro hEn (And.intro hBn hAn))
  clear hEn hBn hAn
  go_upto_region 2 with (fail)
  obtain ⟨hEn, hBn, hAn⟩ := HF.out
  clear HF
  generalize hbz : wv.heap.size = by1 at *
  clear hbz
  generalize wv.alloc (.cells #[(.int .i64 ky1), (.slice pay1 lay1 may1), (.slice pby1 lby1 mby1), (.slice pcy1 lcy1 mcy1)] 26) = wk2 at *
  replace HE := Lib.hid (HE.out.trans (hEn))
  have HBy := Lib.hid hBn
  have HAy := Lib.hid hAn
  clear hEn hBn hAn
  obtain ⟨sy0, sy1, sy2, sy3⟩ := HBy.out.cell
  go_wp2_with fail
  refine (up_at ga0 ga1 rfl (RdX.old (X := fun _ => False) HAy.out (Ext.refl _) (fun _ h => False.elim h)) (fun _ h => False.elim h)).mono ?_
  rintro e wf4 ⟨x3, rfl, hx3, hEx3⟩
  clear sy0 sy1 sy2 sy3
  obtain ⟨c0, c1, c2, c3, rfl, hA9⟩ := hx3
  obtain ⟨ky5, pay5, lay5, may5, pby5, lby5, mby5, pcy5, lcy5, mcy5, rfl, rfl, rfl, rfl⟩ := hA9.form
  have hEn := (((Ext.refl wk2).trans hEx3)).alloc (.cells #[(.int .i64 ky5), (.slice pay5 lay5 may5), (.slice pby5 lby5 mby5), (.slice pcy5 lcy5 mcy5)] 26)
  have hBn := box_new wf4 (.int .i64 ky5) (.slice pay5 lay5 may5) (.slice pby5 lby5 mby5) (.slice pcy5 lcy5 mcy5)
  have hAn := hA9.ext ((Ext.refl _).alloc (.cells #[(.int .i64 ky5), (.slice pay5 lay5 may5), (.slice pby5 lby5 mby5), (.slice pcy5 lcy5 mcy5)] 26))
  clear hA9 hEx3
  have HF := Lib.hid (And.intro hEn (And.intro hBn hAn))
  clear hEn hBn hAn
  go_upto_region 3 with (fail)
  obtain ⟨hEn, hBn, hAn⟩ := HF.out
  clear HF
  generalize hbz : wf4.heap.size = by5 at *
  clear hbz
  generalize wf4.alloc (.cells #[(.int .i64 ky5), (.slice pay5 lay5 may5), (.slice pby5 lby5 mby5), (.slice pcy5 lcy5 mcy5)] 26) = wk6 at *
  replace HBy := Lib.hid (HBy.out.ext hEn)
  replace HAy := Lib.hid (HAy.out.ext hEn)
  replace HE := Lib.hid (HE.out.trans (hEn))
  have HBa := Lib.hid hBn
  have HAa := Lib.hid hAn
  clear hEn hBn hAn
  obtain ⟨sy0, sy1, sy2, sy3⟩ := HBy.out.cell
  go_wp2_with fail
  refine (down_at ga0 ga2 rfl (RdX.old (X := fun _ => False) HAy.out (Ext.refl _) (fun _ h => False.elim h)) (fun _ h => False.elim h)).mono ?_
  rintro e wf8 ⟨x7, rfl, hx7, hEx7⟩
  clear sy0 sy1 sy2 sy3
  obtain ⟨c0, c1, c2, c3, rfl, hA9⟩ := hx7
  obtain ⟨ky9, pay9, lay9, may9, pby9, lby9, mby9, pcy9, lcy9, mcy9, rfl, rfl, rfl, rfl⟩ := hA9.form
  have hEn := (((Ext.refl wk6).trans hEx7)).alloc (.cells #[(.int .i64 ky9), (.slice pay9 lay9 may9), (.slice pby9 lby9 mby9), (.slice pcy9 lcy9 mcy9)] 26)
  have hBn := box_new wf8 (.int .i64 ky9) (.slice pay9 lay9 may9) (.slice pby9 lby9 mby9) (.slice pcy9 lcy9 mcy9)
  have hAn := hA9.ext ((Ext.refl _).alloc (.cells #[(.int .i64 ky9), (.slice pay9 lay9 may9), (.slice pby9 lby9 mby9), (.slice pcy9 lcy9 mcy9)] 26))
  clear hA9 hEx7
  have HF := Lib.hid (And.intro hEn (And.intro hBn hAn))
  clear hEn hBn hAn
  go_upto_region 4 with (fail)
  obtain ⟨hEn, hBn, hAn⟩ := HF.out
  clear HF
  generalize hbz : wf8.heap.size = by9 at *
  clear hbz
  generalize wf8.alloc (.cells #[(.int .i64 ky9), (.slice pay9 lay9 may9), (.slice pby9 lby9 mby9), (.slice pcy9 lcy9 mcy9)] 26) = wk10 at *
  replace HBy := Lib.hid (HBy.out.ext hEn)
  replace HAy := Lib.hid (HAy.out.ext hEn)
  replace HBa := Lib.hid (HBa.out.ext hEn)
  replace HAa := Lib.hid (HAa.out.ext hEn)
  replace HE := Lib.hid (HE.out.trans (hEn))
  have HBb := Lib.hid hBn
  have HAb := Lib.hid hAn
  clear hEn hBn hAn
  obtain ⟨sy0, sy1, sy2, sy3⟩ := HBy.out.cell
  go_wp2_with fail
  refine (gsort_at ga0 ga3 rfl (RdX.old (X := fun _ => False) HAy.out (Ext.refl _) (fun _ h => False.elim h)) (fun _ h => False.elim h)).mono ?_
  rintro e wf12 ⟨x11, rfl, hx11, hEx11⟩
  clear sy0 sy1 sy2 sy3
  obtain ⟨c0, c1, c2, c3, rfl, hA9⟩ := hx11
  obtain ⟨ky13, pay13, lay13, may13, pby13, lby13, mby13, pcy13, lcy13, mcy13, rfl, rfl, rfl, rfl⟩ := hA9.form
  have hEn := (((Ext.refl wk10).trans hEx11)).alloc (.cells #[(.int .i64 ky13), (.slice pay13 lay13 may13), (.slice pby13 lby13 mby13), (.slice pcy13 lcy13 mcy13)] 26)
  have hBn := box_new wf12 (.int .i64 ky13) (.slice pay13 lay13 may13) (.slice pby13 lby13 mby13) (.slice pcy13 lcy13 mcy13)
  have hAn := hA9.ext ((Ext.refl _).alloc (.cells #[(.int .i64 ky13), (.slice pay13 lay13 may13), (.slice pby13 lby13 mby13), (.slice pcy13 lcy13 mcy13)] 26))
  clear hA9 hEx11
  have HF := Lib.hid (And.intro hEn (And.intro hBn hAn))
  clear hEn hBn hAn
  go_upto_region 5 with (fail)
  obtain ⟨hEn, hBn, hAn⟩ := HF.out
  clear HF
  generalize hbz : wf12.heap.size = by13 at *
  clear hbz
  generalize wf12.alloc (.cells #[(.int .i64 ky13), (.slice pay13 lay13 may13), (.slice pby13 lby13 mby13), (.slice pcy13 lcy13 mcy13)] 26) = wk14 at *
  replace HBy := Lib.hid (HBy.out.ext hEn)
  replace HAy := Lib.hid (HAy.out.ext hEn)
  replace HBa := Lib.hid (HBa.out.ext hEn)
  replace HAa := Lib.hid (HAa.out.ext hEn)
  replace HBb := Lib.hid (HBb.out.ext hEn)
  replace HAb := Lib.hid (HAb.out.ext hEn)
  replace HE := Lib.hid (HE.out.trans (hEn))
  have HBc := Lib.hid hBn
  have HAc := Lib.hid hAn
  clear hEn hBn hAn
  go_wp2_with fail
  refine (num_rd (by decide) (fun _ h => False.elim h)).mono ?_
  rintro e wf16 ⟨x15, rfl, hx15, hEx15⟩
  go_wp2_with fail
  refine (up_at ga4 ga5 rfl hx15 (fun _ h => False.elim h)).mono ?_
  rintro e wf18 ⟨x17, rfl, hx17, hEx17⟩
  obtain ⟨c0, c1, c2, c3, rfl, hA9⟩ := hx17
  obtain ⟨ky19, pay19, lay19, may19, pby19, lby19, mby19, pcy19, lcy19, mcy19, rfl, rfl, rfl, rfl⟩ := hA9.form
  have hEn := ((((Ext.refl wk14).trans hEx15).trans hEx17)).alloc (.cells #[(.int .i64 ky19), (.slice pay19 lay19 may19), (.slice pby19 lby19 mby19), (.slice pcy19 lcy19 mcy19)] 26)
  have hBn := box_new wf18 (.int .i64 ky19) (.slice pay19 lay19 may19) (.slice pby19 lby19 mby19) (.slice pcy19 lcy19 mcy19)
  have hAn := hA9.ext ((Ext.refl _).alloc (.cells #[(.int .i64 ky19), (.slice pay19 lay19 may19), (.slice pby19 lby19 mby19), (.slice pcy19 lcy19 mcy19)] 26))
  clear hA9 hEx17 hEx15 hx15
  have HF := Lib.hid (And.intro hEn (And.intro hBn hAn))
  clear hEn hBn hAn
  go_upto_region 6 with (fail)
  obtain ⟨hEn, hBn, hAn⟩ := HF.out
  clear HF
  generalize hbz : wf18.heap.size = by19 at *
  clear hbz
  generalize wf18.alloc (.cells #[(.int .i64 ky19), (.slice pay19 lay19 may19), (.slice pby19 lby19 mby19), (.slice pcy19 lcy19 mcy19)] 26) = wk20 at *
  replace HBy := Lib.hid (HBy.out.ext hEn)
  replace HAy := Lib.hid (HAy.out.ext hEn)
  replace HBa := Lib.hid (HBa.out.ext hEn)
  replace HAa := Lib.hid (HAa.out.ext hEn)
  replace HBb := Lib.hid (HBb.out.ext hEn)
  replace HAb := Lib.hid (HAb.out.ext hEn)
  replace HBc := Lib.hid (HBc.out.ext hEn)
  replace HAc := Lib.hid (HAc.out.ext hEn)
  replace HE := Lib.hid (HE.out.trans (hEn))
  have HBk := Lib.hid hBn
  have HAk := Lib.hid hAn
  clear hEn hBn hAn
  refine wp_region_x0 (MProp.is (.int .i64 0) :: MProp.is (.bool true) :: MProp.is (.bool true) :: MProp.is (.int .i64 0) :: MProp.is (.bool true) :: MProp.is (.bool true) :: MProp.is (.bool true) :: MProp.is (.int .i64 0) :: MProp.is (.bool true) :: MProp.is (.bool true) :: MProp.is (.bool true) :: MProp.is (.int .i64 15) :: MProp.is (.bool true) :: MProp.is (.bool true) :: MProp.is (.bool true) :: MProp.is (.agg #[(.int .i64 ky5), (.slice pay5 lay5 may5), (.slice pby5 lby5 mby5), (.slice pcy5 lcy5 mcy5)]) :: MProp.rdi [1, 3, 2, 0] :: MProp.rd (vecV [1, 3, 2, 0]) :: MProp.is (.bool true) :: MProp.is (.bool true) :: MProp.is (.bool true) :: MProp.is (.agg #[(.int .i64 ky9), (.slice pay9 lay9 may9), (.slice pby9 lby9 mby9), (.slice pcy9 lcy9 mcy9)]) :: MProp.rdi [0, 2, 1, 3] :: MProp.rd (vecV [0, 2, 1, 3]) :: MProp.is (.bool true) :: MProp.is (.bool true) :: MProp.is (.bool true) :: MProp.is (.agg #[(.int .i64 ky13), (.slice pay13 lay13 may13), (.slice pby13 lby13 mby13), (.slice pcy13 lcy13 mcy13)]) :: MProp.rdi [10, 10, 20, 30] :: MProp.rd (vecV [10, 10, 20, 30]) :: MProp.is (.bool true) :: MProp.is (.bool true) :: MProp.is (.bool true) :: []) (0 :: 1 :: 2 :: 3 :: 4 :: 5 :: 6 :: 7 :: 8 :: 9 :: 10 :: 11 :: 12 :: 13 :: 14 :: 15 :: 16 :: 17 :: 18 :: 19 :: 20 :: 21 :: 22 :: 23 :: 24 :: 25 :: 26 :: 27 :: 28 :: 29 :: 30 :: 31 :: 32 :: []) [] (32 :: 33 :: 34 :: 35 :: 36 :: 37 :: 38 :: 39 :: 40 :: 41 :: 42 :: 43 :: 44 :: 45 :: 46 :: 47 :: 48 :: 49 :: 50 :: 51 :: 52 :: 53 :: 54 :: 55 :: 56 :: 57 :: 58 :: 59 :: 60 :: 61 :: 62 :: 63 :: 0 :: []) (by kernel_rfl) (by kernel_rfl) (by kernel_rfl) ?_ ?_ ?_
  · refine mem_cons_m ?_ (mem_cons_m ?_ (mem_cons_m ?_ (mem_cons_m ?_ (mem_cons_m ?_ (mem_cons_m ?_ (mem_cons_m ?_ (mem_cons_m ?_ (mem_cons_m ?_ (mem_cons_m ?_ (mem_cons_m ?_ (mem_cons_m ?_ (mem_cons_m ?_ (mem_cons_m ?_ (mem_cons_m ?_ (mem_cons_m ?_ (mem_cons_m ?_ (mem_cons_m ?_ (mem_cons_m ?_ (mem_cons_m ?_ (mem_cons_m ?_ (mem_cons_m ?_ (mem_cons_m ?_ (mem_cons_m ?_ (mem_cons_m ?_ (mem_cons_m ?_ (mem_cons_m ?_ (mem_cons_m ?_ (mem_cons_m ?_ (mem_cons_m ?_ (mem_cons_m ?_ (mem_cons_m ?_ (mem_cons_m ?_ (mem_nil_m)))))))))))))))))))))))))))))))))
    · refine ⟨_, 32, rfl, by kernel_rfl, ?_⟩
      intro u w9 X hE hX hd K hK
      clear hd
      simp only [overlay, List.setIfInBounds_toArray, List.set] at hK ⊢
      go_wp2_with fail
      exact hK _ _ X (Ext.refl _) kept_m hX rfl
    · refine ⟨_, 33, rfl, by kernel_rfl, ?_⟩
      intro u w9 X hE hX hd K hK
      have d0 : u 32 = .int .i64 0 := hd 0 (by kernel_rfl)
      clear hd
      simp only [overlay, List.setIfInBounds_toArray, List.set, d0] at hK ⊢
      go_wp2_with fail
      exact hK _ _ X (Ext.refl _) kept_m hX rfl
    · refine ⟨_, 34, rfl, by kernel_rfl, ?_⟩
      intro u w9 X hE hX hd K hK
      have d1 : u 33 = .bool true := hd 1 (by kernel_rfl)
      clear hd
      simp only [overlay, List.setIfInBounds_toArray, List.set, d1] at hK ⊢
      go_wp2_with fail
      exact hK _ _ X (Ext.refl _) kept_m hX rfl
    · refine ⟨_, 35, rfl, by kernel_rfl, ?_⟩
      intro u w9 X hE hX hd K hK
      have d2 : u 34 = .bool true := hd 2 (by kernel_rfl)
      clear hd
      simp only [overlay, List.setIfInBounds_toArray, List.set, d2] at hK ⊢
      go_wp2_with fail
      exact hK _ _ X (Ext.refl _) kept_m hX rfl
    · refine ⟨_, 36, rfl, by kernel_rfl, ?_⟩
      intro u w9 X hE hX hd K hK
      have d3 : u 35 = .int .i64 0 := hd 3 (by kernel_rfl)
      have d2 : u 34 = .bool true := hd 2 (by kernel_rfl)
      clear hd
      simp only [overlay, List.setIfInBounds_toArray, List.set, d3, d2] at hK ⊢
      go_wp2_with fail
      exact hK _ _ X (Ext.refl _) kept_m hX rfl
    · refine ⟨_, 37, rfl, by kernel_rfl, ?_⟩
      intro u w9 X hE hX hd K hK
      have d2 : u 34 = .bool true := hd 2 (by kernel_rfl)
      have d4 : u 36 = .bool true := hd 4 (by kernel_rfl)
      clear hd
      simp only [overlay, List.setIfInBounds_toArray, List.set, d2, d4] at hK ⊢
      go_wp2_with fail
      exact hK _ _ X (Ext.refl _) kept_m hX rfl
    · refine ⟨_, 38, rfl, by kernel_rfl, ?_⟩
      intro u w9 X hE hX hd K hK
      have d5 : u 37 = .bool true := hd 5 (by kernel_rfl)
      clear hd
      simp only [overlay, List.setIfInBounds_toArray, List.set, d5] at hK ⊢
      go_wp2_with fail
      exact hK _ _ X (Ext.refl _) kept_m hX rfl
    · refine ⟨_, 39, rfl, by kernel_rfl, ?_⟩
      intro u w9 X hE hX hd K hK
      have d6 : u 38 = .bool true := hd 6 (by kernel_rfl)
      clear hd
      simp only [overlay, List.setIfInBounds_toArray, List.set, d6] at hK ⊢
      go_wp2_with fail
      exact hK _ _ X (Ext.refl _) kept_m hX rfl
    · refine ⟨_, 40, rfl, by kernel_rfl, ?_⟩
      intro u w9 X hE hX hd K hK
      have d7 : u 39 = .int .i64 0 := hd 7 (by kernel_rfl)
      have d6 : u 38 = .bool true := hd 6 (by kernel_rfl)
      clear hd
      simp only [overlay, List.setIfInBounds_toArray, List.set, d7, d6] at hK ⊢
      go_wp2_with fail
      exact hK _ _ X (Ext.refl _) kept_m hX rfl
    · refine ⟨_, 41, rfl, by kernel_rfl, ?_⟩
      intro u w9 X hE hX hd K hK
      have d6 : u 38 = .bool true := hd 6 (by kernel_rfl)
      have d8 : u 40 = .bool true := hd 8 (by kernel_rfl)
      clear hd
      simp only [overlay, List.setIfInBounds_toArray, List.set, d6, d8] at hK ⊢
      go_wp2_with fail
      exact hK _ _ X (Ext.refl _) kept_m hX rfl
    · refine ⟨_, 42, rfl, by kernel_rfl, ?_⟩
      intro u w9 X hE hX hd K hK
      have d9 : u 41 = .bool true := hd 9 (by kernel_rfl)
      clear hd
      simp only [overlay, List.setIfInBounds_toArray, List.set, d9] at hK ⊢
      go_wp2_with fail
      exact hK _ _ X (Ext.refl _) kept_m hX rfl
    · refine ⟨_, 43, rfl, by kernel_rfl, ?_⟩
      intro u w9 X hE hX hd K hK
      have d10 : u 42 = .bool true := hd 10 (by kernel_rfl)
      clear hd
      simp only [overlay, List.setIfInBounds_toArray, List.set, d10] at hK ⊢
      go_wp2_with fail
      exact hK _ _ X (Ext.refl _) kept_m hX rfl
    · refine ⟨_, 44, rfl, by kernel_rfl, ?_⟩
      intro u w9 X hE hX hd K hK
      have d11 : u 43 = .int .i64 15 := hd 11 (by kernel_rfl)
      have d10 : u 42 = .bool true := hd 10 (by kernel_rfl)
      clear hd
      simp only [overlay, List.setIfInBounds_toArray, List.set, d11, d10] at hK ⊢
      go_wp2_with fail
      exact hK _ _ X (Ext.refl _) kept_m hX rfl
    · refine ⟨_, 45, rfl, by kernel_rfl, ?_⟩
      intro u w9 X hE hX hd K hK
      have d10 : u 42 = .bool true := hd 10 (by kernel_rfl)
      have d12 : u 44 = .bool true := hd 12 (by kernel_rfl)
      clear hd
      simp only [overlay, List.setIfInBounds_toArray, List.set, d10, d12] at hK ⊢
      go_wp2_with fail
      exact hK _ _ X (Ext.refl _) kept_m hX rfl
    · refine ⟨_, 46, rfl, by kernel_rfl, ?_⟩
      intro u w9 X hE hX hd K hK
      have d13 : u 45 = .bool true := hd 13 (by kernel_rfl)
      clear hd
      simp only [overlay, List.setIfInBounds_toArray, List.set, d13] at hK ⊢
      go_wp2_with fail
      exact hK _ _ X (Ext.refl _) kept_m hX rfl
    · refine ⟨_, 47, rfl, by kernel_rfl, ?_⟩
      intro u w9 X hE hX hd K hK
      have d14 : u 46 = .bool true := hd 14 (by kernel_rfl)
      clear hd
      simp only [overlay, List.setIfInBounds_toArray, List.set, d14] at hK ⊢
      have e9 : Ext wk20 w9 := (Ext.refl wk20).drew.trans hE
      obtain ⟨s0, s1, s2, s3⟩ := (HBa.out.ext e9).cell
      go_wp2_with fail
      exact hK _ _ X (Ext.refl _) kept_m hX rfl
    · refine ⟨_, 48, rfl, by kernel_rfl, ?_⟩
      intro u w9 X hE hX hd K hK
      have d14 : u 46 = .bool true := hd 14 (by kernel_rfl)
      clear hd
      simp only [overlay, List.setIfInBounds_toArray, List.set, d14] at hK ⊢
      go_wp2_with fail
      exact hK _ _ X ((Ext.refl _).alloc _) kept_m (hX.ext ((Ext.refl _).alloc _)) (rdix_lit w9 [1, 3, 2, 0] (by decide) (by decide) hX.hi)
    · refine ⟨_, 49, rfl, by kernel_rfl, ?_⟩
      intro u w9 X hE hX hd K hK
      have d16 : RdIX X w9 [1, 3, 2, 0] (u 48) := hd 16 (by kernel_rfl)
      have d14 : u 46 = .bool true := hd 14 (by kernel_rfl)
      clear hd
      simp only [overlay, List.setIfInBounds_toArray, List.set, d14] at hK ⊢
      have e9 : Ext wk20 w9 := (Ext.refl wk20).drew.trans hE
      go_wp2_with fail
      refine (vec_rd d16 hX.hi).mono ?_
      rintro e w8 ⟨x8, rfl, hx8, hE8⟩
      go_wp2_with fail
      exact hK _ _ X hE8 kept_m (hX.ext hE8) hx8
    · refine ⟨_, 50, rfl, by kernel_rfl, ?_⟩
      intro u w9 X hE hX hd K hK
      have d15 : u 47 = .agg #[(.int .i64 ky5), (.slice pay5 lay5 may5), (.slice pby5 lby5 mby5), (.slice pcy5 lcy5 mcy5)] := hd 15 (by kernel_rfl)
      have d17 : RdX X w9 (vecV [1, 3, 2, 0]) (u 49) := hd 17 (by kernel_rfl)
      have d14 : u 46 = .bool true := hd 14 (by kernel_rfl)
      clear hd
      simp only [overlay, List.setIfInBounds_toArray, List.set, d15, d14] at hK ⊢
      have e9 : Ext wk20 w9 := (Ext.refl wk20).drew.trans hE
      go_wp2_with fail
      refine (same_true ((RdX.old HAa.out e9 hX.lo)).rd (d17).rd rfl rfl).mono ?_
      rintro e w8 ⟨rfl, hE8⟩
      go_wp2_with fail
      exact hK _ _ X hE8 kept_m (hX.ext hE8) rfl
    · refine ⟨_, 51, rfl, by kernel_rfl, ?_⟩
      intro u w9 X hE hX hd K hK
      have d14 : u 46 = .bool true := hd 14 (by kernel_rfl)
      have d18 : u 50 = .bool true := hd 18 (by kernel_rfl)
      clear hd
      simp only [overlay, List.setIfInBounds_toArray, List.set, d14, d18] at hK ⊢
      go_wp2_with fail
      exact hK _ _ X (Ext.refl _) kept_m hX rfl
    · refine ⟨_, 52, rfl, by kernel_rfl, ?_⟩
      intro u w9 X hE hX hd K hK
      have d19 : u 51 = .bool true := hd 19 (by kernel_rfl)
      clear hd
      simp only [overlay, List.setIfInBounds_toArray, List.set, d19] at hK ⊢
      go_wp2_with fail
      exact hK _ _ X (Ext.refl _) kept_m hX rfl
    · refine ⟨_, 53, rfl, by kernel_rfl, ?_⟩
      intro u w9 X hE hX hd K hK
      have d20 : u 52 = .bool true := hd 20 (by kernel_rfl)
      clear hd
      simp only [overlay, List.setIfInBounds_toArray, List.set, d20] at hK ⊢
      have e9 : Ext wk20 w9 := (Ext.refl wk20).drew.trans hE
      obtain ⟨s0, s1, s2, s3⟩ := (HBb.out.ext e9).cell
      go_wp2_with fail
      exact hK _ _ X (Ext.refl _) kept_m hX rfl
    · refine ⟨_, 54, rfl, by kernel_rfl, ?_⟩
      intro u w9 X hE hX hd K hK
      have d20 : u 52 = .bool true := hd 20 (by kernel_rfl)
      clear hd
      simp only [overlay, List.setIfInBounds_toArray, List.set, d20] at hK ⊢
      go_wp2_with fail
      exact hK _ _ X ((Ext.refl _).alloc _) kept_m (hX.ext ((Ext.refl _).alloc _)) (rdix_lit w9 [0, 2, 1, 3] (by decide) (by decide) hX.hi)
    · refine ⟨_, 55, rfl, by kernel_rfl, ?_⟩
      intro u w9 X hE hX hd K hK
      have d22 : RdIX X w9 [0, 2, 1, 3] (u 54) := hd 22 (by kernel_rfl)
      have d20 : u 52 = .bool true := hd 20 (by kernel_rfl)
      clear hd
      simp only [overlay, List.setIfInBounds_toArray, List.set, d20] at hK ⊢
      have e9 : Ext wk20 w9 := (Ext.refl wk20).drew.trans hE
      go_wp2_with fail
      refine (vec_rd d22 hX.hi).mono ?_
      rintro e w8 ⟨x8, rfl, hx8, hE8⟩
      go_wp2_with fail
      exact hK _ _ X hE8 kept_m (hX.ext hE8) hx8
    · refine ⟨_, 56, rfl, by kernel_rfl, ?_⟩
      intro u w9 X hE hX hd K hK
      have d21 : u 53 = .agg #[(.int .i64 ky9), (.slice pay9 lay9 may9), (.slice pby9 lby9 mby9), (.slice pcy9 lcy9 mcy9)] := hd 21 (by kernel_rfl)
      have d23 : RdX X w9 (vecV [0, 2, 1, 3]) (u 55) := hd 23 (by kernel_rfl)
      have d20 : u 52 = .bool true := hd 20 (by kernel_rfl)
      clear hd
      simp only [overlay, List.setIfInBounds_toArray, List.set, d21, d20] at hK ⊢
      have e9 : Ext wk20 w9 := (Ext.refl wk20).drew.trans hE
      go_wp2_with fail
      refine (same_true ((RdX.old HAb.out e9 hX.lo)).rd (d23).rd rfl rfl).mono ?_
      rintro e w8 ⟨rfl, hE8⟩
      go_wp2_with fail
      exact hK _ _ X hE8 kept_m (hX.ext hE8) rfl
    · refine ⟨_, 57, rfl, by kernel_rfl, ?_⟩
      intro u w9 X hE hX hd K hK
      have d20 : u 52 = .bool true := hd 20 (by kernel_rfl)
      have d24 : u 56 = .bool true := hd 24 (by kernel_rfl)
      clear hd
      simp only [overlay, List.setIfInBounds_toArray, List.set, d20, d24] at hK ⊢
      go_wp2_with fail
      exact hK _ _ X (Ext.refl _) kept_m hX rfl
    · refine ⟨_, 58, rfl, by kernel_rfl, ?_⟩
      intro u w9 X hE hX hd K hK
      have d25 : u 57 = .bool true := hd 25 (by kernel_rfl)
      clear hd
      simp only [overlay, List.setIfInBounds_toArray, List.set, d25] at hK ⊢
      go_wp2_with fail
      exact hK _ _ X (Ext.refl _) kept_m hX rfl
    · refine ⟨_, 59, rfl, by kernel_rfl, ?_⟩
      intro u w9 X hE hX hd K hK
      have d26 : u 58 = .bool true := hd 26 (by kernel_rfl)
      clear hd
      simp only [overlay, List.setIfInBounds_toArray, List.set, d26] at hK ⊢
      have e9 : Ext wk20 w9 := (Ext.refl wk20).drew.trans hE
      obtain ⟨s0, s1, s2, s3⟩ := (HBc.out.ext e9).cell
      go_wp2_with fail
      exact hK _ _ X (Ext.refl _) kept_m hX rfl
    · refine ⟨_, 60, rfl, by kernel_rfl, ?_⟩
      intro u w9 X hE hX hd K hK
      have d26 : u 58 = .bool true := hd 26 (by kernel_rfl)
      clear hd
      simp only [overlay, List.setIfInBounds_toArray, List.set, d26] at hK ⊢
      go_wp2_with fail
      exact hK _ _ X ((Ext.refl _).alloc _) kept_m (hX.ext ((Ext.refl _).alloc _)) (rdix_lit w9 [10, 10, 20, 30] (by decide) (by decide) hX.hi)
    · refine ⟨_, 61, rfl, by kernel_rfl, ?_⟩
      intro u w9 X hE hX hd K hK
      have d28 : RdIX X w9 [10, 10, 20, 30] (u 60) := hd 28 (by kernel_rfl)
      have d26 : u 58 = .bool true := hd 26 (by kernel_rfl)
      clear hd
      simp only [overlay, List.setIfInBounds_toArray, List.set, d26] at hK ⊢
      have e9 : Ext wk20 w9 := (Ext.refl wk20).drew.trans hE
      go_wp2_with fail
      refine (vec_rd d28 hX.hi).mono ?_
      rintro e w8 ⟨x8, rfl, hx8, hE8⟩
      go_wp2_with fail
      exact hK _ _ X hE8 kept_m (hX.ext hE8) hx8
    · refine ⟨_, 62, rfl, by kernel_rfl, ?_⟩
      intro u w9 X hE hX hd K hK
      have d27 : u 59 = .agg #[(.int .i64 ky13), (.slice pay13 lay13 may13), (.slice pby13 lby13 mby13), (.slice pcy13 lcy13 mcy13)] := hd 27 (by kernel_rfl)
      have d29 : RdX X w9 (vecV [10, 10, 20, 30]) (u 61) := hd 29 (by kernel_rfl)
      have d26 : u 58 = .bool true := hd 26 (by kernel_rfl)
      clear hd
      simp only [overlay, List.setIfInBounds_toArray, List.set, d27, d26] at hK ⊢
      have e9 : Ext wk20 w9 := (Ext.refl wk20).drew.trans hE
      go_wp2_with fail
      refine (same_true ((RdX.old HAc.out e9 hX.lo)).rd (d29).rd rfl rfl).mono ?_
      rintro e w8 ⟨rfl, hE8⟩
      go_wp2_with fail
      exact hK _ _ X hE8 kept_m (hX.ext hE8) rfl
    · refine ⟨_, 63, rfl, by kernel_rfl, ?_⟩
      intro u w9 X hE hX hd K hK
      have d26 : u 58 = .bool true := hd 26 (by kernel_rfl)
      have d30 : u 62 = .bool true := hd 30 (by kernel_rfl)
      clear hd
      simp only [overlay, List.setIfInBounds_toArray, List.set, d26, d30] at hK ⊢
      go_wp2_with fail
      exact hK _ _ X (Ext.refl _) kept_m hX rfl
    · refine ⟨_, 0, rfl, by kernel_rfl, ?_⟩
      intro u w9 X hE hX hd K hK
      have d31 : u 63 = .bool true := hd 31 (by kernel_rfl)
      clear hd
      simp only [overlay, List.setIfInBounds_toArray, List.set, d31] at hK ⊢
      go_wp2_with fail
      exact hK _ _ X (Ext.refl _) kept_m hX rfl
  · exact mem_nil_m
  intro u w9 X hE hX hd
  have d0 : u 32 = .int .i64 0 := hd 0 (by decide)
  have d1 : u 33 = .bool true := hd 1 (by decide)
  have d2 : u 34 = .bool true := hd 2 (by decide)
  have d3 : u 35 = .int .i64 0 := hd 3 (by decide)
  have d4 : u 36 = .bool true := hd 4 (by decide)
  have d5 : u 37 = .bool true := hd 5 (by decide)
  have d6 : u 38 = .bool true := hd 6 (by decide)
  have d7 : u 39 = .int .i64 0 := hd 7 (by decide)
  have d8 : u 40 = .bool true := hd 8 (by decide)
  have d9 : u 41 = .bool true := hd 9 (by decide)
  have d10 : u 42 = .bool true := hd 10 (by decide)
  have d11 : u 43 = .int .i64 15 := hd 11 (by decide)
  have d12 : u 44 = .bool true := hd 12 (by decide)
  have d13 : u 45 = .bool true := hd 13 (by decide)
  have d14 : u 46 = .bool true := hd 14 (by decide)
  have d15 : u 47 = .agg #[(.int .i64 ky5), (.slice pay5 lay5 may5), (.slice pby5 lby5 mby5), (.slice pcy5 lcy5 mcy5)] := hd 15 (by decide)
  have d16 : RdIX X w9 [1, 3, 2, 0] (u 48) := hd 16 (by decide)
  have d17 : RdX X w9 (vecV [1, 3, 2, 0]) (u 49) := hd 17 (by decide)
  have d18 : u 50 = .bool true := hd 18 (by decide)
  have d19 : u 51 = .bool true := hd 19 (by decide)
  have d20 : u 52 = .bool true := hd 20 (by decide)
  have d21 : u 53 = .agg #[(.int .i64 ky9), (.slice pay9 lay9 may9), (.slice pby9 lby9 mby9), (.slice pcy9 lcy9 mcy9)] := hd 21 (by decide)
  have d22 : RdIX X w9 [0, 2, 1, 3] (u 54) := hd 22 (by decide)
  have d23 : RdX X w9 (vecV [0, 2, 1, 3]) (u 55) := hd 23 (by decide)
  have d24 : u 56 = .bool true := hd 24 (by decide)
  have d25 : u 57 = .bool true := hd 25 (by decide)
  have d26 : u 58 = .bool true := hd 26 (by decide)
  have d27 : u 59 = .agg #[(.int .i64 ky13), (.slice pay13 lay13 may13), (.slice pby13 lby13 mby13), (.slice pcy13 lcy13 mcy13)] := hd 27 (by decide)
  have d28 : RdIX X w9 [10, 10, 20, 30] (u 60) := hd 28 (by decide)
  have d29 : RdX X w9 (vecV [10, 10, 20, 30]) (u 61) := hd 29 (by decide)
  have d30 : u 62 = .bool true := hd 30 (by decide)
  have d31 : u 63 = .bool true := hd 31 (by decide)
  have d32 : u 0 = .bool true := hd 32 (by decide)
  clear hd
  simp only [overlay, List.setIfInBounds_toArray, List.set, d0, d1, d2, d3, d4, d5, d6, d7, d8, d9, d10, d11, d12, d13, d14, d15, d18, d19, d20, d21, d24, d25, d26, d27, d30, d31, d32]
  have e9 : Ext wk20 w9 := (Ext.refl wk20).drew.trans hE
  clear d0 d1 d2 d3 d4 d5 d6 d7 d8 d9 d10 d11 d12 d13 d14 d15 d16 d17 d18 d19 d20 d21 d22 d23 d24 d25 d26 d27 d28 d29 d30 d31 d32
  clear hX hE
  generalize u 48 = t48z21
  generalize u 49 = t49z21
  generalize u 54 = t54z21
  generalize u 55 = t55z21
  generalize u 60 = t60z21
  generalize u 61 = t61z21
  clear u
  obtain ⟨wk22, rfl⟩ : ∃ wx : World, wx = w9 := ⟨_, rfl⟩
  replace HBy := Lib.hid (HBy.out.ext e9)
  replace HAy := Lib.hid (HAy.out.ext e9)
  replace HBa := Lib.hid (HBa.out.ext e9)
  replace HAa := Lib.hid (HAa.out.ext e9)
  replace HBb := Lib.hid (HBb.out.ext e9)
  replace HAb := Lib.hid (HAb.out.ext e9)
  replace HBc := Lib.hid (HBc.out.ext e9)
  replace HAc := Lib.hid (HAc.out.ext e9)
  replace HBk := Lib.hid (HBk.out.ext e9)
  replace HAk := Lib.hid (HAk.out.ext e9)
  replace HE := Lib.hid (HE.out.trans (e9))
  clear e9
  go_wp2_with fail
  go_ret
  exact ⟨rfl, HE.out⟩
end Go.Proofs.Ytgeppialbkijiaa
