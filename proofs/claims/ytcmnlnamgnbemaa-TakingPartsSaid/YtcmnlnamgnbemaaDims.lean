/-
  transposing.dims: the dimensions of a result, built in a row of the call's own.
-/
import Derived.Test.YtcmnlnamgnbemaaMoved
namespace Go.Proofs.Ytcmnlnamgnbemaa
set_option linter.unusedSimpArgs false
set_option linter.unusedVariables false
open Go.RowKit

def padTo (out : List Int) (n : Nat) : List Int := out ++ List.replicate (n - out.length) (-1)
def dimsPut (out : List Int) (a f : Int) : List Int :=
  if (padTo out (a.toNat + 1)).getD a.toNat 0 < 0 ∨ f < (padTo out (a.toNat + 1)).getD a.toNat 0 then (padTo out (a.toNat + 1)).set a.toNat f else padTo out (a.toNat + 1)
/-- The dimensions of the result. -/
def dimsGo : List Int → List Int → List Int → List Int
  | a :: r, f :: q, out => dimsGo r q (dimsPut out a f)
  | _, _, out => out

theorem dimsGo_nil (q out : List Int) : dimsGo [] q out = out := rfl
theorem padTo_length (out : List Int) (n : Nat) : (padTo out n).length = max out.length n := by
  unfold padTo
  simp
  omega
theorem padTo_of_le {out : List Int} {n : Nat} (h : n ≤ out.length) : padTo out n = out := by
  unfold padTo
  rw [Nat.sub_eq_zero_of_le h]; simp
theorem padTo_snoc {out : List Int} {n : Nat} (h : out.length < n) : padTo (out ++ [-1]) n = padTo out n := by
  unfold padTo
  rw [List.length_append, List.length_singleton, List.append_assoc, show n - out.length = (n - (out.length + 1)) + 1 by omega, List.replicate_succ]
  rfl
theorem dimsPut_length (out : List Int) (a f : Int) : (dimsPut out a f).length = max out.length (a.toNat + 1) := by
  unfold dimsPut
  split
  · rw [List.length_set, padTo_length]
  · rw [padTo_length]

def sLen : Value → Nat
  | .slice _ n _ => n
  | _ => 0
/-- A cell of a row of the call's own; a store into it. -/
theorem OwnI.at {B : Nat} {X : Nat → Prop} {w : World} {p : Option Addr} {c : Nat} {xs : List Int} (h : OwnI B X w (.slice p xs.length c) xs.length xs) {j : Nat} (hj : j < xs.length) :
    ∃ g, p = some ⟨g, 0, none⟩ ∧ B ≤ g ∧ g < w.heap.size ∧ w.cell? ⟨g, j, none⟩ = some (.int .i64 (xs.getD j 0)) ∧ w.frozen? ⟨g, j, none⟩ = false ∧
      ∀ v : Int, -9223372036854775808 ≤ v ∧ v ≤ 9223372036854775807 → OwnI B X (w.setCell ⟨g, j, none⟩ (.int .i64 v)) (.slice p xs.length c) xs.length (xs.set j v) := by
  obtain ⟨k1, k2, k3, k4, k5⟩ := h
  have hl := k3.lt
  obtain ⟨q1, q2⟩ := k3
  rcases q2 with ⟨_, h0⟩ | ⟨g, cap, cur, he, hb, hg, hnc, hcm, hcs, htake⟩
  · omega
  · cases he
    refine ⟨g, rfl, hb, (hl g rfl).2, ?_, frozen_of_row w g j _ _ hg, fun v hv => ⟨List.length_set, k2, ⟨by simp, .inr ⟨g, c, _, rfl, hb, heap_setCell_at hg, hnc, hcm, ?_, ?_⟩⟩, k4, fun x hx => ?_⟩⟩
    · rw [cell_of_row w g j _ _ _ hg]
      have h2 : (cur.toList.take (xs.length * 1))[j]? = (xs.map (Value.int .i64))[j]? := by rw [htake]
      rw [List.getElem?_take, if_pos (by omega)] at h2
      rw [← Array.getElem?_toList, h2]
      simp [List.getD, hj]
    · simp [hcs]
    · rw [List.map_set, ← htake]
      simp only [Nat.mul_one, Array.toList_setIfInBounds, List.take_set]
    · rcases List.mem_or_eq_of_mem_set hx with h | h
      · exact k5 x h
      · rw [h]; exact hv

set_option maxRecDepth 100000 in
set_option maxHeartbeats 4000000 in
/-- transposing.dims. -/
theorem dims_any (F G : Nat → Prop) (p1 p2 : Option Addr) (cc1 cc2 : Nat) (axes frm : List Int) (w : World) (R : Nat) (hR : R < 17592186044416)
    (ha : IntsAt F w p1 axes) (hf : IntsAt G w p2 frm) (hl : axes.length ≤ frm.length) (hla : axes.length ≤ lenMax) (hax : ∀ j, j < axes.length → 0 ≤ axes.getD j 0 ∧ axes.getD j 0 < R) :
    Calls Try.prog 62 #[.slice p1 axes.length cc1, .slice p2 frm.length cc2] w fun e w' =>
      ∃ p c, e = .returned (.slice p (dimsGo axes frm []).length c) ∧ SlOk (dimsGo axes frm []).length c ∧ IntsAt (fun b => w.heap.size ≤ b) w' p (dimsGo axes frm []) ∧ Ext w w' := by
  unfold lenMax at hla
  have HAX := Lib.hid hax
  have HA := Lib.hid ha
  have HF := Lib.hid hf
  clear hax ha hf
  go_enter Try.func62, Try.ntmps62
  go_wp2_with fail
  go_loopw [5, 10] (fun v i wr => ∃ (q : Nat) (out : List Int) (p : Option Addr) (c : Nat), q ≤ axes.length ∧ i = .int .i64 q ∧ v = .slice p out.length c ∧ OwnI w.heap.size (fun _ => False) wr (.slice p out.length c) out.length out ∧ Ext w wr ∧ out.length ≤ R ∧
      Hid (dimsGo (axes.drop q) (frm.drop q) out = dimsGo axes frm [])) (fun _ i _ => axes.length - (intOf i).toNat)
  case atStart => exact ⟨0, [], none, 0, Nat.zero_le _, rfl, rfl, OwnI.nil _ _ _, Ext.refl _, Nat.zero_le _, rfl⟩
  case round =>
    obtain ⟨q, out, p, c, hq, rfl, rfl, hO, hE, hoR, HG⟩ := hrel
    by_cases hlt : q < axes.length
    · obtain ⟨b1, f1, rfl, ax1, _, _⟩ := (HA.out.ext hE).get hlt
      have hqa := HAX.out q hlt
      have HD1 := Lib.hid (drop_getD hlt)
      have HD2 := Lib.hid (drop_getD (l := frm) (k := q) (by omega))
      obtain ⟨b2, f2, rfl, ay0, ay1, ay2⟩ := HF.out.get (i := q) (by omega)
      have HY := Lib.hid ay0
      generalize axes.getD q 0 = a at *
      generalize hy0 : frm.getD q 0 = y at *
      have HY0 := Lib.hid hy0
      clear hy0
      have hg := HG.out
      rw [HD1.out, HD2.out, dimsGo] at hg
      have HG' := Lib.hid hg
      clear hg HG HD1 HD2 ay0
      go_wp2_with fail
      go_loopw [5] (fun v wq => ∃ (o : List Int) (p : Option Addr) (c : Nat), v = .slice p o.length c ∧ OwnI w.heap.size (fun _ => False) wq (.slice p o.length c) o.length o ∧ Ext w wq ∧ o.length ≤ R ∧ Hid (padTo o (a.toNat + 1) = padTo out (a.toNat + 1))) (fun v _ => a.toNat + 1 - sLen v)
      case atStart => exact ⟨out, p, c, rfl, hO, hE, hoR, rfl⟩
      case round =>
        obtain ⟨o, p, c, rfl, hO, hE, hoR, HP⟩ := hrel
        by_cases hge : (o.length : Int) ≤ a
        · have hE1 := hE.trans ((Ext.refl _).alloc (.cells #[.int .i64 (-1)] 3))
          have hO1 := hO.ext ((Ext.refl _).alloc (.cells #[.int .i64 (-1)] 3))
          have hc1 : (wr.alloc (.cells #[.int .i64 (-1)] 3)).cell? ⟨wr.heap.size, 0, none⟩ = some (.int .i64 (-1)) := by simp
          go_wp2_with (at_builtin; refine wpList_append_int rfl _ _ rfl w.heap.size (fun _ => False) (.slice p o.length c) o.length o (-1) rfl hO1 ⟨wr.heap.size, 0, none⟩ 1 rfl hc1 (fun _ h => h.elim) (by omega) (by omega) hE1.lt ?_)
          intro g cap w8 hon8 hgrow _ _ _
          have hEx := hE1.grown hgrow hE1.lt (fun q e => (hO1.2.2.1.lt q e).1)
          go_wp2_with fail
          go_roundw
          case rel => exact ⟨o ++ [-1], some ⟨g, 0, none⟩, cap, by rw [List.length_append]; rfl, by rw [List.length_append]; exact hon8, hEx, by simp; omega, by rw [padTo_snoc (by omega)]; exact HP.out⟩
          case measure => simp [sLen]; omega
        · have hpo : padTo out (a.toNat + 1) = o := by
            rw [← HP.out, padTo_of_le (by omega)]
          have hput : dimsPut out a y = if o.getD a.toNat 0 < 0 ∨ y < o.getD a.toNat 0 then o.set a.toNat y else o := by
            unfold dimsPut; rw [hpo]
          have HPUT := Lib.hid hput
          clear hput hpo HP
          obtain ⟨g, rfl, hg1, hg2, hc, hfz, hset⟩ := hO.at (j := a.toNat) (by omega)
          obtain ⟨b3, f3, hb3, ay5, _, _⟩ := (HF.out.ext hE).get (i := q) (by omega)
          simp only [Option.some.injEq, Addr.mk.injEq, and_true] at hb3
          obtain ⟨rfl, rfl⟩ := hb3
          rw [HY0.out] at ay5
          obtain ⟨oa1, oa2⟩ : -9223372036854775808 ≤ o.getD a.toNat 0 ∧ o.getD a.toNat 0 ≤ 9223372036854775807 := hO.2.2.2.2 _ (by simp [List.getD, show a.toNat < o.length by omega])
          generalize o.getD a.toNat 0 = oa at *
          have hqf : q < frm.length := by omega
          by_cases hn : oa < 0
          · have hf : dimsPut out a y = o.set a.toNat y := by rw [HPUT.out, if_pos (.inl hn)]
            go_wp2_with fail
            go_quiet (fail)
            go_wp2_with fail
            refine ⟨⟨q + 1, o.set a.toNat y, some ⟨g, 0, none⟩, c, by omega, by go_num, by rw [List.length_set], ?_, ?_, by rw [List.length_set]; exact hoR, by rw [← hf]; exact HG'.out⟩, by simp [intOf]; omega⟩
            · rw [List.length_set]
              obtain ⟨g', hg', _, _, _, _, hset2⟩ := (hO.ext ((Ext.refl _).drewN nq)).at (j := a.toNat) (by omega)
              simp only [Option.some.injEq, Addr.mk.injEq, and_true] at hg'
              subst hg'
              exact hset2 y ⟨ay1, ay2⟩
            · exact (hE.drewN nq).setCell (p := ⟨g, a.toNat, none⟩) hg1 _
          · by_cases hy : y < oa
            · have hf : dimsPut out a y = o.set a.toNat y := by rw [HPUT.out, if_pos (.inr hy)]
              go_wp2_with fail
              go_quiet (fail)
              go_wp2_with fail
              refine ⟨⟨q + 1, o.set a.toNat y, some ⟨g, 0, none⟩, c, by omega, by go_num, by rw [List.length_set], ?_, ?_, by rw [List.length_set]; exact hoR, by rw [← hf]; exact HG'.out⟩, by simp [intOf]; omega⟩
              · rw [List.length_set]
                obtain ⟨g', hg', _, _, _, _, hset2⟩ := (hO.ext ((Ext.refl _).drewN nq)).at (j := a.toNat) (by omega)
                simp only [Option.some.injEq, Addr.mk.injEq, and_true] at hg'
                subst hg'
                exact hset2 y ⟨ay1, ay2⟩
              · exact (hE.drewN nq).setCell (p := ⟨g, a.toNat, none⟩) hg1 _
            · have hf : dimsPut out a y = o := by rw [HPUT.out, if_neg (by omega)]
              go_wp2_with fail
              go_quiet (fail)
              go_wp2_with fail
              refine ⟨⟨q + 1, o, some ⟨g, 0, none⟩, c, by omega, by go_num, rfl, hO.ext ((Ext.refl _).drewN nq), hE.drewN nq, hoR, by rw [← hf]; exact HG'.out⟩, by simp [intOf]; omega⟩
    · have hg := HG.out
      rw [List.drop_of_length_le (by omega), dimsGo_nil] at hg
      have HRES := Lib.hid hg
      clear hg
      clear HG
      obtain ⟨p', c', hp', hk', hi'⟩ := hO.ints
      obtain ⟨rfl, rfl⟩ : p = p' ∧ c = c' := by simpa using hp'
      go_wp2_with fail
      refine bodyPost_ret (v := .slice p out.length c) ?_ rfl ⟨p, c, ?_, ?_, ?_, hE⟩
      · simp [results, Try.results62, go_sem]
      · rw [← HRES.out]
      · rw [← HRES.out]; exact hk'
      · rw [← HRES.out]; exact hi'.mono fun b hb _ => ⟨hb.1, rfl⟩
end Go.Proofs.Ytcmnlnamgnbemaa
