/-
  THE WALKS of Vec, Mat, Ints (arraylanglaw04).
-/
import Derived.Test.YtgkemmdghmklfaaMk
namespace Go.Proofs.Ytgkemmdghmklfaa
set_option linter.unusedSimpArgs false
set_option linter.unusedVariables false
open Go.RowKit

theorem rowI_new (w : World) (t : List Int) : RowI (w.alloc (.cells (t.map (Value.int .i64)).toArray 3)) w.heap.size t := by
  unfold RowI
  rw [heap_alloc_new]

set_option maxHeartbeats 1000000 in
theorem vec_any (F : Nat → Prop) (p : Option Addr) (c : Nat) (l : List Int) (w : World) (h : IntsAt F w p l) (hk : SlOk l.length c) :
    Calls Try.prog 37 #[.slice p l.length c] w fun e w' =>
      ∃ e0 e1 e2 e3, e = .returned (.agg #[e0, e1, e2, e3]) ∧ ArrAt (fun b => w.heap.size ≤ b ∨ F b) w' (.mk 1 [(l.length : Int)] l []) e0 e1 e2 e3 ∧ Ext w w' := by
  have HL := Lib.hid h
  have hk' := hk
  obtain ⟨o1, o2, o3⟩ := hk'
  have HK := Lib.hid hk
  clear h hk
  go_enter Try.func37, Try.ntmps37
  go_wp2_with fail
  have hE : Ext w ((w.alloc (.cells #[.int .i64 1, .slice (some ⟨w.heap.size + 1, 0, none⟩) 1 1, .slice p l.length c, .slice none 0 0] 26)).alloc (.cells #[.int .i64 l.length] 3)) := ((Ext.refl _).alloc _).alloc _
  have hB := (box_new w (.int .i64 1) (.slice (some ⟨w.heap.size + 1, 0, none⟩) 1 1) (.slice p l.length c) (.slice none 0 0)).ext ((Ext.refl _).alloc (.cells #[.int .i64 l.length] 3))
  have hI := rowI_new (w.alloc (.cells #[.int .i64 1, .slice (some ⟨w.heap.size + 1, 0, none⟩) 1 1, .slice p l.length c, .slice none 0 0] 26)) [(l.length : Int)]
  rw [World.size_alloc] at hI
  change RowI ((w.alloc (.cells #[.int .i64 1, .slice (some ⟨w.heap.size + 1, 0, none⟩) 1 1, .slice p l.length c, .slice none 0 0] 26)).alloc (.cells #[.int .i64 l.length] 3)) _ _ at hI
  generalize (w.alloc (.cells #[.int .i64 1, .slice (some ⟨w.heap.size + 1, 0, none⟩) 1 1, .slice p l.length c, .slice none 0 0] 26)).alloc (.cells #[.int .i64 l.length] 3) = w1 at *
  obtain ⟨t0, t1, t2, t3⟩ := hB.cell
  have hA : ArrAt (fun b => w.heap.size ≤ b ∨ F b) w1 (.mk 1 [(l.length : Int)] l []) (.int .i64 1) (.slice (some ⟨w.heap.size + 1, 0, none⟩) 1 1) (.slice p l.length c) (.slice none 0 0) := by
    unfold ArrAt
    refine ⟨rfl, by omega, ⟨_, _, rfl, ⟨by simp, by simp, by simp⟩, (hI.ints ?_).mono fun b hb _ => ⟨.inl (by omega), rfl⟩⟩, ⟨_, _, rfl, HK.out, (HL.out.ext hE).mono fun b hb _ => ⟨.inr hb, rfl⟩⟩, ⟨none, 0, rfl, ⟨by simp, by simp, by simp⟩, by unfold ItemsAt; trivial⟩⟩
    intro x hx
    rw [List.mem_singleton] at hx
    subst hx
    omega
  refine bodyPost_ret (v := .agg #[.int .i64 1, .slice (some ⟨w.heap.size + 1, 0, none⟩) 1 1, .slice p l.length c, .slice none 0 0]) ?_ rfl ⟨_, _, _, _, rfl, hA, hE⟩
  simp [results, Try.results37, go_sem, t0, t1, t2, t3]

set_option maxHeartbeats 1000000 in
/-- Ints: two lists of one length that agree. -/
theorem ints_any (F G : Nat → Prop) (p1 p2 : Option Addr) (c1 c2 : Nat) (a b : List Int) (w : World) (ha : IntsAt F w p1 a) (hb : IntsAt G w p2 b) (hla : a.length ≤ lenMax) (hlb : b.length ≤ lenMax) :
    Calls Try.prog 38 #[.slice p1 a.length c1, .slice p2 b.length c2] w fun e w' => e = .returned (.bool (a == b)) ∧ Ext w w' := by
  unfold lenMax at hla hlb
  have HA := Lib.hid ha
  have HB := Lib.hid hb
  clear ha hb
  go_enter Try.func38, Try.ntmps38
  go_wp2_with fail
  go_loopw [5] (fun i wr => ∃ (k : Nat), k ≤ a.length ∧ k ≤ b.length ∧ i = .int .i64 k ∧ Ext w wr ∧ Hid (a.take k = b.take k)) (fun i _ => a.length - (intOf i).toNat)
  case atStart => exact ⟨0, Nat.zero_le _, Nat.zero_le _, rfl, Ext.refl _, rfl⟩
  case round =>
    obtain ⟨k, hka, hkb, rfl, hE, HT⟩ := hrel
    by_cases h1 : k < a.length
    · by_cases h2 : k < b.length
      · obtain ⟨b1, f1, rfl, ax, _, _⟩ := (HA.out.ext hE).get h1
        obtain ⟨b2, f2, rfl, ay, _, _⟩ := (HB.out.ext hE).get h2
        have HXA := Lib.hid (show a.getD k 0 = a[k] by simp [List.getD, h1])
        have HXB := Lib.hid (show b.getD k 0 = b[k] by simp [List.getD, h2])
        generalize hxa : a.getD k 0 = xa at *
        generalize hxb : b.getD k 0 = xb at *
        have HXA2 := Lib.hid hxa
        have HXB2 := Lib.hid hxb
        clear hxa hxb
        by_cases he : xa = xb
        · have HN : Hid (a.take (k + 1) = b.take (k + 1)) := by
            show _ = _
            rw [List.take_succ_eq_append_getElem h1, List.take_succ_eq_append_getElem h2, HT.out, ← HXA.out, ← HXB.out, he]
          clear HXA HXB HXA2 HXB2 HT
          subst he
          go_wp2_with fail
          go_quiet (fail)
          go_wp2_with fail
          exact ⟨⟨k + 1, by omega, by omega, by go_num, hE.drewN _, HN.out⟩, by simp [intOf]; omega⟩
        · have HN : Hid ((a == b) = false) := by
            show _ = _
            rw [beq_eq_false_iff_ne]
            intro hab
            subst hab
            exact he (HXA2.out.symm.trans HXB2.out)
          clear HXA HXB HXA2 HXB2 HT
          go_wp2_with fail
          go_quiet (fail)
          go_wp2_with fail
          go_ret
          exact ⟨ret_bool HN.out.symm, hE.drewN _⟩
      · have HN : Hid ((a == b) = ((a.length : Int) == (b.length : Int))) := by
          show _ = _
          rw [Bool.eq_iff_iff, beq_iff_eq, beq_iff_eq]
          refine ⟨fun hab => by rw [hab], fun hl => ?_⟩
          have hl2 : a.length = b.length := by omega
          have ht := HT.out
          rw [List.take_of_length_le (by omega), List.take_of_length_le (by omega)] at ht
          exact ht
        clear HT
        go_wp2_with fail
        go_ret
        exact ⟨ret_bool HN.out.symm, hE⟩
    · have HN : Hid ((a == b) = ((a.length : Int) == (b.length : Int))) := by
        show _ = _
        rw [Bool.eq_iff_iff, beq_iff_eq, beq_iff_eq]
        refine ⟨fun hab => by rw [hab], fun hl => ?_⟩
        have hl2 : a.length = b.length := by omega
        have ht := HT.out
        rw [List.take_of_length_le (by omega), List.take_of_length_le (by omega)] at ht
        exact ht
      clear HT
      go_wp2_with fail
      go_ret
      exact ⟨ret_bool HN.out.symm, hE⟩
end Go.Proofs.Ytgkemmdghmklfaa
