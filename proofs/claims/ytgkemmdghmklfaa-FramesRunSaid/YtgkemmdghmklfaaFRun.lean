/-
  THE WALK of law39.FramesRun: it returns true, and turns nothing that was there.
-/
import Derived.Test.YtgkemmdghmklfaaRefM
import Derived.Test.YtgkemmdghmklfaaAgr39
import Derived.Test.YtgkemmdghmklfaaRefN
import Derived.Test.YtgkemmdghmklfaaFEx
import Derived.Deep.CutBlock
namespace Go.Proofs.Ytgkemmdghmklfaa
set_option linter.unusedSimpArgs false
set_option linter.unusedVariables false
open Go.RowKit

theorem frs_nil (w : World) : FrsR (fun _ => False) w (.slice none 0 0) [] := ⟨none, 0, rfl, ⟨by simp, by simp⟩, fun i hi => by simp at hi⟩

set_option maxRecDepth 100000 in
set_option maxHeartbeats 16000000 in
theorem frun_any (F : Nat → Prop) (pl : Option Addr) (cl : Nat) (L : List ActD) (w : World) (hL : L.length ≤ 9223372036854775807) (hA : ActsAt F w pl L) :
    Calls Try.prog 6 #[.slice pl L.length cl] w fun e w' => e = .returned (.bool true) ∧ Ext w w' := by
  replace hA : ActsAt (fun x => x < w.heap.size) w pl L := hA.mono fun x _ hlt => ⟨hlt, rfl⟩
  have hhv := heavy_any _ pl cl L w hL hA
  obtain ⟨n, hn⟩ : ∃ n, L.length = n := ⟨_, rfl⟩
  rw [hn] at hL hhv ⊢
  have HN := Lib.hid hn
  have HA := Lib.hid hA
  have HHV := Lib.hid hhv
  clear hn hA hhv
  go_enter Try.func6, Try.ntmps6
  go_wp2_with fail
  refine HHV.out.mono ?_
  rintro e w1 ⟨⟨hv, rfl, hvf⟩, hE1⟩
  clear HHV
  cases hv
  case true =>
    go_wp2_with fail
    refine (fexample_any _).mono ?_
    rintro e wl ⟨rfl, hEl⟩
    go_wp2_with fail
    go_ret
    exact ⟨rfl, hE1.trans hEl⟩
  have h30 := hvf rfl
  clear hvf hL
  go_wp2_with fail
  refine (new_any 3 none w1 (by decide)).mono ?_
  rintro e w2 ⟨b0, rfl, hf0, hE2⟩
  have HE2 := Lib.hid (hE1.trans hE2)
  have HF0 : Hid (FrAt (fun x => w.heap.size ≤ x) w2 b0 (List.replicate (slotsN 3) .no) none) := Lib.hid (hf0.mono fun x hx _ => ⟨Nat.le_trans hE1.lt hx, rfl⟩)
  obtain ⟨sl0, hsl0⟩ : ∃ s, List.replicate (slotsN 3) Slot.no = s := ⟨_, rfl⟩
  rw [hsl0] at HF0
  clear hE1 hE2 hf0
  go_wp2_with fail
  have hrn := rnew_any (fun _ => False) 3 (.slice none 0 0) [] w2 (frs_nil _) (by simp) (by decide)
  refine hrn.mono ?_
  rintro e w3 ⟨wv0, rfl, hR0, hE3⟩
  rw [hsl0] at hR0
  clear hrn hsl0
  have HE3 := Lib.hid (HE2.out.trans hE3)
  have HST0 := Lib.hid (fstk_init HE3.out hE3 HF0.out)
  have HRF0 : Hid (Rf w3.heap.size [(b0, sl0)] (w3.alloc (.cells #[.pointer (some ⟨b0, 0, none⟩)] 32)) wv0 ([(b0, sl0)].map Prod.snd)) := Lib.hid ((hR0.mono (G := fun x => x ∉ w3.heap.size :: [(b0, sl0)].map Prod.fst) (w' := w3) fun x hx hlt => ⟨fun hm => by
    have hb := HF0.out.lt
    simp only [List.map_cons, List.map_nil, List.mem_cons, List.not_mem_nil, or_false] at hm
    rcases hx with hx | hx
    · exact hx
    · rcases hm with hm | hm <;> omega, rfl⟩).ext ((Ext.refl w3).alloc _))
  clear HE2 HE3 HF0 hR0 hE3
  go_wp2_with fail
  generalize w3.alloc (.cells #[.pointer (some ⟨b0, 0, none⟩)] 32) = w4 at *
  generalize w3.heap.size = g0 at *
  go_loopw [3, 4, 5, 6] (fun f want list i wr => ∃ (g : Nat) (l : List (Nat × List Slot)) (p : Option Addr) (lv wv : Value) (j : Nat), f = .pointer p ∧ wv = want ∧ lv = list ∧ i = .int .i64 j ∧ j ≤ n ∧ Hid (l.length ≤ j + 1) ∧ Hid (FStk w wr g l p lv) ∧ Hid (Rf g l wr wv (l.map Prod.snd))) (fun _ _ _ i _ => n - (intOf i).toNat)
  case atStart => exact ⟨g0, [(b0, sl0)], _, _, _, 0, rfl, rfl, rfl, rfl, Nat.zero_le _, Lib.hid (by simp), HST0, HRF0⟩
  case round =>
  clear HST0 HRF0
  obtain ⟨g, l, p, lv, wv, j, rfl, rfl, rfl, rfl, hj, HLL, HST, HRF⟩ := hrel
  by_cases hlt : j < n
  · have hjl : j < L.length := by rw [HN.out]; exact hlt
    obtain ⟨ga, oa, x0, x1, x2, x3, rfl, _, k0, k1, k2, k3, k4, k5, r0, r1, ha⟩ := HA.out j hjl
    obtain ⟨kk, p1, l1, n1, p2, l2, n2, p3, l3, n3, rfl, rfl, rfl, rfl⟩ := ha.form
    generalize L[j] = x at k0 k1 r0 r1 ha
    obtain ⟨kd, nn, t⟩ := x
    simp only at k0 k1 r0 r1 ha
    unfold IntR at r0 r1
    have HAT := Lib.hid ha
    replace k0 := HST.out.ext.cell k0
    replace k1 := HST.out.ext.cell k1
    replace k2 := HST.out.ext.cell k2
    replace k3 := HST.out.ext.cell k3
    replace k4 := HST.out.ext.cell k4
    replace k5 := HST.out.ext.cell k5
    clear ha hjl
    go_upto_region 10 with (fail)
    have e1 : Ext wr (wr.alloc (.cells #[.int .i64 kd, .int .i64 nn, .int .i64 kk, .slice p1 l1 n1, .slice p2 l2 n2, .slice p3 l3 n3] 55)) := (Ext.refl _).alloc _
    have rb := RowC.new 55 wr [.int .i64 kd, .int .i64 nn, .int .i64 kk, .slice p1 l1 n1, .slice p2 l2 n2, .slice p3 l3 n3]
    change RowC _ (wr.alloc (.cells #[.int .i64 kd, .int .i64 nn, .int .i64 kk, .slice p1 l1 n1, .slice p2 l2 n2, .slice p3 l3 n3] 55)) _ _ at rb
    have HBN : Hid (∀ x ∈ g :: l.map Prod.fst, x ≠ wr.heap.size) := Lib.hid fun x hx => by
      have := HST.out.bnd hx
      omega
    generalize wr.alloc (.cells #[.int .i64 kd, .int .i64 nn, .int .i64 kk, .slice p1 l1 n1, .slice p2 l2 n2, .slice p3 l3 n3] 55) = w1 at *
    generalize wr.heap.size = bx at *
    replace HST := Lib.hid (HST.out.next e1)
    replace HRF := Lib.hid (HRF.out.ext e1)
    have HBX := Lib.hid rb
    clear e1 rb k0 k1 k2 k3 k4 k5
    obtain ⟨c, rfl, hmc, hcm⟩ := HST.out.form
    obtain ⟨m, hm⟩ : ∃ m, l.length = m := ⟨_, rfl⟩
    rw [hm] at hmc
    have HMC := Lib.hid (And.intro hmc hcm)
    have hm1 : 1 ≤ m := by rw [← hm]; exact HST.out.pos
    have hm31 : m ≤ 31 := by have := HLL.out; omega
    rw [hm]
    have HM := Lib.hid hm
    clear hm hmc hcm
    obtain ⟨s0, s1, s2, s3, s4, s5⟩ := HBX.out.cellsix
    go_upto_block 2 with (fail)
    go_cut [3, 4, 5, 8, 9] (fun f want list ok may wx => ∃ (g' : Nat) (l' : List (Nat × List Slot)) (p' : Option Addr) (lv' wv' : Value) (b : Bool), f = .pointer p' ∧ wv' = want ∧ lv' = list ∧ ok = .bool b ∧ may = .bool b ∧ Hid (l'.length ≤ j + 2) ∧ Hid (FStk w wx g' l' p' lv') ∧ Hid (Rf g' l' wx wv' (l'.map Prod.snd)))
    case first =>
      by_cases h0 : kd = 0
      · subst h0
        obtain ⟨i0, hi, hz0, hz1, hz2⟩ := info_parts infoPF
        have HI := Lib.hid (And.intro hi (And.intro hz0 (And.intro hz1 hz2)))
        clear hi hz0 hz1 hz2
        go_wp2_with fail
        refine (new_any nn p w1 r1).mono ?_
        rintro e w2 ⟨b, rfl, hf, hE2⟩
        have hE3 : Ext w2 (w2.alloc (.cells #[.pointer (some ⟨b, 0, none⟩)] 32)) := (Ext.refl _).alloc _
        have hnb : (w2.alloc (.cells #[.pointer (some ⟨b, 0, none⟩)] 32)).heap[w2.heap.size]? = some (.cells #[.pointer (some ⟨b, 0, none⟩)] 32 (0, 0)) := heap_alloc_new w2 _
        have hst3 := HST.out.next (hE2.trans hE3)
        have hb3 := HBX.out.ext (hE2.trans hE3)
        have HF := Lib.hid (And.intro hf (And.intro hE2 (And.intro hE3 (And.intro hnb (And.intro hst3 hb3)))))
        clear hf hE2 hE3 hnb hst3 hb3 s0 s1 s2 s3 s4 s5
        go_wp2_with (at_builtin; go_loud (refine wpList_append_lies _ rfl _ _ 53 rfl w.heap.size 32 i0 (.pointer none) 1 8 Try.underlying53 HI.out.1 HI.out.2.1 HI.out.2.2.1 HI.out.2.2.2 rfl (by decide) (.slice (some ⟨g, 0, none⟩) m c) m (ptrs l) rfl (by have := HF.out.2.2.2.2.1.row; rwa [HM.out] at this) ⟨w2.heap.size, 0, none⟩ 1 1 [.pointer (some ⟨b, 0, none⟩)] rfl rfl (World.news_of_block (cs := #[.pointer (some ⟨b, 0, none⟩)]) HF.out.2.2.2.1) (fun u hu => by simp at hu; subst hu; rfl) (by decide) (by unfold maxLen; omega) (by omega) HF.out.2.2.2.2.1.ext.lt _ rfl ?_
                                          intro g' cap' w4 hr4 hg4 hat4 hlt4
                                          have hb4 : RowC 55 w4 bx [.int .i64 0, .int .i64 nn, .int .i64 kk, .slice p1 l1 n1, .slice p2 l2 n2, .slice p3 l3 n3] := HF.out.2.2.2.2.2.kept (hg4.block bx HF.out.2.2.2.2.2.lt (fun e => by
                                            simp only [Value.ownBlock, Option.some.injEq] at e
                                            exact HBN.out g (by simp) e.symm))
                                          rw [← HM.out] at hr4
                                          obtain ⟨hst4, hrf4⟩ := HST.out.push HF.out.2.1 HF.out.1 HF.out.2.2.1 hr4 hg4 hat4
                                          rw [HM.out] at hst4
                                          have HST4 := Lib.hid hst4
                                          have HRF4 := Lib.hid (hrf4 _ _ HRF.out)
                                          clear hr4 hg4 hat4 hlt4 hst4 hrf4
                                          obtain ⟨s0, s1, s2, s3, s4, s5⟩ := hb4.cellsix))
        have hrn := rnew_any (fun x => x ∉ g' :: ((b, List.replicate (slotsN nn) Slot.no) :: l).map Prod.fst) nn wv (l.map Prod.snd) w4 HRF4.out (by have := HM.out; simp; omega) r1
        refine hrn.mono ?_
        rintro e w5 ⟨wv', rfl, hR5, hE5⟩
        clear hrn
        go_wp2_with fail
        go_meet
        case rel => exact ⟨g', (b, List.replicate (slotsN nn) Slot.no) :: l, _, _, _, true, rfl, rfl, rfl, rfl, rfl, Lib.hid (by have := HLL.out; simp; omega), Lib.hid (HST4.out.next hE5), Lib.hid (HST4.out.rf hR5 (fun x hx => by rcases hx with hx | hx; exact .inr (.inl hx); exact .inr (.inr hx)))⟩
      by_cases h1 : kd = 1
      · subst h1
        by_cases hm2 : m = 1
        · subst hm2
          go_wp2_with fail
          go_meet
          case rel => exact ⟨g, l, _, _, _, true, rfl, rfl, rfl, rfl, rfl, Lib.hid (by have := HLL.out; omega), by rw [← HM.out]; exact HST, HRF⟩
        · obtain ⟨rl, rfl⟩ : ∃ rl, m = rl + 1 + 1 := ⟨m - 2, by omega⟩
          match l, HM, HST, HRF, HLL, HBN with
          | [], HM, _, _, _, _ => exact absurd HM.out (by simp)
          | [_], HM, _, _, _, _ => exact absurd HM.out (by simp)
          | x :: y :: r, HM, HST, HRF, HLL, HBN =>
            have hrl : r.length = rl := by have := HM.out; simp at this; omega
            obtain ⟨pw, cw, rfl⟩ := HRF.out.form
            obtain ⟨hst, hcell, hrf⟩ := HST.out.pop
            have hrf2 := hrf _ _ HRF.out
            have htl : FrsR (fun z => z ∉ g :: (y :: r).map Prod.fst) w1 (.slice (cutAt pw 1 cw 1) ((y :: r).map Prod.snd).length (cw - 1)) ((y :: r).map Prod.snd) := FrsR.tail hrf2
            rw [hrl] at hst hcell
            have hl1 : ((x :: y :: r).map Prod.snd).length = rl + 1 + 1 := by simp [hrl]
            have hl2 : ((y :: r).map Prod.snd).length = rl + 1 := by simp [hrl]
            rw [hl1]
            rw [hl2] at htl
            have hs1 := fun w => slice_hP g (rl + 1 + 1) c w (rl + 1) (by have := HMC.out.1; omega)
            have hs2 := fun w => slice_lF pw (rl + 1 + 1) cw w (by omega)
            rw [show rl + 1 + 1 - 1 = rl + 1 by omega] at hs2
            generalize cutAt pw 1 cw 1 = pd at *
            have HSTN := Lib.hid hst
            have HTL := Lib.hid htl
            have hmcc : rl + 1 + 1 ≤ c := HMC.out.1
            clear hst hrf hrf2 htl hl1 hl2 hrl HMC
            go_wp2_with fail
            go_meet
            case rel => exact ⟨g, y :: r, _, _, _, true, rfl, rfl, rfl, rfl, rfl, Lib.hid (by have := HLL.out; simp at this ⊢; omega), HSTN, HTL⟩
      by_cases h2 : kd = 2
      · subst h2
        match l, HM, HST, HRF, HLL, HBN with
        | [], HM, _, _, _, _ => exact absurd HM.out (by simp; omega)
        | (b, sl) :: r, HM, HST, HRF, HLL, HBN =>
          obtain ⟨q, hp, hf, hr⟩ := HST.out.fr
          subst hp
          obtain ⟨okb, hok⟩ : ∃ o, setOk sl nn t = o := ⟨_, rfl⟩
          obtain ⟨slv, hslv⟩ : ∃ s, setV sl nn t = s := ⟨_, rfl⟩
          have hset := set_any (fun y => y ∈ g :: ((b, sl) :: r).map Prod.fst → y = b) (fun x => x < w.heap.size) w w1 b sl q nn t _ _ _ _ HST.out.ext (HST.out.old b (by simp)) hf (HAT.out.ext HST.out.ext) r1
          unfold SetGives at hset
          rw [hok, hslv] at hset
          have HSET := Lib.hid hset
          have HR := Lib.hid hr
          have HOK := Lib.hid (And.intro hok hslv)
          clear hset hr hf hok hslv
          go_wp2_with fail
          refine HSET.out.mono ?_
          rintro e w2 ⟨rfl, hf2, hE2, hk⟩
          obtain ⟨hst2, hrf2⟩ := HST.out.set rfl HR.out hf2 hE2 (ext_le hk hf2.lt) hk
          have hb2 := HBX.out.kept (hk bx HBX.out.lt (fun e => HBN.out b (by simp) e.symm))
          have hrs := rset_any (fun x => x ∉ g :: ((b, slv) :: r).map Prod.fst) (fun x => x < w.heap.size) w2 wv sl (r.map Prod.snd) nn false t _ _ _ _ (hrf2 _ _ HRF.out) (by have := HM.out; simp at this ⊢; omega) (HAT.out.ext hE2) r1
          rw [rsOk_arr, rsV_arr, HOK.out.1, HOK.out.2] at hrs
          have HRS := Lib.hid hrs
          have HST2 := Lib.hid hst2
          clear HSET HR hf2 hE2 hk hst2 hrf2 hrs s0 s1 s2 s3 s4 s5
          obtain ⟨s0, s1, s2, s3, s4, s5⟩ := hb2.cellsix
          go_wp2_with fail
          refine HRS.out.mono ?_
          rintro e w3 ⟨wv', rfl, hR3, hE3⟩
          clear HRS
          go_wp2_with fail
          go_meet
          case rel => exact ⟨g, (b, slv) :: r, _, _, _, okb, rfl, rfl, rfl, rfl, rfl, Lib.hid (by have := HLL.out; simp at this ⊢; omega), Lib.hid (by have h := HST2.out.next hE3; rw [HM.out] at h; exact h), Lib.hid (HST2.out.rf hR3 (fun x hx => by rcases hx with hx | hx | hx; exact .inr (.inl hx); exact .inl hx; exact .inr (.inr hx)))⟩
      match l, HM, HST, HRF, HLL, HBN with
      | [], HM, _, _, _, _ => exact absurd HM.out (by simp; omega)
      | (b, sl) :: r, HM, HST, HRF, HLL, HBN =>
        obtain ⟨q, hp, hf, hr⟩ := HST.out.fr
        subst hp
        obtain ⟨okb, hok⟩ : ∃ o, setOkF sl nn = o := ⟨_, rfl⟩
        obtain ⟨slv, hslv⟩ : ∃ s, setVF sl nn = s := ⟨_, rfl⟩
        have hset := fun (wx : World) (e : Ext w1 wx) => set_anyF (fun y => y ∈ g :: ((b, sl) :: r).map Prod.fst → y = b) w wx b sl q nn kk p1 p2 p3 l1 n1 l2 n2 l3 n3 88 (.agg #[.int .i64 1, .int .i64 (j : Int)]) (HST.out.ext.trans e) (HST.out.old b (by simp)) (hf.ext e) r1
        unfold SetGivesF at hset
        rw [hok, hslv] at hset
        have HSET := Lib.hid hset
        have HR := Lib.hid hr
        have HOK := Lib.hid (And.intro hok hslv)
        clear hset hr hf hok hslv
        go_wp2_with fail
        have hS0 : Ext w1 w1.drew := (Ext.refl w1).drew
        clear s0 s1 s2 s3 s4 s5
        refine wp_region_g [0, 1, 2, 3, 4, 5] [6, 7, 8, 9] (fun w' => RowC 55 w' bx [.int .i64 kd, .int .i64 nn, .int .i64 kk, .slice p1 l1 n1, .slice p2 l2 n2, .slice p3 l3 n3]) (by kernel_rfl) (by kernel_rfl) (HBX.out.ext hS0) ?_
        iterate 6
          refine wpHead_cons (v := ?_) rfl (by rfl) (fun w' hS => ?_) ?_
          rotate_left
          · obtain ⟨sb0, sb1, sb2, sb3, sb4, sb5⟩ := hS.cellsix
            go_simp
            try with_reducible rfl
          try simp only [Act.put, List.setIfInBounds_toArray, List.set]
        unfold wpHead
        refine wpTail_cons rfl (fun K hK => ?_)
        go_wp2_with fail
        refine (primfun_any 1 (j : Int) _).mono ?_
        rintro e w2 ⟨rfl, rfl⟩
        go_wp2_with fail
        refine hK _ _ (HBX.out.ext hS0) ?_
        try simp only [Act.put, List.setIfInBounds_toArray, List.set]
        refine wpTail_cons rfl (fun K hK => ?_)
        go_wp2_with fail
        refine hK _ _ (HBX.out.ext hS0) ?_
        try simp only [Act.put, List.setIfInBounds_toArray, List.set]
        refine wpTail_cons rfl (fun K hK => ?_)
        go_wp2_with fail
        refine (HSET.out w1.drew hS0).mono ?_
        rintro e w2 ⟨rfl, hf2, hE2, hk⟩
        obtain ⟨hst2, hrf2⟩ := (HST.out.next hS0).set rfl (HR.out.ext hS0) hf2 hE2 (ext_le hk hf2.lt) hk
        have hb2 := (HBX.out.ext hS0).kept (hk bx (HBX.out.ext hS0).lt (fun e => HBN.out b (by simp) e.symm))
        have hrs := rset_any (fun x => x ∉ g :: ((b, slv) :: r).map Prod.fst) (fun x => x < w.heap.size) w2 wv sl (r.map Prod.snd) nn true t _ _ _ _ (hrf2 _ _ (HRF.out.ext hS0)) (by have := HM.out; simp at this ⊢; omega) (HAT.out.ext hE2) r1
        rw [rsOk_fn, rsV_fn, HOK.out.1, HOK.out.2] at hrs
        have HRS := Lib.hid hrs
        have HST2 := Lib.hid hst2
        have HB2 := Lib.hid hb2
        clear HSET HR hf2 hE2 hk hst2 hrf2 hrs hb2 hS0
        go_wp2_with fail
        refine hK _ _ HB2.out ?_
        try simp only [Act.put, List.setIfInBounds_toArray, List.set]
        refine wpTail_free [9] [_] _ _ rfl (by kernel_rfl) ?_
        obtain ⟨s0, s1, s2, s3, s4, s5⟩ := HB2.out.cellsix
        go_wp2_with fail
        refine OnlyN.mk ?_
        go_wp2_with fail
        refine HRS.out.mono ?_
        rintro e w3 ⟨wv', rfl, hR3, hE3⟩
        clear HRS
        go_wp2_with fail
        go_meet
        case rel => exact ⟨g, (b, slv) :: r, _, _, _, okb, rfl, rfl, rfl, rfl, rfl, Lib.hid (by have := HLL.out; simp at this ⊢; omega), Lib.hid (by have h := HST2.out.next hE3; rw [HM.out] at h; exact h), Lib.hid (HST2.out.rf hR3 (fun x hx => by rcases hx with hx | hx | hx; exact .inr (.inl hx); exact .inl hx; exact .inr (.inr hx)))⟩
    case rest =>
    clear s0 s1 s2 s3 s4 s5 HST HRF HBX HBN HMC HM HAT r0 r1 hm1 hm31 HLL
    obtain ⟨g', l', p', lv', wv', b, rfl, rfl, rfl, rfl, rfl, HLL, HST, HRF⟩ := hcut
    obtain ⟨w2, rfl⟩ : ∃ wx : World, wx = wc := ⟨_, rfl⟩
    have hag := agree_any (fun x => x ∉ g' :: l'.map Prod.fst) p' l' HST.out.pos (by have := HLL.out; omega) wv' w2 HST.out.fr.isFr HRF.out
    have HAG := Lib.hid hag
    clear hag
    go_wp2_with fail
    refine HAG.out.mono ?_
    rintro e w3 ⟨rfl, hE3⟩
    clear HAG
    go_wp2_with fail
    go_roundw
    case rel => exact ⟨g', l', p', lv', wv', j + 1, rfl, rfl, rfl, by go_num, by omega, HLL, Lib.hid (HST.out.next hE3), Lib.hid (HRF.out.ext hE3)⟩
    case measure => simp [intOf]; omega
  have HE := Lib.hid HST.out.ext
  clear HST HRF HLL
  go_wp2_with fail
  refine (fexample_any _).mono ?_
  rintro e wl ⟨rfl, hEl⟩
  go_wp2_with fail
  go_ret
  exact ⟨rfl, HE.out.trans hEl⟩
end Go.Proofs.Ytgkemmdghmklfaa
