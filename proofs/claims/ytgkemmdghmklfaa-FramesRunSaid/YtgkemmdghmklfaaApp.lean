/-
  append of a list of numbers to a row of the call's own; slices.Clone, slices.Repeat at numbers.
-/
import Derived.Test.YtgkemmdghmklfaaMkB
import Derived.Test.YtgkemmdghmklfaaR02a
namespace Go.Proofs.Ytgkemmdghmklfaa
set_option linter.unusedSimpArgs false
set_option linter.unusedVariables false
open Go.RowKit

theorem run_append_none {P : Program} (w : World) (t ty e : TypeId) (i : TypeInfo) (ht : P.underlying t = some (.slice e)) (hi : P.info? e = some i) (ps : Option Addr) (n cs : Nat) (hc : n ≤ cs) (p : Option Addr) (c : Nat) :
    (Builtin.append_ #[t, t] ty #[.slice ps n cs, .slice p 0 c]).run P w = .ok (.slice ps n cs) w := by
  cases p <;> cases ps <;> simp [Builtin.append_, run_underlying ht, sizeOf, typeInfo, hi, Builtin.lenOf, Builtin.firstCells, loadCells, loadCellsFrom, hc, storeCells]

theorem OwnI.form {B : Nat} {X : Nat → Prop} {w : World} {v : Value} {n : Nat} {xs : List Int} (h : OwnI B X w v n xs) : ∃ p c, v = .slice p n c ∧ n ≤ c := by
  obtain ⟨p, c, e, k, _⟩ := h.ints
  rw [h.1] at e k
  exact ⟨p, c, e, k.1⟩

/-- The cells of a list that is read. -/
theorem IntsAt.news {F : Nat → Prop} {w : World} {b off : Nat} {xs : List Int} (hr : IntsAt F w (some ⟨b, off, none⟩) xs) : ∀ j u, (xs.map (Value.int .i64))[j]? = some u → w.cell? ((⟨b, off, none⟩ : Addr).add j) = some u := by
  intro j u hj
  have hlt : j < xs.length := by
    rcases Nat.lt_or_ge j xs.length with h' | h'
    · exact h'
    · rw [List.getElem?_eq_none (by simpa using h')] at hj; cases hj
  obtain ⟨b', off', e, _, hc, _⟩ := hr j hlt
  cases e
  rw [Addr.add_lit, hc]
  rw [List.getElem?_map] at hj
  simp only [List.getD]
  cases hq : xs[j]? with
  | none => rw [hq] at hj; cases hj
  | some z => rw [hq] at hj; simpa using hj
theorem ints_one (xs : List Int) : ∀ u ∈ xs.map (Value.int .i64), u.oneCell' = true := by
  intro u hu
  obtain ⟨z, _, rfl⟩ := List.mem_map.1 hu
  rfl

/-- append(own, xs...) -/
theorem wpList_append_ints {ops : Array Oper} {rest : List Oper} {o : Oper} {a : Act} {w : World} {Q : Exit → Act → World → Prop} (hgd : o.guard = none) (s x : Operand)
    (ho : o.op = .call { callee := .builtin .append, args := #[s, x], argTypes := #[23, 23] })
    (F : Nat → Prop) (B : Nat) (X : Nat → Prop) (v : Value) (n : Nat) (ys : List Int) (p : Option Addr) (c : Nat) (xs : List Int) (hs : a.eval s = v) (hown : OwnI B X w v n ys) (hx : a.eval x = .slice p xs.length c) (hr : IntsAt F w p xs)
    (hX : ∀ b, X b → b < w.heap.size) (hn : n + xs.length ≤ 17592186044416) (hB : B ≤ w.heap.size)
    (h : ∀ v' w', OwnI B X w' v' (n + xs.length) (ys ++ xs) → w.grownBy w' v.ownBlock → (v'.ownBlock = v.ownBlock ∨ v'.ownBlock = some w.heap.size) → wpList Try.prog ops Q rest (a.put o.dst v') w') : wpList Try.prog ops Q (o :: rest) a w := by
  obtain ⟨i0, hi, hz0, hz1, hz2⟩ := info_parts infoI
  obtain ⟨ps, cs, hv, hcs⟩ := hown.form
  cases xs with
  | nil =>
    refine wpList_plain hgd fun K hK => ?_
    have hrun := run_append_none (P := Try.prog) w 23 o.type 3 i0 Try.underlying23 hi ps n cs hcs p c
    unfold Oper.wp execOp
    simp only [ho, resolve, invoke, builtin, Sem.run_bind, Sem.run_pure, Result.andThen_ok, List.map_toArray, List.map_cons, List.map_nil, hs, hv, hx, List.length_nil, hrun]
    rw [← hv]
    exact hK _ _ (h _ _ (by simpa using hown) ⟨rfl, rfl, rfl, Nat.le_refl _, fun _ _ _ => rfl⟩ (.inl rfl))
  | cons x0 r =>
    obtain ⟨b, off, rfl, _, _⟩ := hr 0 (by simp)
    have hown' := hown
    obtain ⟨k1, k2, k3, k4, k5⟩ := hown
    refine wpList_append_lies w hgd s x 23 ho B 3 i0 (.int .i64 0) 1 8 Try.underlying23 hi hz0 hz1 hz2 rfl (by decide) v n _ hs k3 ⟨b, off, none⟩ (x0 :: r).length c ((x0 :: r).map (Value.int .i64)) hx (by simp) hr.news (ints_one _) (by simp) (by unfold maxLen; omega) (by omega) hB w.heap.size rfl ?_
    intro g cap w' h1 hgrow hat hlt
    refine h _ _ ⟨by simp [k1], by omega, by rw [List.map_append]; exact h1, fun g' hg' => ?_, fun z hz => ?_⟩ hgrow (hat.imp (fun e => e.symm) (fun e => by rw [← e]; rfl))
    · simp only [Value.ownBlock, Option.some.injEq] at hg'
      subst hg'
      rcases hat with hat | hat
      · exact k4 _ hat
      · exact fun hx => by have := hX _ hx; omega
    · rcases List.mem_append.1 hz with hz | hz
      · exact k5 z hz
      · exact hr.wf z hz

theorem rowI_new' (w : World) (t : List Int) : RowI (w.alloc (.cells (t.map (Value.int .i64)).toArray 3)) w.heap.size t := by
  unfold RowI
  rw [heap_alloc_new]

/-- slices.Clone. -/
theorem clone_ints (F : Nat → Prop) (p : Option Addr) (c : Nat) (xs : List Int) (w : World) (h : IntsAt F w p xs) (hn : xs.length ≤ lenMax) :
    Calls Try.prog 92 #[.slice p xs.length c] w fun e w' => ∃ v, e = .returned v ∧ OwnI w.heap.size (fun _ => False) w' v xs.length xs ∧ Ext w w' := by
  unfold lenMax at hn
  cases p with
  | none =>
    have hx : xs = [] := by
      cases xs with
      | nil => rfl
      | cons x r => obtain ⟨b, off, e, _⟩ := h 0 (by simp); cases e
    subst hx
    have hnil := fun w => Lib.run_eql_slice_nil (P := Try.prog) w 23 3 none 0 c 0 0 Try.underlying23
    go_enter Try.func92, Try.ntmps92
    go_wp2_with fail
    go_ret
    exact ⟨_, rfl, OwnI.nil _ _ _, Ext.refl _⟩
  | some a =>
    have hnil := fun w => Lib.run_eql_slice_nil (P := Try.prog) w 23 3 (some a) xs.length c 0 0 Try.underlying23
    have H := Lib.hid h
    clear h
    go_enter Try.func92, Try.ntmps92
    have hE := (Ext.refl w).alloc (.cells #[] 3)
    have hO := OwnI.of_row (B := w.heap.size) (X := fun _ => False) (n := 0) (xs := []) (rowI_new' w []) rfl (by omega) (Nat.le_refl _) (fun h => h) (by simp)
    change OwnI w.heap.size (fun _ => False) (w.alloc (.cells #[] 3)) _ _ _ at hO
    go_wp2_with (at_builtin; refine wpList_append_ints rfl _ _ rfl F w.heap.size (fun _ => False) (.slice (some ⟨w.heap.size, 0, none⟩) 0 0) 0 [] (some a) c xs rfl hO rfl (H.out.ext hE) (fun _ h => h.elim) (by omega) hE.lt ?_)
    intro v' w' hO' hg _
    have hE' := hE.grown hg hE.lt (fun q e => by simp [Value.ownBlock] at e; omega)
    try simp only [Nat.zero_add, List.nil_append] at hO'
    go_wp2_with fail
    go_ret
    exact ⟨_, rfl, hO', hE'⟩

theorem mul64_one (n : Nat) (w : World) (h1 : n < 4294967296) :
    Calls Try.prog 166 #[.int .u64 1, .int .u64 n] w fun e w' => e = .returned (.tuple #[.int .u64 0, .int .u64 n]) ∧ w = w' := by
  have b1 : bits .and .u64 1 4294967295 = 1 := by decide
  have b2 : bits .and .u64 (n : Int) 4294967295 = n := by
    have := bits_and_u64_nat n 4294967295 (by omega) (by omega)
    have h2 : n &&& 4294967295 = n := by
      have := Nat.and_two_pow_sub_one_eq_mod n 32
      simp at this
      rw [this]; omega
    rw [h2] at this
    exact this
  have b3 : (n : Int) / 4294967296 = 0 := by omega
  have b4 : bits .and .u64 0 4294967295 = 0 := by decide
  go_enter Try.func166, Try.ntmps166
  go_wp2
  go_ret2
  refine ⟨?_, rfl⟩
  simp [b1, b2, b3, b4, IntWalk.u64_in (n : Int) (by omega), IntWalk.u64_in 0 (by omega)]
theorem mul_one_any (n : Nat) (w : World) (h1 : n < 4294967296) :
    Calls Try.prog 151 #[.int .u64 1, .int .u64 n] w fun e w' => e = .returned (.tuple #[.int .u64 0, .int .u64 n]) ∧ w = w' := by
  go_enter Try.func151, Try.ntmps151
  go_wp2_with fail
  refine (mul64_one n w h1).mono ?_
  rintro e w' ⟨rfl, rfl⟩
  go_wp2_with fail
  go_ret2
  exact ⟨rfl, rfl⟩

/-- copy into a row that is known whole. -/
theorem wpList_copy_row {ops : Array Oper} {rest : List Oper} {o : Oper} {a : Act} {w : World} {Q : Exit → Act → World → Prop} (hgd : o.guard = none) (d s : Operand)
    (ho : o.op = .call { callee := .builtin .copy, args := #[d, s], argTypes := #[23, 23] })
    (g off dLen dCap : Nat) (ad : Addr) (sLen sCap : Nat) (t ys : List Int) (hd : a.eval d = .slice (some ⟨g, off, none⟩) dLen dCap) (hs : a.eval s = .slice (some ad) sLen sCap)
    (hg : RowI w g t) (hn : ys.length = min sLen dLen) (hsrc : ∀ j, j < ys.length → w.cell? (ad.add j) = some (.int .i64 (ys.getD j 0))) (hfit : off + ys.length ≤ t.length)
    (h : ∀ w', RowI w' g (t.take off ++ (ys ++ t.drop (off + ys.length))) → w.grownBy w' (some g) → wpList Try.prog ops Q rest (a.put o.dst (goInt ys.length)) w') : wpList Try.prog ops Q (o :: rest) a w := by
  have hsz : (Try.prog.info? 3).map (·.size) = some 1 := by
    obtain ⟨i0, hi, _, hz1, _⟩ := info_parts infoI
    rw [hi]; simp [hz1]
  have hg' : w.heap[g]? = some (.cells (t.map (Value.int .i64)).toArray 3 (0, 0)) := hg
  refine wpList_copy_own hgd d s 23 23 ho 3 Try.underlying23 hsz g off dLen dCap ad sLen sCap hd hs _ _ hg' (ys.map (Value.int .i64)) (by rw [List.length_map]; exact hn) ?_ (by simpa using hfit) (ints_one ys) ?_
  · intro j u hj
    rw [List.getElem?_map] at hj
    cases hq : ys[j]? with
    | none => rw [hq] at hj; cases hj
    | some z =>
      rw [hq] at hj
      have hlt := (List.getElem?_eq_some_iff.1 hq).1
      rw [hsrc j hlt]
      simp only [List.getD, hq, Option.getD_some]
      simpa using hj
  · have hlen : (ys.map (Value.int .i64)).length = ys.length := by simp
    rw [hlen]
    refine h _ ?_ ⟨rfl, rfl, rfl, by simp [World.setRow], fun k hk hne => setRow_other w g k _ (fun e => hne (by rw [e]))⟩
    unfold RowI
    rw [setRow_heap w g _ _ _ _ hg']
    simp [List.map_take, List.map_drop]

/-- The tail, where nothing is asked behind its operations. -/
theorem wpTail_true {P : Program} {md : Region.Mode} {ops : Array Oper} {H : List Nat} {R : Act → World → Prop} : ∀ (T : List Nat) (l : List Oper) (a : Act) (w : World), (T.map fun t => ops.toList[t]?) = l.map some → wpList P ops (OnlyN R) l a w → wpTail P md ops (OnlyN R) (fun _ => True) H T a w
  | [], [], _, _, _, h => h
  | [], _ :: _, _, _, hl, _ => by simp at hl
  | _ :: _, [], _, _, hl, _ => by simp at hl
  | t :: r, o :: l, a, w, hl, h => by
    simp only [List.map_cons, List.cons.injEq] at hl
    have hl1 : ops[t]? = some o := by simpa using hl.1
    unfold wpTail wpOp
    rw [hl1]
    unfold wpList at h
    show if Region.wanted o (yielded ops a.tmps) = true then _ else _
    have key : ∀ a' w', wpList P ops (OnlyN R) l a' w' → (gReq md ops H t = true → True) ∧ wpTail P md ops (OnlyN R) (fun _ => True) H r a' w' := fun a' w' h' => ⟨fun _ => trivial, wpTail_true r l a' w' hl.2 h'⟩
    split
    · rename_i hw
      rw [if_pos hw] at h
      exact h.imp (fun h2 => Oper.wp_mono key h2) id
    · rename_i hw
      rw [if_neg hw] at h
      exact key _ _ h
theorem wpTail_true2 {P : Program} {md : Region.Mode} {ops : Array Oper} {H : List Nat} {R : Act → World → Prop} {i j : Nat} {o p : Oper} {a : Act} {w : World} (h1 : ops.toList[i]? = some o) (h2 : ops.toList[j]? = some p) (h : wpList P ops (OnlyN R) [o, p] a w) : wpTail P md ops (OnlyN R) (fun _ => True) H [i, j] a w :=
  wpTail_true [i, j] [o, p] a w (by simp only [List.map_cons, List.map_nil, h1, h2]) h

/-- The first j places filled. -/
def repTo (v : Int) (n j : Nat) : List Int := List.replicate j v ++ List.replicate (n - j) 0
theorem repTo_length (v : Int) (n j : Nat) (h : j ≤ n) : (repTo v n j).length = n := by simp [repTo]; omega
theorem repTo_all (v : Int) (n : Nat) : repTo v n n = List.replicate n v := by simp [repTo]
theorem repTo_copy (v : Int) (n j k : Nat) (h : j + k ≤ n) : (repTo v n j).take j ++ (List.replicate k v ++ (repTo v n j).drop (j + k)) = repTo v n (j + k) := by
  unfold repTo
  rw [List.take_append_of_le_length (by simp), List.take_of_length_le (by simp), List.drop_append]
  have e1 : (List.replicate j v).drop (j + k) = [] := List.drop_of_length_le (by simp)
  rw [e1, List.nil_append, List.length_replicate, List.drop_replicate, show n - j - (j + k - j) = n - (j + k) by omega, ← List.append_assoc, List.replicate_append_replicate]
theorem repTo_getD (v : Int) (n j i : Nat) (h : i < j) : (repTo v n j).getD i 0 = v := by
  simp [repTo, List.getD, List.getElem?_append_left, h]

set_option maxRecDepth 100000 in
set_option maxHeartbeats 2000000 in
/-- slices.Repeat of a list of one number. -/
theorem repeat_one (F : Nat → Prop) (p : Option Addr) (c : Nat) (v : Int) (n : Nat) (w : World) (h : IntsAt F w p [v]) (hn : n ≤ 65536) :
    Calls Try.prog 116 #[.slice p 1 c, .int .i64 n] w fun e w' => ∃ g, e = .returned (.slice (some ⟨g, 0, none⟩) n n) ∧ w.heap.size ≤ g ∧ RowI w' g (List.replicate n v) ∧ Ext w w' := by
  obtain ⟨b, off, rfl, hF, hc, _, _⟩ := h 0 (by simp)
  simp only [List.getD_cons_zero, Nat.add_zero] at hc
  have hmk := run_make_ints n (by omega)
  have hblt := World.block_lt_of_cell? w _ hc
  clear h
  have hz : ¬ (0 : Int) > 0 := by omega
  go_enter Try.func116, Try.ntmps116
  go_wp2_with fail
  refine (mul_one_any n _ (by omega)).mono ?_
  rintro e w' ⟨rfl, rfl⟩
  have hR := RowI.made (w := w) n
  have hE := (Ext.refl w).alloc (.cells (madeCells #[.int .i64 0] n) 3)
  have hc1 := hE.cell hc
  by_cases hn0 : n = 0
  · have HN0 := Lib.hid hn0
    have hle : ¬ 0 < n := by omega
    have hle' : ¬ (0 : Int) < n := by omega
    clear hn0
    go_wp2_with (refine wpList_copy_nothing (o := ⟨some 33, _, _, _, _, _⟩) rfl _ _ 23 23 rfl 3 Try.underlying23 (by obtain ⟨i0, hi, _, hz1, _⟩ := info_parts infoI; rw [hi]; simp [hz1]) (some ⟨w.heap.size, 0, none⟩) (some ⟨b, off, none⟩) n n 1 c (by rfl) (by rfl) (by rw [HN0.out]; rfl) ?_)
    have hgi : goInt 0 = .int .i64 0 := rfl
    clear hgi
    go_loop [8] (fun nv => nv = .int .i64 0) (fun _ => 0)
    case atStart => rfl
    case round =>
      subst hrel
      go_wp2_with fail
      go_ret
      exact ⟨w.heap.size, rfl, Nat.le_refl _, by rw [show List.replicate n v = List.replicate n 0 by rw [HN0.out]; rfl]; exact hR, hE⟩
  · have hn1 : 1 ≤ n := by omega
    clear hn0
    go_wp2_with (refine wpList_copy_row (o := ⟨some 33, _, _, _, _, _⟩) rfl _ _ rfl w.heap.size 0 n n ⟨b, off, none⟩ 1 c (List.replicate n 0) [v] (by rfl) (by rfl) hR (by simp; omega) ?_ (by simp; omega) ?_)
    · intro j hj
      have : j = 0 := by simpa using hj
      subst this
      simpa [Addr.add] using hc1
    generalize hg : w.heap.size = g at *
    have HG := Lib.hid hg
    clear hg hmk
    intro w2 hR2 hg2
    have hE2 : Ext w w2 := hE.grown hg2 hE.lt (fun q e => by cases e; rw [← HG.out]; exact Nat.le_refl _)
    replace hR2 : RowI w2 g (repTo v n 1) := by simpa [repTo] using hR2
    have HR2 := Lib.hid hR2
    have HE2 := Lib.hid hE2
    clear hR2 hg2 hR hE2 hE hc1
    go_wp2_with fail
    go_loopw [8] (fun nv wr => ∃ j : Nat, 1 ≤ j ∧ j ≤ n ∧ nv = .int .i64 j ∧ RowI wr g (repTo v n j) ∧ Ext w wr) (fun nv _ => n - (intOf nv).toNat)
    case atStart => exact ⟨1, by omega, by omega, rfl, HR2.out, HE2.out⟩
    case round =>
      obtain ⟨j, hj1, hj2, rfl, hR, hE⟩ := hrel
      clear HR2 HE2
      by_cases hlt : j < n
      · have hnj : ¬ n = j := by omega
        go_wp2_with fail
        refine wp_region_g [0, 1, 2, 3, 4, 5, 6] [7, 8, 9] (fun _ => True) (by kernel_rfl) (by kernel_rfl) trivial ?_
        iterate 7
          refine wpHead_cons (v := ?_) rfl (by rfl) (fun w' hS => ?_) ?_
          rotate_left
          · go_simp
            try with_reducible rfl
          try simp only [Act.put, List.setIfInBounds_toArray, List.set]
        unfold wpHead
        refine wpTail_cons rfl (fun K hK => ?_)
        have hRd := hR.ext ((Ext.refl _).drew)
        have hEd := hE.drew
        generalize wr.drew = wd at *
        have hrl := repTo_length v n j hj2
        refine wpList_copy_row rfl (.tmp 41) (.tmp 44) rfl g j (n - j) (n - j) ⟨g, 0, none⟩ j n (repTo v n j) (List.replicate (min j (n - j)) v) (by rfl) (by rfl) hRd (by simp) ?_ (by rw [hrl, List.length_replicate]; omega) ?_
        · intro i hi
          rw [List.length_replicate] at hi
          have := hRd.cell (j := i) (by rw [hrl]; omega)
          rw [Addr.add_lit, Nat.zero_add, this, repTo_getD _ _ _ _ (by omega)]
          simp [List.getD, hi]
        intro w3 hR3 hg3
        rw [List.length_replicate, repTo_copy _ _ _ _ (by omega)] at hR3
        have hE3 : Ext w w3 := hEd.grown hg3 hEd.lt (fun q e => by cases e; rw [← HG.out]; exact Nat.le_refl _)
        have hgi : goInt ((List.replicate (min j (n - j)) v).length : Int) = .int .i64 (min j (n - j) : Nat) := by rw [List.length_replicate]; rfl
        rw [hgi]
        have hk1 : 1 ≤ min j (n - j) := by omega
        have hk2 : j + min j (n - j) ≤ n := by omega
        generalize min j (n - j) = k at *
        clear hR hE hRd hEd hrl hg3 hgi
        go_wp2_with fail
        refine hK _ _ trivial ?_
        try simp only [Act.put, List.setIfInBounds_toArray, List.set]
        refine wpTail_true2 rfl rfl ?_
        go_wp2_with fail
        refine OnlyN.mk ?_
        go_wp2_with fail
        go_roundw
        case rel => exact ⟨j + k, by omega, by omega, by go_num, hR3, hE3⟩
        case measure => simp [intOf]; omega
      · obtain rfl : j = n := by omega
        rw [repTo_all] at hR
        go_wp2_with fail
        go_ret
        exact ⟨g, rfl, by rw [HG.out]; exact Nat.le_refl _, hR, hE⟩
end Go.Proofs.Ytgkemmdghmklfaa
