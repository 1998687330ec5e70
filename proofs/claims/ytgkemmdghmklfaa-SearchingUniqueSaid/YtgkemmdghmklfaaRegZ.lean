/-
  A DRAWN REGION WITH A CHAIN: operations that only add to the world (M, any order), between them a chain (C, in its own order: an append to a row in the making, again and again) that may write in place into the region's own blocks (X), and then a tail (T). Each operation is walked once. No program in sight.
-/
import Derived.Test.YtgkemmdghmklfaaRegX
namespace Go.Proofs.Ytgkemmdghmklfaa
set_option linter.unusedSimpArgs false
set_option linter.unusedVariables false
section
variable {P : Program} {ops : Array Oper} {Q : Exit → Act → World → Prop}

/-- Nothing but the region's own blocks has been written. -/
def Chg (X : Nat → Prop) (w w' : World) : Prop := w.heap.size ≤ w'.heap.size ∧ ∀ b, b < w.heap.size → ¬ X b → w'.heap[b]? = w.heap[b]?
theorem Chg.of_ext {X : Nat → Prop} {w w' : World} (e : Ext w w') : Chg X w w' := ⟨e.lt, fun b hb _ => e.block hb⟩
def ZSt (m : MProp) : Prop := ∀ (X X' : Nat → Prop) (w w' : World) (v : Value), Chg X w w' → XGrow X w X' → m.p X w v → m.p X' w' v
theorem zst_is (x : Value) : ZSt (.is x) := fun _ _ _ _ _ _ _ h => h
theorem zst_rd (t : Arr) : ZSt (.rd t) := fun X X' w w' v hc hx h => by
  obtain ⟨c0, c1, c2, c3, h1, h2⟩ := h
  refine ⟨c0, c1, c2, c3, h1, ArrAt.mono (fun b hb hlt => ⟨⟨Nat.lt_of_lt_of_le hlt hc.1, fun hx' => ?_⟩, hc.2 b hlt hb.2⟩) _ _ _ _ _ h2⟩
  rcases hx.2 b hx' with h | h
  · exact hb.2 h
  · omega
theorem zst_rdi (l : List Int) : ZSt (.rdi l) := fun X X' w w' v hc hx h => by
  obtain ⟨p, c, h1, h2, h3⟩ := h
  refine ⟨p, c, h1, h2, h3.mono fun b hb hlt => ⟨⟨Nat.lt_of_lt_of_le hlt hc.1, fun hx' => ?_⟩, hc.2 b hlt hb.2⟩⟩
  rcases hx.2 b hx' with h | h
  · exact hb.2 h
  · omega

def chainZ (ops : Array Oper) (M C : List Nat) : Bool :=
  (M.all fun i => match ops[i]? with
    | some o => o.after.all fun e => !Region.binds .any e || M.contains e.on
    | none => false) &&
  ((List.range C.length).all fun x => match ops[C.getD x 0]? with
    | some o => (o.after.all fun e => !Region.binds .any e || (M.contains e.on || (decide (0 < x) && e.on == C.getD (x - 1) 0))) && (x == 0 || waitsM o (C.getD (x - 1) 0))
    | none => false) &&
  ((List.range C.length).all fun x => !M.contains (C.getD x 0) && (List.range C.length).all fun y => x == y || C.getD x 0 != C.getD y 0)

/-- One operation of the chain. -/
def StepC (P : Program) (ops : Array Oper) (R : Act → World → Prop) (A : (Nat → Value) → Array Value) (df : List Deferred) (w0 : World) (G : List MProp) (i : Nat) (o : Oper) : Prop :=
  ∀ (u : Nat → Value) (w : World) (X : Nat → Prop), Ext w0 w → XIn X w0 w → (∀ j, waitsM o j = true → (nthM G j).p X w (u (dstOf ops j))) →
    ∀ K : Act → World → Prop, (∀ a' w' v (X' : Nat → Prop), a' = ⟨A (upd u (dstOf ops i) v), df⟩ → Ext w0 w' → Chg X w w' → XGrow X w X' → XIn X' w0 w' → (nthM G i).p X' w' v → K a' w') →
      wpList P ops (Exit.then K (OnlyN R)) [o] ⟨A u, df⟩ w

theorem wpAnyZ {R : Act → World → Prop} (A : (Nat → Value) → Array Value) (df : List Deferred) (w0 : World) (G : List MProp) (M C T : List Nat) (l : List Oper) (hl : (T.map fun t => ops.toList[t]?) = l.map some) (hok : xOk ops (M ++ C) [] T = true) (hch : chainZ ops M C = true)
    (hs : ∀ i ∈ M, ∃ o, ops.toList[i]? = some o ∧ StepX P ops R A df w0 G i o) (hzs : ∀ i ∈ M, ZSt (nthM G i))
    (hcs : ∀ i ∈ C, ∃ o, ops.toList[i]? = some o ∧ StepC P ops R A df w0 G i o)
    (hq : ∀ u w X, Ext w0 w → XIn X w0 w → (∀ i ∈ M, (nthM G i).p X w (u (dstOf ops i))) → (∀ x, x + 1 = C.length → (nthM G (C.getD x 0)).p X w (u (dstOf ops (C.getD x 0)))) → wpList P ops (OnlyN R) l ⟨A u, df⟩ w) :
    ∀ (fuel : Nat) (listed : Array Bool) (u : Nat → Value) (w : World) (X : Nat → Prop) (n : Nat), listed.size = ops.size → ((M ++ C).filter fun i => !listed.getD i true).length + T.length ≤ fuel → (∀ t ∈ T, listed.getD t true = false) →
      Ext w0 w → XIn X w0 w → (∀ i ∈ M, listed.getD i false = true → (nthM G i).p X w (u (dstOf ops i))) → (∀ x, x < C.length → listed.getD (C.getD x 0) false = decide (x < n)) → n ≤ C.length → (∀ x, x + 1 = n → (nthM G (C.getD x 0)).p X w (u (dstOf ops (C.getD x 0)))) →
      wpAny P .any ops (OnlyN R) fuel listed ⟨A u, df⟩ w := by
  unfold xOk at hok
  simp only [Bool.and_eq_true] at hok
  obtain ⟨⟨⟨⟨⟨⟨⟨⟨_, hsel⟩, hcov⟩, hMlt⟩, _⟩, hM⟩, _⟩, hT⟩, hgT⟩ := hok
  unfold chainZ at hch
  simp only [Bool.and_eq_true] at hch
  obtain ⟨⟨hMd, hCd⟩, hCn⟩ := hch
  have hMlt' : ∀ i ∈ M ++ C, i < ops.size := fun i hi => by simpa using List.all_eq_true.1 hMlt i hi
  have hM' : ∀ i ∈ M ++ C, ∃ o, ops[i]? = some o ∧ (∀ e ∈ o.after, Region.binds .any e = true → e.on < i ∧ e.on ∈ M ++ C) ∧ ∀ j ∈ M ++ C, i ≠ j → dstOf ops i ≠ dstOf ops j := by
    intro i hi
    have h1 := List.all_eq_true.1 hM i hi
    cases h2 : ops[i]? with
    | none => rw [h2] at h1; cases h1
    | some o =>
      rw [h2] at h1
      simp only [Bool.and_eq_true, List.all_eq_true, Array.all_eq_true_iff_forall_mem, Bool.or_eq_true, beq_iff_eq, bne_iff_ne] at h1
      refine ⟨o, rfl, fun e he hb => ?_, fun j hj hne => (h1.2 j hj).resolve_left hne⟩
      have h3 := (h1.1.2 e he).resolve_left (by simp [hb])
      simpa using h3
  have hMd' : ∀ i ∈ M, ∀ o, ops[i]? = some o → ∀ j, waitsM o j = true → j ∈ M := by
    intro i hi o ho j hj
    have h1 := List.all_eq_true.1 hMd i hi
    rw [ho] at h1
    unfold waitsM at hj
    obtain ⟨e, he, hb⟩ := Array.any_eq_true'.1 hj
    simp only [Bool.and_eq_true, beq_iff_eq] at hb
    have := Array.all_eq_true_iff_forall_mem.1 h1 e he
    simp [hb.1] at this
    rw [← hb.2]; exact this
  have hCd' : ∀ x, x < C.length → ∃ o, ops[C.getD x 0]? = some o ∧ (∀ j, waitsM o j = true → j ∈ M ∨ (0 < x ∧ j = C.getD (x - 1) 0)) ∧ (x ≠ 0 → waitsM o (C.getD (x - 1) 0) = true) := by
    intro x hx
    have h1 := List.all_eq_true.1 hCd x (List.mem_range.2 hx)
    cases h2 : ops[C.getD x 0]? with
    | none => rw [h2] at h1; cases h1
    | some o =>
      rw [h2] at h1
      simp only [Bool.and_eq_true] at h1
      refine ⟨o, rfl, fun j hj => ?_, fun hx0 => ?_⟩
      · unfold waitsM at hj
        obtain ⟨e, he, hb⟩ := Array.any_eq_true'.1 hj
        simp only [Bool.and_eq_true, beq_iff_eq] at hb
        have := Array.all_eq_true_iff_forall_mem.1 h1.1 e he
        simp [hb.1] at this
        rw [← hb.2]
        exact this.imp id (fun h => by simpa using h)
      · have := h1.2
        simp [hx0] at this
        simpa using this
  have hCn' : ∀ x, x < C.length → C.getD x 0 ∉ M ∧ ∀ y, y < C.length → x ≠ y → C.getD x 0 ≠ C.getD y 0 := by
    intro x hx
    have h1 := List.all_eq_true.1 hCn x (List.mem_range.2 hx)
    simp only [Bool.and_eq_true] at h1
    refine ⟨by simpa using h1.1, fun y hy hne => ?_⟩
    have := List.all_eq_true.1 h1.2 y (List.mem_range.2 hy)
    simp only [Bool.or_eq_true, beq_iff_eq, bne_iff_ne] at this
    exact this.resolve_left hne
  have hCmem : ∀ x, x < C.length → C.getD x 0 ∈ C := fun x hx => by
    simp only [List.getD, List.getElem?_eq_getElem hx, Option.getD_some]
    exact List.getElem_mem hx
  have hTM : ∀ t ∈ T, ∀ ot, ops[t]? = some ot → ∀ m ∈ M ++ C, waitsM ot m = true := by
    intro t ht ot hot m hm
    have h1 := List.all_eq_true.1 hT t ht
    rw [hot] at h1
    have h2 := List.all_eq_true.1 h1 m hm
    simpa using h2
  have hwl : ∀ (listed : Array Bool) (o : Oper) (j : Nat), (∀ e ∈ o.after, Region.binds .any e = true → listed.getD e.on false = true) → waitsM o j = true → listed.getD j false = true := by
    intro listed o j hall hj
    unfold waitsM at hj
    obtain ⟨e, he, hb⟩ := Array.any_eq_true'.1 hj
    simp only [Bool.and_eq_true, beq_iff_eq] at hb
    rw [← hb.2]
    exact hall e he hb.1
  -- all listed
  have hfin : ∀ (fuel : Nat) (listed : Array Bool) (u : Nat → Value) (w : World) (X : Nat → Prop) (n : Nat), listed.size = ops.size → T.length ≤ fuel → (∀ t ∈ T, listed.getD t true = false) →
      Ext w0 w → XIn X w0 w → (∀ i ∈ M, listed.getD i false = true → (nthM G i).p X w (u (dstOf ops i))) → (∀ x, x < C.length → listed.getD (C.getD x 0) false = decide (x < n)) → n ≤ C.length → (∀ x, x + 1 = n → (nthM G (C.getD x 0)).p X w (u (dstOf ops (C.getD x 0)))) →
      (∀ i ∈ M ++ C, listed.getD i false = true) → wpAny P .any ops (OnlyN R) fuel listed ⟨A u, df⟩ w := by
    intro fuel listed u w X n hsz hf hTu hE0 hX hG hCl hn hGC hall
    have hlist : listed = ((List.range ops.size).map fun i => (M ++ C).contains i).toArray := by
      apply Array.ext
      · simp [hsz]
      · intro i h1 h2
        have hi : i < ops.size := by omega
        simp only [List.getElem_toArray, List.getElem_map, List.getElem_range]
        have hc := List.all_eq_true.1 hcov i (List.mem_range.2 hi)
        have e1 : listed.getD i false = listed[i] := by simp [Array.getD, h1]
        have e2 : listed.getD i true = listed[i] := by simp [Array.getD, h1]
        cases hm : (M ++ C).contains i with
        | true =>
          rw [← e1]
          exact hall i (by simpa using hm)
        | false =>
          rw [hm] at hc
          have ht : i ∈ T := by
            have : T.contains i = true := by simpa using hc
            simpa using this
          rw [← e2]
          exact hTu i ht
    refine wpAny_tailX T l fuel listed _ w hf (by rw [hlist]; exact hgT) hl (hq u w X hE0 hX (fun i hi => hG i hi (hall i (by simp [hi]))) fun x hx => hGC x ?_)
    have h1 := hCl x (by omega)
    rw [hall _ (List.mem_append.2 (.inr (hCmem x (by omega))))] at h1
    have : x < n := by simpa using h1.symm
    omega
  intro fuel
  induction fuel with
  | zero =>
    intro listed u w X n hsz hc hTu hE0 hX hG hCl hn hGC
    refine hfin 0 listed u w X n hsz (by omega) hTu hE0 hX hG hCl hn hGC fun i hi => ?_
    have h0 : ((M ++ C).filter fun i => !listed.getD i true) = [] := List.eq_nil_of_length_eq_zero (by omega)
    have h1 : ¬ (!listed.getD i true) = true := fun h => by
      have : i ∈ ((M ++ C).filter fun i => !listed.getD i true) := List.mem_filter.2 ⟨hi, h⟩
      rw [h0] at this; cases this
    rw [← getD_both (by have := hMlt' i hi; omega)]
    simpa using h1
  | succ fuel ih =>
    intro listed u w X n hsz hc hTu hE0 hX hG hCl hn hGC
    by_cases hall : ∀ i ∈ M ++ C, listed.getD i false = true
    · exact hfin _ listed u w X n hsz (by omega) hTu hE0 hX hG hCl hn hGC hall
    · have stepA : ∀ i ∈ M ++ C, listed.getD i true = false → ((M ++ C).filter fun k => !(listed.setIfInBounds i true).getD k true).length + T.length ≤ fuel ∧ (∀ t ∈ T, (listed.setIfInBounds i true).getD t true = false) ∧ i < ops.size := by
        intro i hi hun
        have hilt := hMlt' i hi
        refine ⟨?_, ?_, hilt⟩
        · have := filter_lt (p := fun k => !listed.getD k true) (q := fun k => !(listed.setIfInBounds i true).getD k true) (i := i) (by simp only [hun]; rfl) (by simp [Array.getD, hsz, hilt]) (fun k hk => by
            by_cases hki : k = i
            · subst hki; simp only [hun]; rfl
            · rw [getD_set_ne true (fun e => hki e.symm)] at hk; exact hk) _ hi
          omega
        · intro t ht
          have hti : i ≠ t := by
            rintro rfl
            have hc2 := List.all_eq_true.1 hcov i (List.mem_range.2 hilt)
            have h1 : (M ++ C).contains i = true := by simpa using hi
            have h2 : T.contains i = true := by simpa using ht
            rw [h1, h2] at hc2
            cases hc2
          rw [getD_set_ne true hti]
          exact hTu t ht
      have other : ∀ i ∈ M ++ C, ∀ j ∈ M ++ C, j ≠ i → ∀ v, upd u (dstOf ops i) v (dstOf ops j) = u (dstOf ops j) := by
        intro i hi j hj hne v
        obtain ⟨o, ho, _, hd⟩ := hM' i hi
        unfold upd
        rw [if_neg (fun e => hd j hj (fun e => hne e.symm) e.symm)]
      refine ⟨fun hnil => ?_, fun i hi => ?_⟩
      · exfalso
        apply hall
        have key : ∀ n, ∀ i, i < n → i ∈ M ++ C → listed.getD i false = true := by
          intro n
          induction n with
          | zero => intro i hi; omega
          | succ n ihn =>
            intro i hin hi
            by_cases hl : listed.getD i false = true
            · exact hl
            · exfalso
              obtain ⟨o, ho, hfw, _⟩ := hM' i hi
              have hmem : i ∈ Region.ready .any ops listed := mem_ready.2 ⟨by rw [getD_both (by have := hMlt' i hi; omega)]; simpa using hl, o, ho, fun e he hb => ihn e.on (by have := (hfw e he hb).1; omega) (hfw e he hb).2⟩
              rw [hnil] at hmem
              cases hmem
        exact fun i hi => key (i + 1) i (by omega) hi
      · obtain ⟨hun, o, ho, hwait⟩ := mem_ready.1 hi
        have hilt : i < ops.size := (Array.getElem?_eq_some_iff.1 ho).1
        have hiM : i ∈ M ++ C := by
          by_cases hiM : i ∈ M ++ C
          · exact hiM
          · exfalso
            have hiT : i ∈ T := by
              have hc2 := List.all_eq_true.1 hcov i (List.mem_range.2 hilt)
              have h1 : (M ++ C).contains i = false := by simpa using hiM
              rw [h1] at hc2
              have : T.contains i = true := by simpa using hc2
              simpa using this
            apply hall
            intro m hm
            exact hwl listed o m hwait (hTM i hiT o ho m hm)
        obtain ⟨sA1, sA2, sA3⟩ := stepA i hiM hun
        have hunf : listed.getD i false = false := by rw [← getD_both (by omega)]; exact hun
        have fin : wpList P ops (Exit.then (fun a' w' => wpAny P .any ops (OnlyN R) fuel (listed.setIfInBounds i true) a' w') (OnlyN R)) [o] ⟨A u, df⟩ w := by
          rcases List.mem_append.1 hiM with hm | hm
          · -- one of M
            obtain ⟨o2, ho2', hst⟩ := hs i hm
            have ho2 : ops[i]? = some o2 := by simpa using ho2'
            rw [ho] at ho2
            cases ho2
            have hiC : ∀ x, x < C.length → C.getD x 0 ≠ i := fun x hx e => (hCn' x hx).1 (by rw [e]; exact hm)
            refine hst u w X hE0 hX (fun j hj => hG j (hMd' i hm o ho j hj) (hwl listed o j hwait hj)) _ ?_
            intro a' w' v X' ha hE' hXX hX' hv
            subst ha
            refine ih _ _ _ X' n (by simp [hsz]) sA1 sA2 (hE0.trans hE') hX' ?_ ?_ hn ?_
            · intro j hj hlj
              by_cases hji : j = i
              · subst hji
                simp only [upd, if_true]
                exact hv
              · rw [other i hiM j (by simp [hj]) hji v]
                rw [getD_set_ne false (fun e => hji e.symm)] at hlj
                exact (nthM G j).mono X X' w w' _ hE' hXX (hG j hj hlj)
            · intro x hx
              rw [getD_set_ne false (fun e => hiC x hx e.symm)]
              exact hCl x hx
            · intro x hx
              rw [other i hiM _ (List.mem_append.2 (.inr (hCmem x (by omega)))) (hiC x (by omega)) v]
              exact (nthM G _).mono X X' w w' _ hE' hXX (hGC x hx)
          · -- the chain's next
            obtain ⟨x, hx, hxi⟩ := List.mem_iff_getElem.1 hm
            have hxi' : C.getD x 0 = i := by simp [List.getD, hx, hxi]
            obtain ⟨o2, ho2', hst⟩ := hcs i hm
            have ho2 : ops[i]? = some o2 := by simpa using ho2'
            rw [ho] at ho2
            cases ho2
            obtain ⟨o3, ho3, hd1, hd2⟩ := hCd' x hx
            rw [hxi', ho] at ho3
            cases ho3
            have hge : n ≤ x := by
              have := hCl x hx
              rw [hxi', hunf] at this
              have : ¬ x < n := by simpa using this.symm
              omega
            have hxn : x = n := by
              rcases Nat.eq_zero_or_pos x with h0 | h0
              · omega
              · have h1 := hwl listed o _ hwait (hd2 (by omega))
                have h2 := hCl (x - 1) (by omega)
                rw [h1] at h2
                have : x - 1 < n := by simpa using h2.symm
                omega
            subst hxn
            refine hst u w X hE0 hX (fun j hj => ?_) _ ?_
            · rcases hd1 j hj with h | ⟨h1, rfl⟩
              · exact hG j h (hwl listed o j hwait hj)
              · exact hGC (x - 1) (by omega)
            intro a' w' v X' ha hE' hC' hXX hX' hv
            subst ha
            refine ih _ _ _ X' (x + 1) (by simp [hsz]) sA1 sA2 hE' hX' ?_ ?_ (by omega) ?_
            · intro j hj hlj
              have hji : j ≠ i := fun e => (hCn' x hx).1 (by rw [hxi', ← e]; exact hj)
              rw [other i hiM j (by simp [hj]) hji v]
              rw [getD_set_ne false (fun e => hji e.symm)] at hlj
              exact hzs j hj X X' w w' _ hC' hXX (hG j hj hlj)
            · intro y hy
              by_cases hyx : y = x
              · subst hyx
                rw [hxi']
                simp [Array.getD, hsz, hilt]
              · have hne : i ≠ C.getD y 0 := by rw [← hxi']; exact (hCn' x hx).2 y hy (fun e => hyx e.symm)
                rw [getD_set_ne false hne, hCl y hy]
                have : (y < x) ↔ (y < x + 1) := by omega
                simp only [this]
            · intro y hy
              obtain rfl : y = x := by omega
              rw [hxi']
              simp only [upd, if_true]
              exact hv
        unfold wpOp
        rw [ho]
        unfold wpList at fin
        show if Region.wanted o (yielded ops (A u)) = true then _ else _
        split
        · rename_i hw
          have key2 : Region.wanted o (yielded ops (⟨A u, df⟩ : Act).tmps) = true := hw
          rw [if_pos key2] at fin
          refine fin.imp (fun h3 => ?_) id
          exact Oper.wp_mono (fun a' w' h4 => h4) (upon_then (K := fun a' w' => wpAny P .any ops (OnlyN R) fuel (listed.setIfInBounds i true) a' w') _ h3)
        · rename_i hw
          have key2 : ¬ Region.wanted o (yielded ops (⟨A u, df⟩ : Act).tmps) = true := hw
          rw [if_neg key2] at fin
          exact fin

/-- One operation of the chain. -/
def StepK (P : Program) (ops : Array Oper) (R : Act → World → Prop) (t : Array Value) (D : List Nat) (df : List Deferred) (w0 : World) (G : List MProp) (i : Nat) : Prop :=
  ∃ o d, ops.toList[i]? = some o ∧ dstOf ops i = d ∧ ∀ (u : Nat → Value) (w : World) (X : Nat → Prop), Ext w0 w → XIn X w0 w → (∀ j, waitsM o j = true → (nthM G j).p X w (u (dstOf ops j))) →
    ∀ K : Act → World → Prop, (∀ v w' (X' : Nat → Prop), Ext w0 w' → Chg X w w' → XGrow X w X' → XIn X' w0 w' → (nthM G i).p X' w' v → K ⟨(overlay t u D).setIfInBounds d v, df⟩ w') →
      wpList P ops (Exit.then K (OnlyN R)) [o] ⟨overlay t u D, df⟩ w

/-- THE RULE. -/
theorem wp_region_z {id : Nat} {t : Array Value} {df : List Deferred} {w : World} (G : List MProp) (M C T D : List Nat) (l : List Oper) (hm : P.follows .mixedOrders = true) (hok : xOk ops (M ++ C) [] T = true) (hch : chainZ ops M C = true) (hD : (M ++ C).map (dstOf ops) = D)
    (hl : (T.map fun t => ops.toList[t]?) = l.map some) (hzs : ∀ i ∈ M, ZSt (nthM G i))
    (hs : ∀ i ∈ M, StepO P ops (Q .normal) t D df w.drew G i)
    (hcs : ∀ i ∈ C, StepK P ops (Q .normal) t D df w.drew G i)
    (hq : ∀ u w' X, Ext w.drew w' → XIn X w.drew w' → (∀ i ∈ M, (nthM G i).p X w' (u (dstOf ops i))) → (∀ x, x + 1 = C.length → (nthM G (C.getD x 0)).p X w' (u (dstOf ops (C.getD x 0)))) → wpList P ops (OnlyN (Q .normal)) l ⟨overlay t u D, df⟩ w') : (Code.region id ops true).wp P Q ⟨t, df⟩ w := by
  have hsz : (M ++ C).length + T.length ≤ ops.size := by
    have h := hok
    unfold xOk at h
    simp only [Bool.and_eq_true, decide_eq_true_eq] at h
    exact h.1.1.1.1.1.1.1.1
  have hdM : ∀ i ∈ M ++ C, dstOf ops i ∈ D := fun i hi => by rw [← hD]; exact List.mem_map_of_mem hi
  have h1 : wpAny P .any ops (OnlyN (Q .normal)) ops.size (Array.replicate ops.size false) ⟨overlay t (fun i => t.getD i undef) D, df⟩ w.drew :=
    wpAnyZ (fun u => overlay t u D) df w.drew G M C T l hl hok hch (fun i hi => by
      obtain ⟨o, d, ho, rfl, h⟩ := hs i hi
      refine ⟨o, ho, fun u w' X e1 e2 e3 K hK => h u w' X e1 e2 e3 K fun v w2 X' f1 f2 f3 f4 => hK _ w2 v X' ?_ f1 f2 f3 f4⟩
      rw [overlay_upd _ _ _ _ _ (hdM i (by simp [hi]))]) hzs (fun i hi => by
      obtain ⟨o, d, ho, rfl, h⟩ := hcs i hi
      refine ⟨o, ho, fun u w' X e1 e2 e3 K hK => h u w' X e1 e2 e3 K fun v w2 X' f0 f1 f2 f3 f4 => hK _ w2 v X' ?_ f0 f1 f2 f3 f4⟩
      rw [overlay_upd _ _ _ _ _ (hdM i (by simp [hi]))]) hq _ _ _ w.drew (fun _ => False) 0 (by simp) (by
      have := List.length_filter_le (fun i => !(Array.replicate ops.size false).getD i true) (M ++ C)
      omega) (fun t ht => by
      have hT : t < ops.size := by
        have h3 : ops.toList[t]? ∈ (T.map fun t => ops.toList[t]?) := List.mem_map.2 ⟨t, ht, rfl⟩
        rw [hl] at h3
        obtain ⟨o, _, ho⟩ := List.mem_map.1 h3
        have := (List.getElem?_eq_some_iff.1 ho.symm).1
        simpa using this
      simp [Array.getD, hT]) (Ext.refl _) (fun b hb => hb.elim) (fun i hi hl => by
      rcases Nat.lt_or_ge i ops.size with h | h
      · simp [Array.getD, h] at hl
      · simp [Array.getD] at hl) (fun x hx => by
      rcases Nat.lt_or_ge (C.getD x 0) ops.size with h | h
      · simp [Array.getD]
      · simp [Array.getD]) (Nat.zero_le _) (fun x hx => by omega)
  rw [overlay_start] at h1
  have h2 : (Code.region id ops true).wp P (OnlyN (Q .normal)) ⟨t, df⟩ w := wp_region_any hm h1
  exact Code.wp_mono (fun e a w q => by cases e <;> first | exact q | exact q.elim) h2
theorem wp_region_z1 {id : Nat} {t : Array Value} {df : List Deferred} {w : World} (G : List MProp) (M C D : List Nat) (i1 : Nat) {o1 : Oper} (hm : P.follows .mixedOrders = true) (hok : xOk ops (M ++ C) [] [i1] = true) (hch : chainZ ops M C = true) (hD : (M ++ C).map (dstOf ops) = D) (h1 : ops.toList[i1]? = some o1)
    (hzs : ∀ i ∈ M, ZSt (nthM G i)) (hs : ∀ i ∈ M, StepO P ops (Q .normal) t D df w.drew G i) (hcs : ∀ i ∈ C, StepK P ops (Q .normal) t D df w.drew G i)
    (hq : ∀ u w' X, Ext w.drew w' → XIn X w.drew w' → (∀ i ∈ M, (nthM G i).p X w' (u (dstOf ops i))) → (∀ x, x + 1 = C.length → (nthM G (C.getD x 0)).p X w' (u (dstOf ops (C.getD x 0)))) → wpList P ops (OnlyN (Q .normal)) [o1] ⟨overlay t u D, df⟩ w') : (Code.region id ops true).wp P Q ⟨t, df⟩ w :=
  wp_region_z G M C [i1] D [o1] hm hok hch hD (by simp only [List.map_cons, List.map_nil, h1]) hzs hs hcs hq
theorem wp_region_z2 {id : Nat} {t : Array Value} {df : List Deferred} {w : World} (G : List MProp) (M C D : List Nat) (i1 i2 : Nat) {o1 o2 : Oper} (hm : P.follows .mixedOrders = true) (hok : xOk ops (M ++ C) [] [i1, i2] = true) (hch : chainZ ops M C = true) (hD : (M ++ C).map (dstOf ops) = D) (h1 : ops.toList[i1]? = some o1) (h2 : ops.toList[i2]? = some o2)
    (hzs : ∀ i ∈ M, ZSt (nthM G i)) (hs : ∀ i ∈ M, StepO P ops (Q .normal) t D df w.drew G i) (hcs : ∀ i ∈ C, StepK P ops (Q .normal) t D df w.drew G i)
    (hq : ∀ u w' X, Ext w.drew w' → XIn X w.drew w' → (∀ i ∈ M, (nthM G i).p X w' (u (dstOf ops i))) → (∀ x, x + 1 = C.length → (nthM G (C.getD x 0)).p X w' (u (dstOf ops (C.getD x 0)))) → wpList P ops (OnlyN (Q .normal)) [o1, o2] ⟨overlay t u D, df⟩ w') : (Code.region id ops true).wp P Q ⟨t, df⟩ w :=
  wp_region_z G M C [i1, i2] D [o1, o2] hm hok hch hD (by simp only [List.map_cons, List.map_nil, h1, h2]) hzs hs hcs hq
theorem forall_nil_z {p : Nat → Prop} : ∀ i ∈ ([] : List Nat), p i := fun _ h => by cases h
end
end Go.Proofs.Ytgkemmdghmklfaa
