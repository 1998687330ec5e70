/-
  THE RULE FOR A DRAWN REGION once more: a pure operation that may come late (E) may itself wait for others. No program in sight.
-/
import Derived.Test.YtgkemmdghmklfaaRegX
namespace Go.Proofs.Ytgkemmdghmklfaa
set_option linter.unusedSimpArgs false
set_option linter.unusedVariables false
section
variable {P : Program} {ops : Array Oper} {Q : Exit → Act → World → Prop}

def yOk (ops : Array Oper) (M E T : List Nat) : Bool :=
  decide (M.length + T.length ≤ ops.size) && Region.noSelect ops && ((List.range ops.size).all fun i => M.contains i != T.contains i) && (M.all fun i => decide (i < ops.size)) && E.all (M.contains ·) &&
  (M.all fun i => match ops[i]? with
    | some o => o.dst.isSome && (o.after.all fun e => !Region.binds .any e || (decide (e.on < i) && M.contains e.on)) && M.all fun j => i == j || dstOf ops i != dstOf ops j
    | none => false) &&
  (E.all fun i => match ops[i]? with
    | some oi => (List.range ops.size).all fun j => j == i || match ops[j]? with
      | some oj => waitsM oj i || waitsM oi j || oi.apart ops oj
      | none => true
    | none => false) &&
  (T.all fun t => match ops[t]? with
    | some ot => M.all fun m => waitsM ot m || (E.contains m && match ops[m]? with
      | some om => om.after.all fun e => !Region.binds .any e || waitsM ot e.on
      | none => false)
    | none => false) &&
  gTail .any ops T ((List.range ops.size).map fun i => M.contains i).toArray

theorem wpAnyY {R : Act → World → Prop} (A : (Nat → Value) → Array Value) (df : List Deferred) (w0 : World) (G : List MProp) (M E T : List Nat) (l : List Oper) (hl : (T.map fun t => ops.toList[t]?) = l.map some) (hok : yOk ops M E T = true)
    (hs : ∀ i ∈ M, ∃ o, ops.toList[i]? = some o ∧ StepX P ops R A df w0 G i o)
    (he : ∀ i ∈ E, ∃ o, ops.toList[i]? = some o ∧ StepE P ops A df G i o)
    (hq : ∀ u w X, Ext w0 w → XIn X w0 w → (∀ i ∈ M, (nthM G i).p X w (u (dstOf ops i))) → wpList P ops (OnlyN R) l ⟨A u, df⟩ w) :
    ∀ (fuel : Nat) (listed : Array Bool) (u : Nat → Value) (w : World) (X : Nat → Prop), listed.size = ops.size → (M.filter fun i => !listed.getD i true).length + T.length ≤ fuel → (∀ t ∈ T, listed.getD t true = false) →
      Ext w0 w → XIn X w0 w → (∀ i ∈ M, listed.getD i false = true → (nthM G i).p X w (u (dstOf ops i))) → wpAny P .any ops (OnlyN R) fuel listed ⟨A u, df⟩ w := by
  unfold yOk at hok
  simp only [Bool.and_eq_true] at hok
  obtain ⟨⟨⟨⟨⟨⟨⟨⟨_, hsel⟩, hcov⟩, hMlt⟩, hEM⟩, hM⟩, hE⟩, hT⟩, hgT⟩ := hok
  have hMlt' : ∀ i ∈ M, i < ops.size := fun i hi => by simpa using List.all_eq_true.1 hMlt i hi
  have hEM' : ∀ i ∈ E, i ∈ M := fun i hi => by simpa using List.all_eq_true.1 hEM i hi
  have hM' : ∀ i ∈ M, ∃ o, ops[i]? = some o ∧ (∀ e ∈ o.after, Region.binds .any e = true → e.on < i ∧ e.on ∈ M) ∧ ∀ j ∈ M, i ≠ j → dstOf ops i ≠ dstOf ops j := by
    intro i hi
    have h1 := List.all_eq_true.1 hM i hi
    cases h2 : ops[i]? with
    | none => rw [h2] at h1; cases h1
    | some o =>
      rw [h2] at h1
      simp only [Bool.and_eq_true, List.all_eq_true, Array.all_eq_true_iff_forall_mem, Bool.or_eq_true, beq_iff_eq, bne_iff_ne] at h1
      refine ⟨o, rfl, fun e he hb => ?_, fun j hj hne => (h1.2 j hj).resolve_left hne⟩
      have h3 := (h1.1.2 e he).resolve_left (by simp [hb])
      simpa using h3
  have hTM : ∀ t ∈ T, ∀ ot, ops[t]? = some ot → ∀ m ∈ M, waitsM ot m = true ∨ (m ∈ E ∧ ∃ om, ops[m]? = some om ∧ ∀ e ∈ om.after, Region.binds .any e = true → waitsM ot e.on = true) := by
    intro t ht ot hot m hm
    have h1 := List.all_eq_true.1 hT t ht
    rw [hot] at h1
    have h2 := List.all_eq_true.1 h1 m hm
    simp only [Bool.or_eq_true, Bool.and_eq_true] at h2
    refine h2.imp id fun h3 => ?_
    obtain ⟨h4, h5⟩ := h3
    obtain ⟨om, hom, _⟩ := hM' m hm
    rw [hom] at h5
    refine ⟨by simpa using h4, om, hom, fun e he hb => ?_⟩
    have := Array.all_eq_true_iff_forall_mem.1 h5 e he
    simpa [hb] using this
  have hwl : ∀ (listed : Array Bool) (o : Oper) (j : Nat), (∀ e ∈ o.after, Region.binds .any e = true → listed.getD e.on false = true) → waitsM o j = true → listed.getD j false = true := by
    intro listed o j hall hj
    unfold waitsM at hj
    obtain ⟨e, he, hb⟩ := Array.any_eq_true'.1 hj
    simp only [Bool.and_eq_true, beq_iff_eq] at hb
    rw [← hb.2]
    exact hall e he hb.1
  -- all of M listed
  have hfin : ∀ (fuel : Nat) (listed : Array Bool) (u : Nat → Value) (w : World) (X : Nat → Prop), listed.size = ops.size → T.length ≤ fuel → (∀ t ∈ T, listed.getD t true = false) →
      Ext w0 w → XIn X w0 w → (∀ i ∈ M, listed.getD i false = true → (nthM G i).p X w (u (dstOf ops i))) → (∀ i ∈ M, listed.getD i false = true) → wpAny P .any ops (OnlyN R) fuel listed ⟨A u, df⟩ w := by
    intro fuel listed u w X hsz hf hTu hE0 hX hG hall
    have hlist : listed = ((List.range ops.size).map fun i => M.contains i).toArray := by
      apply Array.ext
      · simp [hsz]
      · intro i h1 h2
        have hi : i < ops.size := by omega
        simp only [List.getElem_toArray, List.getElem_map, List.getElem_range]
        have hc := List.all_eq_true.1 hcov i (List.mem_range.2 hi)
        have e1 : listed.getD i false = listed[i] := by simp [Array.getD, h1]
        have e2 : listed.getD i true = listed[i] := by simp [Array.getD, h1]
        cases hm : M.contains i with
        | true =>
          rw [← e1]
          exact hall i (by simpa using hm)
        | false =>
          rw [hm] at hc
          have ht : i ∈ T := by
            have : T.contains i = true := by simpa using hc
            simpa using this
          rw [← e2]
          exact hTu i ht
    refine wpAny_tailX T l fuel listed _ w hf (by rw [hlist]; exact hgT) hl (hq u w X hE0 hX fun i hi => hG i hi (hall i hi))
  intro fuel
  induction fuel with
  | zero =>
    intro listed u w X hsz hc hTu hE0 hX hG
    refine hfin 0 listed u w X hsz (by omega) hTu hE0 hX hG fun i hi => ?_
    have h0 : (M.filter fun i => !listed.getD i true) = [] := List.eq_nil_of_length_eq_zero (by omega)
    have h1 : ¬ (!listed.getD i true) = true := fun h => by
      have : i ∈ (M.filter fun i => !listed.getD i true) := List.mem_filter.2 ⟨hi, h⟩
      rw [h0] at this; cases this
    rw [← getD_both (by have := hMlt' i hi; omega)]
    simpa using h1
  | succ fuel ih =>
    intro listed u w X hsz hc hTu hE0 hX hG
    by_cases hall : ∀ i ∈ M, listed.getD i false = true
    · exact hfin _ listed u w X hsz (by omega) hTu hE0 hX hG hall
    · -- an operation that is carried out: what is listed behind it
      have step : ∀ i ∈ M, listed.getD i true = false → ∀ (v : Value) (w' : World) (X' : Nat → Prop), Ext w w' → XGrow X w X' → XIn X' w0 w' → (nthM G i).p X' w' v →
          wpAny P .any ops (OnlyN R) fuel (listed.setIfInBounds i true) ⟨A (upd u (dstOf ops i) v), df⟩ w' := by
        intro i hi hun v w' X' hE' hXX hX' hv
        have hilt := hMlt' i hi
        obtain ⟨o, ho, _, hne⟩ := hM' i hi
        refine ih _ _ _ X' (by simp [hsz]) ?_ ?_ (hE0.trans hE') hX' ?_
        · have := filter_lt (p := fun k => !listed.getD k true) (q := fun k => !(listed.setIfInBounds i true).getD k true) (i := i) (by simp only [hun]; rfl) (by simp [Array.getD, hsz, hilt]) (fun k hk => by
            by_cases hki : k = i
            · subst hki; simp only [hun]; rfl
            · rw [getD_set_ne true (fun e => hki e.symm)] at hk; exact hk) _ hi
          omega
        · intro t ht
          have hti : i ≠ t := by
            rintro rfl
            have hc2 := List.all_eq_true.1 hcov i (List.mem_range.2 hilt)
            have h1 : M.contains i = true := by simpa using hi
            have h2 : T.contains i = true := by simpa using ht
            rw [h1, h2] at hc2
            cases hc2
          rw [getD_set_ne true hti]
          exact hTu t ht
        · intro j hj hlj
          by_cases hji : j = i
          · subst hji
            simp only [upd, if_true]
            exact hv
          · have h5 : upd u (dstOf ops i) v (dstOf ops j) = u (dstOf ops j) := by
              unfold upd
              rw [if_neg (fun e => hne j hj (fun e => hji e.symm) e.symm)]
            rw [h5]
            rw [getD_set_ne false (fun e => hji e.symm)] at hlj
            exact (nthM G j).mono X X' w w' _ hE' hXX (hG j hj hlj)
      by_cases hEr : ∃ e ∈ E, e ∈ Region.ready .any ops listed
      · obtain ⟨e, heE, her⟩ := hEr
        obtain ⟨o, ho', hst⟩ := he e heE
        have ho : ops[e]? = some o := by simpa using ho'
        obtain ⟨hun, o2, ho2, hwait⟩ := mem_ready.1 her
        rw [ho] at ho2
        cases ho2
        obtain ⟨v, hy, hput, hv⟩ := hst u w X fun j hj => by
          have hlj := hwl listed o j hwait hj
          have hjM : j ∈ M := by
            obtain ⟨o3, ho3, hfw, _⟩ := hM' e (hEM' e heE)
            rw [ho] at ho3
            cases ho3
            unfold waitsM at hj
            obtain ⟨e2, he2, hb⟩ := Array.any_eq_true'.1 hj
            simp only [Bool.and_eq_true, beq_iff_eq] at hb
            rw [← hb.2]
            exact (hfw e2 he2 hb.1).2
          exact hG j hjM hlj
        refine wpAny_first ho (Region.noSelect_spec hsel) (fun _ _ _ h => h) fuel listed _ w ?_ her hy ?_
        · intro j oj hoj hji hju hno
          have h1 := List.all_eq_true.1 hE e heE
          rw [ho] at h1
          have h2 := List.all_eq_true.1 h1 j (List.mem_range.2 (Array.getElem?_eq_some_iff.1 hoj).1)
          rw [hoj] at h2
          simp only [Bool.or_eq_true, beq_iff_eq] at h2
          rcases h2 with h2 | ((h2 | h2) | h2)
          · exact absurd h2 hji
          · unfold waitsM at h2
            obtain ⟨e2, he2, hb⟩ := Array.any_eq_true'.1 h2
            simp only [Bool.and_eq_true, beq_iff_eq] at hb
            exact absurd hb.2 (hno e2 he2 hb.1)
          · exfalso
            have h3 := hwl listed o j hwait h2
            rcases Nat.lt_or_ge j listed.size with hlt | hge
            · rw [getD_both hlt] at hju
              rw [hju] at h3
              cases h3
            · simp [Array.getD, Nat.not_lt.2 hge] at hju
          · exact h2
        · rw [hput]
          exact step e (hEM' e heE) hun v w X (Ext.refl _) ⟨fun _ hb => hb, fun b hb => .inl hb⟩ hX hv
      · refine ⟨fun hnil => ?_, fun i hi => ?_⟩
        · exfalso
          apply hall
          have key : ∀ n, ∀ i, i < n → i ∈ M → listed.getD i false = true := by
            intro n
            induction n with
            | zero => intro i hi; omega
            | succ n ihn =>
              intro i hin hi
              by_cases hl : listed.getD i false = true
              · exact hl
              · exfalso
                obtain ⟨o, ho, hfw, _⟩ := hM' i hi
                have hmem : i ∈ Region.ready .any ops listed := mem_ready.2 ⟨by rw [getD_both (by have := hMlt' i hi; omega)]; simpa using hl, o, ho, fun e he hb => ihn e.on (by have := (hfw e he hb).1; omega) (hfw e he hb).2⟩
                rw [hnil] at hmem
                cases hmem
          exact fun i hi => key (i + 1) i (by omega) hi
        · obtain ⟨hun, o, ho, hwait⟩ := mem_ready.1 hi
          have hilt : i < ops.size := (Array.getElem?_eq_some_iff.1 ho).1
          have hiM : i ∈ M := by
            by_cases hiM : i ∈ M
            · exact hiM
            · exfalso
              have hiT : i ∈ T := by
                have hc2 := List.all_eq_true.1 hcov i (List.mem_range.2 hilt)
                have h1 : M.contains i = false := by simpa using hiM
                rw [h1] at hc2
                have : T.contains i = true := by simpa using hc2
                simpa using this
              apply hall
              intro m hm
              rcases hTM i hiT o ho m hm with h | ⟨hmE, om, hom, hdeps⟩
              · exact hwl listed o m hwait h
              · by_cases hl : listed.getD m false = true
                · exact hl
                · exfalso
                  apply hEr
                  exact ⟨m, hmE, mem_ready.2 ⟨by rw [getD_both (by have := hMlt' m hm; omega)]; simpa using hl, om, hom, fun e he hb => hwl listed o e.on hwait (hdeps e he hb)⟩⟩
          obtain ⟨o2, ho2', hst⟩ := hs i hiM
          have ho2 : ops[i]? = some o2 := by simpa using ho2'
          rw [ho] at ho2
          cases ho2
          have key := hst u w X hE0 hX (fun j hj => by
            have hlj := hwl listed o j hwait hj
            have hjM : j ∈ M := by
              obtain ⟨o3, ho3, hfw, _⟩ := hM' i hiM
              rw [ho] at ho3
              cases ho3
              unfold waitsM at hj
              obtain ⟨e2, he2, hb⟩ := Array.any_eq_true'.1 hj
              simp only [Bool.and_eq_true, beq_iff_eq] at hb
              rw [← hb.2]
              exact (hfw e2 he2 hb.1).2
            exact hG j hjM hlj) (fun a' w' => wpAny P .any ops (OnlyN R) fuel (listed.setIfInBounds i true) a' w') (by
              intro a' w' v X' ha hE' hXX hX' hv
              subst ha
              exact step i hiM hun v w' X' hE' hXX hX' hv)
          unfold wpOp
          rw [ho]
          unfold wpList at key
          show if Region.wanted o (yielded ops (A u)) = true then _ else _
          split
          · rename_i hw
            have key2 : Region.wanted o (yielded ops (⟨A u, df⟩ : Act).tmps) = true := hw
            rw [if_pos key2] at key
            refine key.imp (fun h3 => ?_) id
            exact Oper.wp_mono (fun a' w' h4 => h4) (upon_then (K := fun a' w' => wpAny P .any ops (OnlyN R) fuel (listed.setIfInBounds i true) a' w') _ h3)
          · rename_i hw
            have key2 : ¬ Region.wanted o (yielded ops (⟨A u, df⟩ : Act).tmps) = true := hw
            rw [if_neg key2] at key
            exact key

/-- THE RULE. -/
theorem wp_region_y {id : Nat} {t : Array Value} {df : List Deferred} {w : World} (G : List MProp) (M E T D : List Nat) (l : List Oper) (hm : P.follows .mixedOrders = true) (hok : yOk ops M E T = true) (hD : M.map (dstOf ops) = D)
    (hl : (T.map fun t => ops.toList[t]?) = l.map some)
    (hs : ∀ i ∈ M, StepO P ops (Q .normal) t D df w.drew G i)
    (he : ∀ i ∈ E, StepP P ops t D df G i)
    (hq : ∀ u w' X, Ext w.drew w' → XIn X w.drew w' → (∀ i ∈ M, (nthM G i).p X w' (u (dstOf ops i))) → wpList P ops (OnlyN (Q .normal)) l ⟨overlay t u D, df⟩ w') : (Code.region id ops true).wp P Q ⟨t, df⟩ w := by
  have hsz : M.length + T.length ≤ ops.size := by
    have h := hok
    unfold yOk at h
    simp only [Bool.and_eq_true, decide_eq_true_eq] at h
    exact h.1.1.1.1.1.1.1.1
  have hEM : ∀ i ∈ E, i ∈ M := fun i hi => by
    have h := hok
    unfold yOk at h
    simp only [Bool.and_eq_true] at h
    simpa using List.all_eq_true.1 h.1.1.1.1.2 i hi
  have hdM : ∀ i ∈ M, dstOf ops i ∈ D := fun i hi => by rw [← hD]; exact List.mem_map_of_mem hi
  have hsome : ∀ i ∈ M, ∀ o, ops[i]? = some o → o.dst = some (dstOf ops i) := fun i hi o ho => by
    have h := hok
    unfold yOk at h
    simp only [Bool.and_eq_true] at h
    have h1 := List.all_eq_true.1 h.1.1.1.2 i hi
    rw [ho] at h1
    simp only [Bool.and_eq_true] at h1
    obtain ⟨d, hd⟩ := Option.isSome_iff_exists.1 h1.1.1
    rw [hd]
    simp [dstOf, ho, hd]
  have h1 : wpAny P .any ops (OnlyN (Q .normal)) ops.size (Array.replicate ops.size false) ⟨overlay t (fun i => t.getD i undef) D, df⟩ w.drew :=
    wpAnyY (fun u => overlay t u D) df w.drew G M E T l hl hok (fun i hi => by
      obtain ⟨o, d, ho, rfl, h⟩ := hs i hi
      refine ⟨o, ho, fun u w' X e1 e2 e3 K hK => h u w' X e1 e2 e3 K fun v w2 X' f1 f2 f3 f4 => hK _ w2 v X' ?_ f1 f2 f3 f4⟩
      rw [overlay_upd _ _ _ _ _ (hdM i hi)]) (fun i hi => by
      obtain ⟨o, ho, h⟩ := he i hi
      refine ⟨o, ho, fun u w' X e1 => ?_⟩
      obtain ⟨v, hv, hg⟩ := h u w' X e1
      refine ⟨v, hv, ?_, hg⟩
      rw [hsome i (hEM i hi) o (by simpa using ho)]
      show (⟨(overlay t u D).setIfInBounds (dstOf ops i) v, df⟩ : Act) = _
      rw [overlay_upd _ _ _ _ _ (hdM i (hEM i hi))]) hq _ _ _ w.drew (fun _ => False) (by simp) (by
      have := List.length_filter_le (fun i => !(Array.replicate ops.size false).getD i true) M
      omega) (fun t ht => by
      have hT : t < ops.size := by
        have h3 : ops.toList[t]? ∈ (T.map fun t => ops.toList[t]?) := List.mem_map.2 ⟨t, ht, rfl⟩
        rw [hl] at h3
        obtain ⟨o, _, ho⟩ := List.mem_map.1 h3
        have := (List.getElem?_eq_some_iff.1 ho.symm).1
        simpa using this
      simp [Array.getD, hT]) (Ext.refl _) (fun b hb => hb.elim) (fun i hi hl => by
      rcases Nat.lt_or_ge i ops.size with h | h
      · simp [Array.getD, h] at hl
      · simp [Array.getD] at hl)
  rw [overlay_start] at h1
  have h2 : (Code.region id ops true).wp P (OnlyN (Q .normal)) ⟨t, df⟩ w := wp_region_any hm h1
  exact Code.wp_mono (fun e a w q => by cases e <;> first | exact q | exact q.elim) h2

theorem wp_region_y2 {id : Nat} {t : Array Value} {df : List Deferred} {w : World} (G : List MProp) (M E D : List Nat) (i1 i2 : Nat) {o1 o2 : Oper} (hm : P.follows .mixedOrders = true) (hok : yOk ops M E [i1, i2] = true) (hD : M.map (dstOf ops) = D) (h1 : ops.toList[i1]? = some o1) (h2 : ops.toList[i2]? = some o2)
    (hs : ∀ i ∈ M, StepO P ops (Q .normal) t D df w.drew G i) (he : ∀ i ∈ E, StepP P ops t D df G i)
    (hq : ∀ u w' X, Ext w.drew w' → XIn X w.drew w' → (∀ i ∈ M, (nthM G i).p X w' (u (dstOf ops i))) → wpList P ops (OnlyN (Q .normal)) [o1, o2] ⟨overlay t u D, df⟩ w') : (Code.region id ops true).wp P Q ⟨t, df⟩ w :=
  wp_region_y G M E [i1, i2] D [o1, o2] hm hok hD (by simp only [List.map_cons, List.map_nil, h1, h2]) hs he hq
end
end Go.Proofs.Ytgkemmdghmklfaa
