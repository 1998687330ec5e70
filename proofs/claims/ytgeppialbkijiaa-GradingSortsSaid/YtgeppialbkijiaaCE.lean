/-
  FOR REGIONS WITH A CHAIN: a box apart from the region's own blocks; a struct value around the chain's row.
-/
import Derived.Test.YtgeppialbkijiaaRegZ
import Derived.Test.YtgeppialbkijiaaChain
import Derived.Test.YtgeppialbkijiaaMkB
namespace Go.Proofs.Ytgeppialbkijiaa
set_option linter.unusedSimpArgs false
set_option linter.unusedVariables false
section
variable {P : Program} {ops : Array Oper} {Q : Exit → Act → World → Prop}

/-- As xOk, but a late operation need not be apart from those that it waits for. -/
def eOk (ops : Array Oper) (M E T : List Nat) : Bool :=
  decide (M.length + T.length ≤ ops.size) && Region.noSelect ops && ((List.range ops.size).all fun i => M.contains i != T.contains i) && (M.all fun i => decide (i < ops.size)) && E.all (M.contains ·) &&
  (M.all fun i => match ops[i]? with
    | some o => o.dst.isSome && (o.after.all fun e => !Region.binds .any e || (decide (e.on < i) && M.contains e.on)) && M.all fun j => i == j || dstOf ops i != dstOf ops j
    | none => false) &&
  (E.all fun i => match ops[i]? with
    | some oi => (List.range ops.size).all fun j => j == i || waitsM oi j || match ops[j]? with
      | some oj => waitsM oj i || oi.apart ops oj
      | none => true
    | none => false) &&
  (T.all fun t => match ops[t]? with
    | some ot => M.all fun m => waitsM ot m || (E.contains m && match ops[m]? with
      | some om => om.after.all fun e => !Region.binds .any e || waitsM ot e.on
      | none => false)
    | none => false) &&
  gTail .any ops T ((List.range ops.size).map fun i => M.contains i).toArray
/-- The pure ones wait for the chain's last, and for it alone. -/
def lateZ (ops : Array Oper) (M C E : List Nat) : Bool :=
  (E.all fun p => match ops[p]? with
    | some o => waitsM o (C.getD (C.length - 1) 0) && (o.after.all fun e => !Region.binds .any e || e.on == C.getD (C.length - 1) 0)
    | none => false) &&
  decide (0 < C.length) && ((M ++ C).all fun m => !E.contains m) && decide E.Nodup

theorem wpAnyE {R : Act → World → Prop} (A : (Nat → Value) → Array Value) (df : List Deferred) (w0 : World) (G : List MProp) (M C E T : List Nat) (l : List Oper) (hl : (T.map fun t => ops.toList[t]?) = l.map some) (hok : eOk ops (M ++ C ++ E) E T = true) (hch : chainZ ops M C = true) (hlz : lateZ ops M C E = true)
    (hs : ∀ i ∈ M, ∃ o, ops.toList[i]? = some o ∧ StepX P ops R A df w0 G i o) (hzs : ∀ i ∈ M, ZSt (nthM G i))
    (hcs : ∀ i ∈ C, ∃ o, ops.toList[i]? = some o ∧ StepC P ops R A df w0 G i o)
    (hes : ∀ i ∈ E, ∃ o, ops.toList[i]? = some o ∧ ∀ (u : Nat → Value) (w : World) (X : Nat → Prop), (nthM G (C.getD (C.length - 1) 0)).p X w (u (dstOf ops (C.getD (C.length - 1) 0))) → ∃ v, Yields P ops o v ⟨A u, df⟩ ∧ (⟨A (upd u (dstOf ops i) v), df⟩ : Act) = Act.put ⟨A u, df⟩ o.dst v ∧ (nthM G i).p X w v)
    (hq : ∀ u w X, Ext w0 w → XIn X w0 w → (∀ i ∈ M, (nthM G i).p X w (u (dstOf ops i))) → (∀ i ∈ E, (nthM G i).p X w (u (dstOf ops i))) → (∀ x, x + 1 = C.length → (nthM G (C.getD x 0)).p X w (u (dstOf ops (C.getD x 0)))) → wpList P ops (OnlyN R) l ⟨A u, df⟩ w) :
    ∀ (fuel : Nat) (listed : Array Bool) (u : Nat → Value) (w : World) (X : Nat → Prop) (n : Nat), listed.size = ops.size → ((M ++ C ++ E).filter fun i => !listed.getD i true).length + T.length ≤ fuel → (∀ t ∈ T, listed.getD t true = false) →
      (∀ p ∈ E, listed.getD p false = decide (n = C.length)) → (n = C.length → ∀ p ∈ E, (nthM G p).p X w (u (dstOf ops p))) → Ext w0 w → XIn X w0 w → (∀ i ∈ M, listed.getD i false = true → (nthM G i).p X w (u (dstOf ops i))) → (∀ x, x < C.length → listed.getD (C.getD x 0) false = decide (x < n)) → n ≤ C.length → (∀ x, x + 1 = n → (nthM G (C.getD x 0)).p X w (u (dstOf ops (C.getD x 0)))) →
      wpAny P .any ops (OnlyN R) fuel listed ⟨A u, df⟩ w := by
  unfold eOk at hok
  simp only [Bool.and_eq_true] at hok
  obtain ⟨⟨⟨⟨⟨⟨⟨⟨_, hsel⟩, hcov⟩, hMlt⟩, _⟩, hM⟩, hEa⟩, hT⟩, hgT⟩ := hok
  unfold lateZ at hlz
  simp only [Bool.and_eq_true, decide_eq_true_eq] at hlz
  obtain ⟨⟨⟨hlE, hC0⟩, hdis⟩, hnd⟩ := hlz
  unfold chainZ at hch
  simp only [Bool.and_eq_true] at hch
  obtain ⟨⟨hMd, hCd⟩, hCn⟩ := hch
  have hMlt' : ∀ i ∈ M ++ C ++ E, i < ops.size := fun i hi => by simpa using List.all_eq_true.1 hMlt i hi
  have hM' : ∀ i ∈ M ++ C ++ E, ∃ o, ops[i]? = some o ∧ (∀ e ∈ o.after, Region.binds .any e = true → e.on < i ∧ e.on ∈ M ++ C ++ E) ∧ ∀ j ∈ M ++ C ++ E, i ≠ j → dstOf ops i ≠ dstOf ops j := by
    intro i hi
    have h1 := List.all_eq_true.1 hM i hi
    cases h2 : ops[i]? with
    | none => rw [h2] at h1; cases h1
    | some o =>
      rw [h2] at h1
      simp only [Bool.and_eq_true, List.all_eq_true, Array.all_eq_true_iff_forall_mem, Bool.or_eq_true, beq_iff_eq, bne_iff_ne] at h1
      refine ⟨o, rfl, fun e he hb => ?_, fun j hj hne => (h1.2 j hj).resolve_left hne⟩
      have h3 := (h1.1.2 e he).resolve_left (by simp [hb])
      simpa using h3
  have hMd' : ∀ i ∈ M, ∀ o, ops[i]? = some o → ∀ j, waitsM o j = true → j ∈ M := by
    intro i hi o ho j hj
    have h1 := List.all_eq_true.1 hMd i hi
    rw [ho] at h1
    unfold waitsM at hj
    obtain ⟨e, he, hb⟩ := Array.any_eq_true'.1 hj
    simp only [Bool.and_eq_true, beq_iff_eq] at hb
    have := Array.all_eq_true_iff_forall_mem.1 h1 e he
    simp [hb.1] at this
    rw [← hb.2]; exact this
  have hCd' : ∀ x, x < C.length → ∃ o, ops[C.getD x 0]? = some o ∧ (∀ j, waitsM o j = true → j ∈ M ∨ (0 < x ∧ j = C.getD (x - 1) 0)) ∧ (x ≠ 0 → waitsM o (C.getD (x - 1) 0) = true) := by
    intro x hx
    have h1 := List.all_eq_true.1 hCd x (List.mem_range.2 hx)
    cases h2 : ops[C.getD x 0]? with
    | none => rw [h2] at h1; cases h1
    | some o =>
      rw [h2] at h1
      simp only [Bool.and_eq_true] at h1
      refine ⟨o, rfl, fun j hj => ?_, fun hx0 => ?_⟩
      · unfold waitsM at hj
        obtain ⟨e, he, hb⟩ := Array.any_eq_true'.1 hj
        simp only [Bool.and_eq_true, beq_iff_eq] at hb
        have := Array.all_eq_true_iff_forall_mem.1 h1.1 e he
        simp [hb.1] at this
        rw [← hb.2]
        exact this.imp id (fun h => by simpa using h)
      · have := h1.2
        simp [hx0] at this
        simpa using this
  have hCn' : ∀ x, x < C.length → C.getD x 0 ∉ M ∧ ∀ y, y < C.length → x ≠ y → C.getD x 0 ≠ C.getD y 0 := by
    intro x hx
    have h1 := List.all_eq_true.1 hCn x (List.mem_range.2 hx)
    simp only [Bool.and_eq_true] at h1
    refine ⟨by simpa using h1.1, fun y hy hne => ?_⟩
    have := List.all_eq_true.1 h1.2 y (List.mem_range.2 hy)
    simp only [Bool.or_eq_true, beq_iff_eq, bne_iff_ne] at this
    exact this.resolve_left hne
  have hCmem : ∀ x, x < C.length → C.getD x 0 ∈ C := fun x hx => by
    simp only [List.getD, List.getElem?_eq_getElem hx, Option.getD_some]
    exact List.getElem_mem hx
  have hEn : ∀ m ∈ M ++ C, m ∉ E := fun m hm => by
    have := List.all_eq_true.1 hdis m hm
    simpa using this
  have hin : ∀ m ∈ M ++ C, m ∈ M ++ C ++ E := fun m hm => List.mem_append.2 (.inl hm)
  have hinE : ∀ m ∈ E, m ∈ M ++ C ++ E := fun m hm => List.mem_append.2 (.inr hm)
  have hEw : ∀ p ∈ E, ∀ o, ops[p]? = some o → waitsM o (C.getD (C.length - 1) 0) = true ∧ ∀ e ∈ o.after, Region.binds .any e = true → e.on = C.getD (C.length - 1) 0 := by
    intro p hp o ho
    have h1 := List.all_eq_true.1 hlE p hp
    rw [ho] at h1
    simp only [Bool.and_eq_true] at h1
    refine ⟨h1.1, fun e he hb => ?_⟩
    have := Array.all_eq_true_iff_forall_mem.1 h1.2 e he
    simpa [hb] using this
  have hEap : ∀ p ∈ E, ∀ op, ops[p]? = some op → ∀ (j : Nat) (oj : Oper), ops[j]? = some oj → j ≠ p → waitsM op j = true ∨ waitsM oj p = true ∨ op.apart ops oj = true := by
    intro p hp op ho j oj hj hne
    have h1 := List.all_eq_true.1 hEa p hp
    rw [ho] at h1
    have h2 := List.all_eq_true.1 h1 j (List.mem_range.2 (Array.getElem?_eq_some_iff.1 hj).1)
    rw [hj] at h2
    simpa [hne, or_assoc] using h2
  have hTM : ∀ t ∈ T, ∀ ot, ops[t]? = some ot → ∀ m ∈ M ++ C, waitsM ot m = true := by
    intro t ht ot hot m hm
    have h1 := List.all_eq_true.1 hT t ht
    rw [hot] at h1
    have h2 := List.all_eq_true.1 h1 m (hin m hm)
    have h3 : E.contains m = false := by simpa using hEn m hm
    rw [h3] at h2
    simpa using h2
  have hwl : ∀ (listed : Array Bool) (o : Oper) (j : Nat), (∀ e ∈ o.after, Region.binds .any e = true → listed.getD e.on false = true) → waitsM o j = true → listed.getD j false = true := by
    intro listed o j hall hj
    unfold waitsM at hj
    obtain ⟨e, he, hb⟩ := Array.any_eq_true'.1 hj
    simp only [Bool.and_eq_true, beq_iff_eq] at hb
    rw [← hb.2]
    exact hall e he hb.1
  -- all listed
  have hfin : ∀ (fuel : Nat) (listed : Array Bool) (u : Nat → Value) (w : World) (X : Nat → Prop) (n : Nat), listed.size = ops.size → T.length ≤ fuel → (∀ t ∈ T, listed.getD t true = false) →
      (∀ p ∈ E, listed.getD p false = decide (n = C.length)) → (n = C.length → ∀ p ∈ E, (nthM G p).p X w (u (dstOf ops p))) → Ext w0 w → XIn X w0 w → (∀ i ∈ M, listed.getD i false = true → (nthM G i).p X w (u (dstOf ops i))) → (∀ x, x < C.length → listed.getD (C.getD x 0) false = decide (x < n)) → n ≤ C.length → (∀ x, x + 1 = n → (nthM G (C.getD x 0)).p X w (u (dstOf ops (C.getD x 0)))) →
      (∀ i ∈ M ++ C, listed.getD i false = true) → wpAny P .any ops (OnlyN R) fuel listed ⟨A u, df⟩ w := by
    intro fuel listed u w X n hsz hf hTu hEl hEG hE0 hX hG hCl hn hGC hall0
    have hnC : n = C.length := by
      have h1 := hCl (C.length - 1) (by omega)
      rw [hall0 _ (List.mem_append.2 (.inr (hCmem _ (by omega))))] at h1
      have : C.length - 1 < n := by simpa using h1.symm
      omega
    have hall : ∀ i ∈ M ++ C ++ E, listed.getD i false = true := fun i hi => by
      rcases List.mem_append.1 hi with h | h
      · exact hall0 i h
      · rw [hEl i h]; simpa using hnC
    have hlist : listed = ((List.range ops.size).map fun i => (M ++ C ++ E).contains i).toArray := by
      apply Array.ext
      · simp [hsz]
      · intro i h1 h2
        have hi : i < ops.size := by omega
        simp only [List.getElem_toArray, List.getElem_map, List.getElem_range]
        have hc := List.all_eq_true.1 hcov i (List.mem_range.2 hi)
        have e1 : listed.getD i false = listed[i] := by simp [Array.getD, h1]
        have e2 : listed.getD i true = listed[i] := by simp [Array.getD, h1]
        cases hm : (M ++ C ++ E).contains i with
        | true =>
          rw [← e1]
          exact hall i (by simpa using hm)
        | false =>
          rw [hm] at hc
          have ht : i ∈ T := by
            have : T.contains i = true := by simpa using hc
            simpa using this
          rw [← e2]
          exact hTu i ht
    refine wpAny_tailX T l fuel listed _ w hf (by rw [hlist]; exact hgT) hl (hq u w X hE0 hX (fun i hi => hG i hi (hall i (by simp [hi]))) (hEG hnC) fun x hx => hGC x ?_)
    omega
  have take : ∀ (Er : List Nat) (f : Nat) (lst : Array Bool) (u : Nat → Value) (w : World) (X : Nat → Prop), (∀ p ∈ Er, p ∈ E) → Er.Nodup → lst.size = ops.size → (∀ p ∈ Er, lst.getD p true = false) → lst.getD (C.getD (C.length - 1) 0) false = true →
      (nthM G (C.getD (C.length - 1) 0)).p X w (u (dstOf ops (C.getD (C.length - 1) 0))) →
      (∀ u', (∀ j ∈ M ++ C ++ E, j ∉ Er → u' (dstOf ops j) = u (dstOf ops j)) → (∀ p ∈ Er, (nthM G p).p X w (u' (dstOf ops p))) → wpAny P .any ops (OnlyN R) f (Er.foldl (fun l p => l.setIfInBounds p true) lst) ⟨A u', df⟩ w) →
      wpAny P .any ops (OnlyN R) (f + Er.length) lst ⟨A u, df⟩ w := by
    intro Er
    induction Er with
    | nil => intro f lst u w X _ _ _ _ _ _ h; exact h u (fun _ _ _ => rfl) (fun p hp => by cases hp)
    | cons p r ihr =>
      intro f lst u w X hsub hnd hsz hun hlast hG0 h
      have hpE := hsub p (by simp)
      obtain ⟨o, ho', hst⟩ := hes p hpE
      have ho : ops[p]? = some o := by simpa using ho'
      obtain ⟨v, hy, hput, hv⟩ := hst u w X hG0
      have hplt : p < ops.size := (Array.getElem?_eq_some_iff.1 ho).1
      have hrd : p ∈ Region.ready .any ops lst := mem_ready.2 ⟨hun p (by simp), o, ho, fun e he hb => by rw [(hEw p hpE o ho).2 e he hb]; exact hlast⟩
      have hlm : C.getD (C.length - 1) 0 ∈ M ++ C := List.mem_append.2 (.inr (hCmem _ (by omega)))
      have hpl : p ≠ C.getD (C.length - 1) 0 := fun e => hEn _ hlm (by rw [← e]; exact hpE)
      have hoth : ∀ j ∈ M ++ C ++ E, j ≠ p → upd u (dstOf ops p) v (dstOf ops j) = u (dstOf ops j) := by
        intro j hj hne
        obtain ⟨_, _, _, hd⟩ := hM' p (hinE p hpE)
        unfold upd
        rw [if_neg (fun e => hd j hj (fun e => hne e.symm) e.symm)]
      show wpAny P .any ops (OnlyN R) (f + r.length + 1) lst ⟨A u, df⟩ w
      refine wpAny_first ho (Region.noSelect_spec hsel) (fun _ _ _ h => h) (f + r.length) lst _ w ?_ hrd hy ?_
      · intro j oj hj hne hjun hno
        rcases hEap p hpE o ho j oj hj hne with h1 | h1 | h1
        · exfalso
          unfold waitsM at h1
          obtain ⟨e, he, hb⟩ := Array.any_eq_true'.1 h1
          simp only [Bool.and_eq_true, beq_iff_eq] at hb
          have h8 := (hEw p hpE o ho).2 e he hb.1
          rw [hb.2] at h8
          rw [h8, getD_both (by rw [hsz]; exact hMlt' _ (hin _ hlm)), hlast] at hjun
          cases hjun
        · exfalso
          unfold waitsM at h1
          obtain ⟨e, he, hb⟩ := Array.any_eq_true'.1 h1
          simp only [Bool.and_eq_true, beq_iff_eq] at hb
          exact hno e he hb.1 hb.2
        · exact h1
      rw [← hput]
      have hnd' := List.nodup_cons.1 hnd
      refine ihr f (lst.setIfInBounds p true) _ w X (fun q hq => hsub q (by simp [hq])) hnd'.2 (by simp [hsz]) (fun q hq => ?_) ?_ ?_ fun u' h1 h2 => ?_
      · have hqp : p ≠ q := fun e => hnd'.1 (by rw [e]; exact hq)
        rw [getD_set_ne true hqp]
        exact hun q (by simp [hq])
      · rw [getD_set_ne false hpl]; exact hlast
      · rw [hoth _ (hin _ hlm) hpl.symm]; exact hG0
      · refine h u' (fun j hj hjn => ?_) (fun q hq => ?_)
        · have hjp : j ≠ p := fun e => hjn (by simp [e])
          rw [h1 j hj (fun hm => hjn (by simp [hm])), hoth j hj hjp]
        · rcases List.mem_cons.1 hq with rfl | hq
          · rw [h1 q (hinE q hpE) hnd'.1]
            simp only [upd, if_true]
            exact hv
          · exact h2 q hq
  have fold_get : ∀ (Er : List Nat) (lst : Array Bool) (j : Nat) (d : Bool), j ∉ Er → (Er.foldl (fun l p => l.setIfInBounds p true) lst).getD j d = lst.getD j d := by
    intro Er
    induction Er with
    | nil => intro lst j d _; rfl
    | cons p r ihr =>
      intro lst j d hj
      rw [List.foldl_cons, ihr _ _ _ (fun h => hj (by simp [h])), getD_set_ne d (fun e => hj (by simp [e]))]
  have fold_size : ∀ (Er : List Nat) (lst : Array Bool), (Er.foldl (fun l p => l.setIfInBounds p true) lst).size = lst.size := by
    intro Er
    induction Er with
    | nil => intro lst; rfl
    | cons p r ihr => intro lst; rw [List.foldl_cons, ihr]; simp
  have fold_in : ∀ (Er : List Nat) (lst : Array Bool) (j : Nat), j ∈ Er → j < lst.size → ∀ d, (Er.foldl (fun l p => l.setIfInBounds p true) lst).getD j d = true := by
    intro Er
    induction Er with
    | nil => intro lst j hj; cases hj
    | cons p r ihr =>
      intro lst j hj hlt d
      rw [List.foldl_cons]
      by_cases hr : j ∈ r
      · exact ihr _ j hr (by simpa using hlt) d
      · rcases List.mem_cons.1 hj with rfl | hj
        · rw [fold_get _ _ _ _ hr]
          simp [Array.getD, hlt]
        · exact absurd hj hr
  suffices H : ∀ (N fuel : Nat), fuel ≤ N → ∀ (listed : Array Bool) (u : Nat → Value) (w : World) (X : Nat → Prop) (n : Nat), listed.size = ops.size → ((M ++ C ++ E).filter fun i => !listed.getD i true).length + T.length ≤ fuel → (∀ t ∈ T, listed.getD t true = false) →
      (∀ p ∈ E, listed.getD p false = decide (n = C.length)) → (n = C.length → ∀ p ∈ E, (nthM G p).p X w (u (dstOf ops p))) → Ext w0 w → XIn X w0 w → (∀ i ∈ M, listed.getD i false = true → (nthM G i).p X w (u (dstOf ops i))) → (∀ x, x < C.length → listed.getD (C.getD x 0) false = decide (x < n)) → n ≤ C.length → (∀ x, x + 1 = n → (nthM G (C.getD x 0)).p X w (u (dstOf ops (C.getD x 0)))) →
      wpAny P .any ops (OnlyN R) fuel listed ⟨A u, df⟩ w from fun fuel => H fuel fuel (Nat.le_refl _)
  have zero : ∀ (listed : Array Bool) (u : Nat → Value) (w : World) (X : Nat → Prop) (n : Nat), listed.size = ops.size → ((M ++ C ++ E).filter fun i => !listed.getD i true).length + T.length ≤ 0 → (∀ t ∈ T, listed.getD t true = false) →
      (∀ p ∈ E, listed.getD p false = decide (n = C.length)) → (n = C.length → ∀ p ∈ E, (nthM G p).p X w (u (dstOf ops p))) → Ext w0 w → XIn X w0 w → (∀ i ∈ M, listed.getD i false = true → (nthM G i).p X w (u (dstOf ops i))) → (∀ x, x < C.length → listed.getD (C.getD x 0) false = decide (x < n)) → n ≤ C.length → (∀ x, x + 1 = n → (nthM G (C.getD x 0)).p X w (u (dstOf ops (C.getD x 0)))) →
      wpAny P .any ops (OnlyN R) 0 listed ⟨A u, df⟩ w := by
    intro listed u w X n hsz hc hTu hEl hEG hE0 hX hG hCl hn hGC
    refine hfin 0 listed u w X n hsz (by omega) hTu hEl hEG hE0 hX hG hCl hn hGC fun i hi0 => ?_
    have hi := hin i hi0
    have h0 : ((M ++ C ++ E).filter fun i => !listed.getD i true) = [] := List.eq_nil_of_length_eq_zero (by omega)
    have h1 : ¬ (!listed.getD i true) = true := fun h => by
      have : i ∈ ((M ++ C ++ E).filter fun i => !listed.getD i true) := List.mem_filter.2 ⟨hi, h⟩
      rw [h0] at this; cases this
    rw [← getD_both (by have := hMlt' i hi; omega)]
    simpa using h1
  intro N
  induction N with
  | zero =>
    intro fuel hfN
    obtain rfl : fuel = 0 := by omega
    exact zero
  | succ N ihN =>
    intro fuel hfN
    cases fuel with
    | zero => exact zero
    | succ fuel =>
    have ih := ihN fuel (by omega)
    intro listed u w X n hsz hc hTu hEl hEG hE0 hX hG hCl hn hGC
    by_cases hall : ∀ i ∈ M ++ C, listed.getD i false = true
    · exact hfin _ listed u w X n hsz (by omega) hTu hEl hEG hE0 hX hG hCl hn hGC hall
    · have stepA : ∀ i ∈ M ++ C, listed.getD i true = false → ((M ++ C ++ E).filter fun k => !(listed.setIfInBounds i true).getD k true).length + T.length ≤ fuel ∧ (∀ t ∈ T, (listed.setIfInBounds i true).getD t true = false) ∧ i < ops.size := by
        intro i hi0 hun
        have hi := hin i hi0
        have hilt := hMlt' i hi
        refine ⟨?_, ?_, hilt⟩
        · have := filter_lt (p := fun k => !listed.getD k true) (q := fun k => !(listed.setIfInBounds i true).getD k true) (i := i) (by simp only [hun]; rfl) (by simp [Array.getD, hsz, hilt]) (fun k hk => by
            by_cases hki : k = i
            · subst hki; simp only [hun]; rfl
            · rw [getD_set_ne true (fun e => hki e.symm)] at hk; exact hk) _ hi
          omega
        · intro t ht
          have hti : i ≠ t := by
            rintro rfl
            have hc2 := List.all_eq_true.1 hcov i (List.mem_range.2 hilt)
            have h1 : (M ++ C ++ E).contains i = true := by simpa using hi
            have h2 : T.contains i = true := by simpa using ht
            rw [h1, h2] at hc2
            cases hc2
          rw [getD_set_ne true hti]
          exact hTu t ht
      have other : ∀ i ∈ M ++ C ++ E, ∀ j ∈ M ++ C ++ E, j ≠ i → ∀ v, upd u (dstOf ops i) v (dstOf ops j) = u (dstOf ops j) := by
        intro i hi j hj hne v
        obtain ⟨o, ho, _, hd⟩ := hM' i hi
        unfold upd
        rw [if_neg (fun e => hd j hj (fun e => hne e.symm) e.symm)]
      refine ⟨fun hnil => ?_, fun i hi => ?_⟩
      · exfalso
        apply hall
        have key : ∀ n, ∀ i, i < n → i ∈ M ++ C ++ E → listed.getD i false = true := by
          intro n
          induction n with
          | zero => intro i hi; omega
          | succ n ihn =>
            intro i hin hi
            by_cases hl : listed.getD i false = true
            · exact hl
            · exfalso
              obtain ⟨o, ho, hfw, _⟩ := hM' i hi
              have hmem : i ∈ Region.ready .any ops listed := mem_ready.2 ⟨by rw [getD_both (by have := hMlt' i hi; omega)]; simpa using hl, o, ho, fun e he hb => ihn e.on (by have := (hfw e he hb).1; omega) (hfw e he hb).2⟩
              rw [hnil] at hmem
              cases hmem
        exact fun i hi => key (i + 1) i (by omega) (hin i hi)
      · obtain ⟨hun, o, ho, hwait⟩ := mem_ready.1 hi
        have hilt : i < ops.size := (Array.getElem?_eq_some_iff.1 ho).1
        have hiM : i ∈ M ++ C := by
          by_cases hiM : i ∈ M ++ C
          · exact hiM
          · exfalso
            have hiE : i ∉ E := fun hiE => by
              have h1 := hwl listed o _ hwait (hEw i hiE o ho).1
              have h2 := hCl (C.length - 1) (by omega)
              rw [h1] at h2
              have h3 : C.length - 1 < n := by simpa using h2.symm
              have h4 := hEl i hiE
              rw [show n = C.length by omega, ← getD_both (by omega), hun] at h4
              simp at h4
            have hiT : i ∈ T := by
              have hc2 := List.all_eq_true.1 hcov i (List.mem_range.2 hilt)
              have h1 : (M ++ C ++ E).contains i = false := by
                have : i ∉ M ++ C ++ E := fun h => by
                  rcases List.mem_append.1 h with h | h
                  · exact hiM h
                  · exact hiE h
                simpa using this
              rw [h1] at hc2
              have : T.contains i = true := by simpa using hc2
              simpa using this
            apply hall
            intro m hm
            exact hwl listed o m hwait (hTM i hiT o ho m hm)
        obtain ⟨sA1, sA2, sA3⟩ := stepA i hiM hun
        have hunf : listed.getD i false = false := by rw [← getD_both (by omega)]; exact hun
        have fin : wpList P ops (Exit.then (fun a' w' => wpAny P .any ops (OnlyN R) fuel (listed.setIfInBounds i true) a' w') (OnlyN R)) [o] ⟨A u, df⟩ w := by
          rcases List.mem_append.1 hiM with hm | hm
          · -- one of M
            obtain ⟨o2, ho2', hst⟩ := hs i hm
            have ho2 : ops[i]? = some o2 := by simpa using ho2'
            rw [ho] at ho2
            cases ho2
            have hiC : ∀ x, x < C.length → C.getD x 0 ≠ i := fun x hx e => (hCn' x hx).1 (by rw [e]; exact hm)
            refine hst u w X hE0 hX (fun j hj => hG j (hMd' i hm o ho j hj) (hwl listed o j hwait hj)) _ ?_
            intro a' w' v X' ha hE' hXX hX' hv
            subst ha
            have hiEn := hEn i hiM
            refine ih _ _ _ X' n (by simp [hsz]) sA1 sA2 (fun p hp => by rw [getD_set_ne false (fun e => hiEn (by rw [e]; exact hp))]; exact hEl p hp) (fun hnC p hp => by
              rw [other i (hin i hiM) p (hinE p hp) (fun e => hiEn (by rw [← e]; exact hp)) v]
              exact (nthM G p).mono X X' w w' _ hE' hXX (hEG hnC p hp)) (hE0.trans hE') hX' ?_ ?_ hn ?_
            · intro j hj hlj
              by_cases hji : j = i
              · subst hji
                simp only [upd, if_true]
                exact hv
              · rw [other i (hin i hiM) j (by simp [hj]) hji v]
                rw [getD_set_ne false (fun e => hji e.symm)] at hlj
                exact (nthM G j).mono X X' w w' _ hE' hXX (hG j hj hlj)
            · intro x hx
              rw [getD_set_ne false (fun e => hiC x hx e.symm)]
              exact hCl x hx
            · intro x hx
              rw [other i (hin i hiM) _ (hin _ (List.mem_append.2 (.inr (hCmem x (by omega))))) (hiC x (by omega)) v]
              exact (nthM G _).mono X X' w w' _ hE' hXX (hGC x hx)
          · -- the chain's next
            obtain ⟨x, hx, hxi⟩ := List.mem_iff_getElem.1 hm
            have hxi' : C.getD x 0 = i := by simp [List.getD, hx, hxi]
            obtain ⟨o2, ho2', hst⟩ := hcs i hm
            have ho2 : ops[i]? = some o2 := by simpa using ho2'
            rw [ho] at ho2
            cases ho2
            obtain ⟨o3, ho3, hd1, hd2⟩ := hCd' x hx
            rw [hxi', ho] at ho3
            cases ho3
            have hge : n ≤ x := by
              have := hCl x hx
              rw [hxi', hunf] at this
              have : ¬ x < n := by simpa using this.symm
              omega
            have hxn : x = n := by
              rcases Nat.eq_zero_or_pos x with h0 | h0
              · omega
              · have h1 := hwl listed o _ hwait (hd2 (by omega))
                have h2 := hCl (x - 1) (by omega)
                rw [h1] at h2
                have : x - 1 < n := by simpa using h2.symm
                omega
            subst hxn
            refine hst u w X hE0 hX (fun j hj => ?_) _ ?_
            · rcases hd1 j hj with h | ⟨h1, rfl⟩
              · exact hG j h (hwl listed o j hwait hj)
              · exact hGC (x - 1) (by omega)
            intro a' w' v X' ha hE' hC' hXX hX' hv
            subst ha
            have hiEn := hEn i hiM
            have hMf : ∀ j ∈ M, (listed.setIfInBounds i true).getD j false = true → (nthM G j).p X' w' (upd u (dstOf ops i) v (dstOf ops j)) := by
              intro j hj hlj
              have hji : j ≠ i := fun e => (hCn' x hx).1 (by rw [hxi', ← e]; exact hj)
              rw [other i (hin i hiM) j (by simp [hj]) hji v]
              rw [getD_set_ne false (fun e => hji e.symm)] at hlj
              exact hzs j hj X X' w w' _ hC' hXX (hG j hj hlj)
            have hCf : ∀ y, y < C.length → (listed.setIfInBounds i true).getD (C.getD y 0) false = decide (y < x + 1) := by
              intro y hy
              by_cases hyx : y = x
              · subst hyx
                rw [hxi']
                simp [Array.getD, hsz, hilt]
              · have hne : i ≠ C.getD y 0 := by rw [← hxi']; exact (hCn' x hx).2 y hy (fun e => hyx e.symm)
                rw [getD_set_ne false hne, hCl y hy]
                have : (y < x) ↔ (y < x + 1) := by omega
                simp only [this]
            by_cases hlastx : x + 1 = C.length
            · have hil : i = C.getD (C.length - 1) 0 := by rw [← hxi']; congr 1; omega
              have hEun : ∀ p ∈ E, (listed.setIfInBounds i true).getD p true = false := fun p hp => by
                rw [getD_set_ne true (fun e => hiEn (by rw [e]; exact hp)), getD_both (by rw [hsz]; exact hMlt' p (hinE p hp)), hEl p hp]
                simp; omega
              have hcnt : E.length + ((M ++ C).filter fun k => !(listed.setIfInBounds i true).getD k true).length + T.length ≤ fuel := by
                have h9 := sA1
                rw [List.filter_append, List.length_append] at h9
                have : (E.filter fun k => !(listed.setIfInBounds i true).getD k true) = E := List.filter_eq_self.2 fun p hp => by rw [hEun p hp]; rfl
                rw [this] at h9
                omega
              obtain ⟨f, hf⟩ : ∃ f, fuel = f + E.length := ⟨fuel - E.length, by omega⟩
              rw [hf]
              have hvl : (nthM G (C.getD (C.length - 1) 0)).p X' w' (upd u (dstOf ops i) v (dstOf ops (C.getD (C.length - 1) 0))) := by
                rw [← hil]
                simp only [upd, if_true]
                exact hv
              refine take E f _ _ w' X' (fun p hp => hp) hnd (by simp [hsz]) hEun (by rw [← hil]; simp [Array.getD, hsz, hilt]) hvl fun u' h1 h2 => ?_
              have hj1 : ∀ j ∈ M ++ C, u' (dstOf ops j) = upd u (dstOf ops i) v (dstOf ops j) := fun j hj => h1 j (hin j hj) (hEn j hj)
              refine ihN f (by omega) _ u' w' X' (x + 1) (by rw [fold_size]; simp [hsz]) ?_ ?_ ?_ (fun _ p hp => h2 p hp) hE' hX' ?_ ?_ (by omega) ?_
              · rw [List.filter_append, List.length_append]
                have e1 : (E.filter fun k => !(E.foldl (fun l p => l.setIfInBounds p true) (listed.setIfInBounds i true)).getD k true) = [] := List.filter_eq_nil_iff.2 fun p hp => by
                  rw [fold_in E _ p hp (by have := hMlt' p (hinE p hp); simp [hsz, this])]; simp
                have e2 : ((M ++ C).filter fun k => !(E.foldl (fun l p => l.setIfInBounds p true) (listed.setIfInBounds i true)).getD k true) = ((M ++ C).filter fun k => !(listed.setIfInBounds i true).getD k true) := List.filter_congr fun k hk => by
                  rw [fold_get E _ k true (hEn k hk)]
                rw [e1, e2]
                simp only [List.length_nil]; omega
              · intro t ht
                have htE : t ∉ E := fun hte => by
                  have hc2 := List.all_eq_true.1 hcov t (List.mem_range.2 (hMlt' t (hinE t hte)))
                  have h3 : (M ++ C ++ E).contains t = true := by simpa using hinE t hte
                  have h4 : T.contains t = true := by simpa using ht
                  rw [h3, h4] at hc2
                  cases hc2
                rw [fold_get E _ t true htE]
                exact sA2 t ht
              · intro p hp
                rw [fold_in E _ p hp (by have := hMlt' p (hinE p hp); simp [hsz, this])]
                simpa using hlastx
              · intro j hj hlj
                rw [hj1 j (by simp [hj])]
                rw [fold_get E _ j false (hEn j (by simp [hj]))] at hlj
                exact hMf j hj hlj
              · intro y hy
                rw [fold_get E _ _ false (hEn _ (List.mem_append.2 (.inr (hCmem y hy))))]
                exact hCf y hy
              · intro y hy
                obtain rfl : y = x := by omega
                rw [hj1 _ (List.mem_append.2 (.inr (hCmem y hx))), hxi']
                simp only [upd, if_true]
                exact hv
            refine ih _ _ _ X' (x + 1) (by simp [hsz]) sA1 sA2 (fun p hp => by
              rw [getD_set_ne false (fun e => hiEn (by rw [e]; exact hp)), hEl p hp]
              have h8 : ¬ x = C.length := by omega
              simp [h8, hlastx]) (fun h => absurd h hlastx) hE' hX' hMf hCf (by omega) ?_
            · intro y hy
              obtain rfl : y = x := by omega
              rw [hxi']
              simp only [upd, if_true]
              exact hv
        unfold wpOp
        rw [ho]
        unfold wpList at fin
        show if Region.wanted o (yielded ops (A u)) = true then _ else _
        split
        · rename_i hw
          have key2 : Region.wanted o (yielded ops (⟨A u, df⟩ : Act).tmps) = true := hw
          rw [if_pos key2] at fin
          refine fin.imp (fun h3 => ?_) id
          exact Oper.wp_mono (fun a' w' h4 => h4) (upon_then (K := fun a' w' => wpAny P .any ops (OnlyN R) fuel (listed.setIfInBounds i true) a' w') _ h3)
        · rename_i hw
          have key2 : ¬ Region.wanted o (yielded ops (⟨A u, df⟩ : Act).tmps) = true := hw
          rw [if_neg key2] at fin
          exact fin

/-- THE RULE. -/
theorem wp_region_e {id : Nat} {t : Array Value} {df : List Deferred} {w : World} (G : List MProp) (M C E T D : List Nat) (l : List Oper) (hm : P.follows .mixedOrders = true) (hok : eOk ops (M ++ C ++ E) E T = true) (hch : chainZ ops M C = true) (hlz : lateZ ops M C E = true) (hD : (M ++ C ++ E).map (dstOf ops) = D)
    (hl : (T.map fun t => ops.toList[t]?) = l.map some) (hzs : ∀ i ∈ M, ZSt (nthM G i))
    (hs : ∀ i ∈ M, StepO P ops (Q .normal) t D df w.drew G i)
    (hcs : ∀ i ∈ C, StepK P ops (Q .normal) t D df w.drew G i)
    (hes : ∀ i ∈ E, ∃ o d, ops.toList[i]? = some o ∧ o.dst = some d ∧ ∀ (u : Nat → Value) (w : World) (X : Nat → Prop), (nthM G (C.getD (C.length - 1) 0)).p X w (u (dstOf ops (C.getD (C.length - 1) 0))) → ∃ v, Yields P ops o v ⟨overlay t u D, df⟩ ∧ (nthM G i).p X w v)
    (hq : ∀ u w' X, Ext w.drew w' → XIn X w.drew w' → (∀ i ∈ M, (nthM G i).p X w' (u (dstOf ops i))) → (∀ i ∈ E, (nthM G i).p X w' (u (dstOf ops i))) → (∀ x, x + 1 = C.length → (nthM G (C.getD x 0)).p X w' (u (dstOf ops (C.getD x 0)))) → wpList P ops (OnlyN (Q .normal)) l ⟨overlay t u D, df⟩ w') : (Code.region id ops true).wp P Q ⟨t, df⟩ w := by
  have hsz : (M ++ C ++ E).length + T.length ≤ ops.size := by
    have h := hok
    unfold eOk at h
    simp only [Bool.and_eq_true, decide_eq_true_eq] at h
    exact h.1.1.1.1.1.1.1.1
  have hdM : ∀ i ∈ M ++ C ++ E, dstOf ops i ∈ D := fun i hi => by rw [← hD]; exact List.mem_map_of_mem hi
  have h1 : wpAny P .any ops (OnlyN (Q .normal)) ops.size (Array.replicate ops.size false) ⟨overlay t (fun i => t.getD i undef) D, df⟩ w.drew :=
    wpAnyE (fun u => overlay t u D) df w.drew G M C E T l hl hok hch hlz (fun i hi => by
      obtain ⟨o, d, ho, rfl, h⟩ := hs i hi
      refine ⟨o, ho, fun u w' X e1 e2 e3 K hK => h u w' X e1 e2 e3 K fun v w2 X' f1 f2 f3 f4 => hK _ w2 v X' ?_ f1 f2 f3 f4⟩
      rw [overlay_upd _ _ _ _ _ (hdM i (by simp [hi]))]) hzs (fun i hi => by
      obtain ⟨o, d, ho, rfl, h⟩ := hcs i hi
      refine ⟨o, ho, fun u w' X e1 e2 e3 K hK => h u w' X e1 e2 e3 K fun v w2 X' f0 f1 f2 f3 f4 => hK _ w2 v X' ?_ f0 f1 f2 f3 f4⟩
      rw [overlay_upd _ _ _ _ _ (hdM i (by simp [hi]))]) (fun i hi => by
      obtain ⟨o, d, ho, hd, h⟩ := hes i hi
      refine ⟨o, ho, fun u w' X h1 => ?_⟩
      obtain ⟨v, hy, hv⟩ := h u w' X h1
      refine ⟨v, hy, ?_, hv⟩
      have ho2 : ops[i]? = some o := by simpa using ho
      have hdd : dstOf ops i = d := by unfold dstOf; rw [ho2]; simp [hd]
      rw [hd]
      simp only [Act.put]
      rw [← hdd, overlay_upd _ _ _ _ _ (hdM i (by simp [hi]))]) hq _ _ _ w.drew (fun _ => False) 0 (by simp) (by
      have := List.length_filter_le (fun i => !(Array.replicate ops.size false).getD i true) (M ++ C ++ E)
      omega) (fun t ht => by
      have hT : t < ops.size := by
        have h3 : ops.toList[t]? ∈ (T.map fun t => ops.toList[t]?) := List.mem_map.2 ⟨t, ht, rfl⟩
        rw [hl] at h3
        obtain ⟨o, _, ho⟩ := List.mem_map.1 h3
        have := (List.getElem?_eq_some_iff.1 ho.symm).1
        simpa using this
      simp [Array.getD, hT]) (fun p hp => by
      have hC0 : 0 < C.length := by
        unfold lateZ at hlz
        simp only [Bool.and_eq_true, decide_eq_true_eq] at hlz
        exact hlz.1.1.2
      have h8 : ¬ 0 = C.length := by omega
      rcases Nat.lt_or_ge p ops.size with h | h <;> simp [Array.getD, h, h8]) (fun h8 => by
      have hC0 : 0 < C.length := by
        unfold lateZ at hlz
        simp only [Bool.and_eq_true, decide_eq_true_eq] at hlz
        exact hlz.1.1.2
      omega) (Ext.refl _) (fun b hb => hb.elim) (fun i hi hl => by
      rcases Nat.lt_or_ge i ops.size with h | h
      · simp [Array.getD, h] at hl
      · simp [Array.getD] at hl) (fun x hx => by
      rcases Nat.lt_or_ge (C.getD x 0) ops.size with h | h
      · simp [Array.getD]
      · simp [Array.getD]) (Nat.zero_le _) (fun x hx => by omega)
  rw [overlay_start] at h1
  have h2 : (Code.region id ops true).wp P (OnlyN (Q .normal)) ⟨t, df⟩ w := wp_region_any hm h1
  exact Code.wp_mono (fun e a w q => by cases e <;> first | exact q | exact q.elim) h2
theorem wp_region_e2 {id : Nat} {t : Array Value} {df : List Deferred} {w : World} (G : List MProp) (M C E D : List Nat) (i1 i2 : Nat) {o1 o2 : Oper} (hm : P.follows .mixedOrders = true) (hok : eOk ops (M ++ C ++ E) E [i1, i2] = true) (hch : chainZ ops M C = true) (hlz : lateZ ops M C E = true) (hD : (M ++ C ++ E).map (dstOf ops) = D) (h1 : ops.toList[i1]? = some o1) (h2 : ops.toList[i2]? = some o2)
    (hzs : ∀ i ∈ M, ZSt (nthM G i)) (hs : ∀ i ∈ M, StepO P ops (Q .normal) t D df w.drew G i) (hcs : ∀ i ∈ C, StepK P ops (Q .normal) t D df w.drew G i)
    (hes : ∀ i ∈ E, ∃ o d, ops.toList[i]? = some o ∧ o.dst = some d ∧ ∀ (u : Nat → Value) (w : World) (X : Nat → Prop), (nthM G (C.getD (C.length - 1) 0)).p X w (u (dstOf ops (C.getD (C.length - 1) 0))) → ∃ v, Yields P ops o v ⟨overlay t u D, df⟩ ∧ (nthM G i).p X w v)
    (hq : ∀ u w' X, Ext w.drew w' → XIn X w.drew w' → (∀ i ∈ M, (nthM G i).p X w' (u (dstOf ops i))) → (∀ i ∈ E, (nthM G i).p X w' (u (dstOf ops i))) → (∀ x, x + 1 = C.length → (nthM G (C.getD x 0)).p X w' (u (dstOf ops (C.getD x 0)))) → wpList P ops (OnlyN (Q .normal)) [o1, o2] ⟨overlay t u D, df⟩ w') : (Code.region id ops true).wp P Q ⟨t, df⟩ w :=
  wp_region_e G M C E [i1, i2] D [o1, o2] hm hok hch hlz hD (by simp only [List.map_cons, List.map_nil, h1, h2]) hzs hs hcs hes hq
end
end Go.Proofs.Ytgeppialbkijiaa

namespace Go.Proofs.Ytgeppialbkijiaa
set_option linter.unusedSimpArgs false
set_option linter.unusedVariables false
open Go.RowKit

/-- A new box that nothing of the region writes. -/
def MProp.boxo (B : Nat) : MProp := ⟨fun X w v => ∃ b, v = .pointer (some ⟨b, 0, none⟩) ∧ Box4 w b (.int .i64 0) (.slice none 0 0) (.slice none 0 0) (.slice none 0 0) ∧ B ≤ b ∧ ¬ X b, fun X X' w w' v e hX h => by
  obtain ⟨b, h1, h2, h3, h4⟩ := h
  refine ⟨b, h1, h2.ext e, h3, fun hx => ?_⟩
  rcases hX.2 b hx with h | h
  · exact h4 h
  · have := h2.lt; omega⟩
theorem zst_boxo (B : Nat) : ZSt (.boxo B) := fun X X' w w' v hc hx h => by
  obtain ⟨b, h1, h2, h3, h4⟩ := h
  refine ⟨b, h1, h2.kept (hc.2 b h2.lt h4), h3, fun hx' => ?_⟩
  have hlt := h2.lt
  rcases hx.2 b hx' with h | h
  · exact h4 h
  · omega
/-- A struct value whose shape is the chain's row. -/
def MProp.chainAgg (B : Nat) (k : Int) (l : List Int) : MProp := ⟨fun X w v => ∃ p c, v = .agg #[.int .i64 k, .slice p l.length c, .slice none 0 0, .slice none 0 0] ∧ ChainRow B X w (.slice p l.length c) l.length l, fun X X' w w' v e hX h => by
  obtain ⟨p, c, h1, h2⟩ := h
  exact ⟨p, c, h1, h2.mono e hX⟩⟩
/-- The chain's row is not the box. -/
theorem ChainRow.apart {B : Nat} {X : Nat → Prop} {w : World} {v : Value} {n b : Nat} {l : List Int} {c0 c1 c2 c3 : Value} (h : ChainRow B X w v n l) (hb : Box4 w b c0 c1 c2 c3) (hx : ¬ X b) : OwnI B (fun q => q = b) w v n l := by
  have h0 := h.own.1
  refine ⟨h0.1, h0.2.1, h0.2.2.1, fun g hg hgb => ?_, h0.2.2.2.2⟩
  subst hgb
  rcases h with ⟨rfl, rfl, g', rfl, hr, _, _⟩ | ⟨_, g', hg', hx'⟩
  · simp only [Value.ownBlock, Option.some.injEq] at hg
    subst hg
    unfold RowI at hr
    unfold Box4 at hb
    rw [hb] at hr
    simp at hr
  · rw [hg] at hg'
    cases hg'
    exact hx hx'
end Go.Proofs.Ytgeppialbkijiaa
