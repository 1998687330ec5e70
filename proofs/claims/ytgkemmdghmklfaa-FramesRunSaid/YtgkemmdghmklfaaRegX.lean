/-
  A REGION THAT DRAWS ITS ORDER: operations that only add to the world (M; each walked once, whatever comes before it), of which pure ones (E) may come late, and then a tail in one forced order (T). Behind M each temporary holds what its own operation says. Boxes that the region makes (X) are apart from what its temporaries read. No program in sight.
-/
import Derived.Test.YtgkemmdghmklfaaBase
import Derived.Test.YtgkemmdghmklfaaRegion
namespace Go.Proofs.Ytgkemmdghmklfaa
set_option linter.unusedSimpArgs false
set_option linter.unusedVariables false
section
variable {P : Program} {ops : Array Oper} {Q : Exit → Act → World → Prop}

/-- The temporaries with v at k. -/
def upd (u : Nat → Value) (k : Nat) (v : Value) : Nat → Value := fun i => if i = k then v else u i

/-- More boxes, all of them new. -/
def XGrow (X : Nat → Prop) (w : World) (X' : Nat → Prop) : Prop := (∀ b, X b → X' b) ∧ ∀ b, X' b → X b ∨ w.heap.size ≤ b

/-- What a value is in a world, X: the boxes that are kept apart; it stays so while the world only grows. -/
structure MProp where
  p : (Nat → Prop) → World → Value → Prop
  mono : ∀ (X X' : Nat → Prop) w w' v, Ext w w' → XGrow X w X' → p X w v → p X' w' v

def MProp.any : MProp := ⟨fun _ _ _ => True, fun _ _ _ _ _ _ _ _ => trivial⟩
/-- The value itself. -/
def MProp.is (x : Value) : MProp := ⟨fun _ _ v => v = x, fun _ _ _ _ _ _ _ h => h⟩

/-- An array that reads as the tree, apart from the boxes X. -/
def RdX (X : Nat → Prop) (w : World) (t : Arr) (v : Value) : Prop := ∃ (c0 c1 c2 c3 : Value), v = .agg #[c0, c1, c2, c3] ∧ ArrAt (fun b => b < w.heap.size ∧ ¬ X b) w t c0 c1 c2 c3
/-- An array that reads as the tree. -/
def Rd (w : World) (t : Arr) (v : Value) : Prop := ∃ (F : Nat → Prop) (c0 c1 c2 c3 : Value), v = .agg #[c0, c1, c2, c3] ∧ ArrAt F w t c0 c1 c2 c3

theorem RdX.mono {X X' : Nat → Prop} {w w' : World} {t : Arr} {v : Value} (h : RdX X w t v) (e : Ext w w') (hX : ∀ b, X' b → X b ∨ w.heap.size ≤ b) : RdX X' w' t v := by
  obtain ⟨c0, c1, c2, c3, h1, h2⟩ := h
  refine ⟨c0, c1, c2, c3, h1, ArrAt.mono (fun b hb hlt => ⟨⟨Nat.lt_of_lt_of_le hlt e.lt, fun hx => ?_⟩, e.block hlt⟩) _ _ _ _ _ h2⟩
  rcases hX b hx with h | h
  · exact hb.2 h
  · omega
theorem RdX.rd {X : Nat → Prop} {w : World} {t : Arr} {v : Value} (h : RdX X w t v) : Rd w t v := by
  obtain ⟨c0, c1, c2, c3, h1, h2⟩ := h
  exact ⟨_, c0, c1, c2, c3, h1, h2⟩
theorem Rd.ext {w w' : World} {t : Arr} {v : Value} (h : Rd w t v) (e : Ext w w') : Rd w' t v := by
  obtain ⟨F, c0, c1, c2, c3, h1, h2⟩ := h
  exact ⟨F, c0, c1, c2, c3, h1, h2.ext e⟩
theorem Rd.mk {F : Nat → Prop} {w : World} {t : Arr} {c0 c1 c2 c3 : Value} (h : ArrAt F w t c0 c1 c2 c3) : Rd w t (.agg #[c0, c1, c2, c3]) := ⟨F, c0, c1, c2, c3, rfl, h⟩
/-- What was there before the region is apart from its boxes. -/
theorem RdX.old {F X : Nat → Prop} {w0 w : World} {t : Arr} {c0 c1 c2 c3 : Value} (h : ArrAt F w0 t c0 c1 c2 c3) (e : Ext w0 w) (hX : ∀ b, X b → w0.heap.size ≤ b) : RdX X w t (.agg #[c0, c1, c2, c3]) :=
  ⟨c0, c1, c2, c3, rfl, ArrAt.mono (fun b hb hlt => ⟨⟨Nat.lt_of_lt_of_le hlt e.lt, fun hx => by have := hX b hx; omega⟩, e.block hlt⟩) _ _ _ _ _ h⟩
/-- What a call has made, out of new blocks and of what came in. -/
theorem RdX.new {F X : Nat → Prop} {w w' : World} {t : Arr} {c0 c1 c2 c3 : Value} (h : ArrAt F w' t c0 c1 c2 c3) (hF : ∀ b, F b → b < w'.heap.size → w.heap.size ≤ b ∨ ¬ X b) (hX : ∀ b, X b → b < w.heap.size) : RdX X w' t (.agg #[c0, c1, c2, c3]) :=
  ⟨c0, c1, c2, c3, rfl, ArrAt.mono (fun b hb hlt => ⟨⟨hlt, fun hx => by
    rcases hF b hb hlt with h | h
    · have := hX b hx; omega
    · exact h hx⟩, rfl⟩) _ _ _ _ _ h⟩

def MProp.rd (t : Arr) : MProp := ⟨fun X w v => RdX X w t v, fun _ _ _ _ _ e hX h => h.mono e hX.2⟩
/-- An array and a number. -/
def MProp.rd2 (t : Arr) (n : Int) : MProp := ⟨fun X w v => ∃ x, v = .tuple #[x, .int .i64 n] ∧ RdX X w t x, fun _ _ _ _ _ e hX h => by obtain ⟨x, h1, h2⟩ := h; exact ⟨x, h1, h2.mono e hX.2⟩⟩
/-- A list of numbers. -/
def RdIX (X : Nat → Prop) (w : World) (l : List Int) (v : Value) : Prop := ∃ (p : Option Addr) (c : Nat), v = .slice p l.length c ∧ SlOk l.length c ∧ IntsAt (fun b => b < w.heap.size ∧ ¬ X b) w p l
theorem RdIX.mono {X X' : Nat → Prop} {w w' : World} {l : List Int} {v : Value} (h : RdIX X w l v) (e : Ext w w') (hX : ∀ b, X' b → X b ∨ w.heap.size ≤ b) : RdIX X' w' l v := by
  obtain ⟨p, c, h1, h2, h3⟩ := h
  refine ⟨p, c, h1, h2, h3.mono fun b hb hlt => ⟨⟨Nat.lt_of_lt_of_le hlt e.lt, fun hx => ?_⟩, e.block hlt⟩⟩
  rcases hX b hx with h | h
  · exact hb.2 h
  · omega
theorem RdIX.old {F X : Nat → Prop} {w0 w : World} {l : List Int} {p : Option Addr} {c : Nat} (h : IntsAt F w0 p l) (hk : SlOk l.length c) (e : Ext w0 w) (hX : ∀ b, X b → w0.heap.size ≤ b) : RdIX X w l (.slice p l.length c) :=
  ⟨p, c, rfl, hk, h.mono fun b hb hlt => ⟨⟨Nat.lt_of_lt_of_le hlt e.lt, fun hx => by have := hX b hx; omega⟩, e.block hlt⟩⟩
theorem RdIX.new {F X : Nat → Prop} {w w' : World} {l : List Int} {p : Option Addr} {c : Nat} (h : IntsAt F w' p l) (hk : SlOk l.length c) (hF : ∀ b, F b → b < w'.heap.size → w.heap.size ≤ b ∨ ¬ X b) (hX : ∀ b, X b → b < w.heap.size) : RdIX X w' l (.slice p l.length c) :=
  ⟨p, c, rfl, hk, h.mono fun b hb hlt => ⟨⟨hlt, fun hx => by
    rcases hF b hb hlt with h | h
    · have := hX b hx; omega
    · exact h hx⟩, rfl⟩⟩
def MProp.rdi (l : List Int) : MProp := ⟨fun X w v => RdIX X w l v, fun _ _ _ _ _ e hX h => h.mono e hX.2⟩

def nthM (G : List MProp) (i : Nat) : MProp := G.getD i MProp.any
def dstOf (ops : Array Oper) (i : Nat) : Nat := ((ops[i]?).bind (·.dst)).getD 0
def waitsM (o : Oper) (j : Nat) : Bool := o.after.any fun e => Region.binds .any e && e.on == j

def xOk (ops : Array Oper) (M E T : List Nat) : Bool :=
  decide (M.length + T.length ≤ ops.size) && Region.noSelect ops && ((List.range ops.size).all fun i => M.contains i != T.contains i) && (M.all fun i => decide (i < ops.size)) && E.all (M.contains ·) &&
  (M.all fun i => match ops[i]? with
    | some o => o.dst.isSome && (o.after.all fun e => !Region.binds .any e || (decide (e.on < i) && M.contains e.on)) && M.all fun j => i == j || dstOf ops i != dstOf ops j
    | none => false) &&
  (E.all fun i => match ops[i]? with
    | some oi => (List.range ops.size).all fun j => j == i || match ops[j]? with
      | some oj => waitsM oj i || oi.apart ops oj
      | none => true
    | none => false) &&
  (T.all fun t => match ops[t]? with
    | some ot => M.all fun m => waitsM ot m || (E.contains m && match ops[m]? with
      | some om => om.after.all fun e => !Region.binds .any e || waitsM ot e.on
      | none => false)
    | none => false) &&
  gTail .any ops T ((List.range ops.size).map fun i => M.contains i).toArray

/-- The boxes X of a region that began at w0. -/
def XIn (X : Nat → Prop) (w0 w : World) : Prop := ∀ b, X b → w0.heap.size ≤ b ∧ b < w.heap.size

/-- One operation, whatever the temporaries hold, if those that it waits for hold what they say. -/
def StepX (P : Program) (ops : Array Oper) (R : Act → World → Prop) (A : (Nat → Value) → Array Value) (df : List Deferred) (w0 : World) (G : List MProp) (i : Nat) (o : Oper) : Prop :=
  ∀ (u : Nat → Value) (w : World) (X : Nat → Prop), Ext w0 w → XIn X w0 w → (∀ j, waitsM o j = true → (nthM G j).p X w (u (dstOf ops j))) →
    ∀ K : Act → World → Prop, (∀ a' w' v (X' : Nat → Prop), a' = ⟨A (upd u (dstOf ops i) v), df⟩ → Ext w w' → XGrow X w X' → XIn X' w0 w' → (nthM G i).p X' w' v → K a' w') →
      wpList P ops (Exit.then K (OnlyN R)) [o] ⟨A u, df⟩ w
/-- A pure one. -/
def StepE (P : Program) (ops : Array Oper) (A : (Nat → Value) → Array Value) (df : List Deferred) (G : List MProp) (i : Nat) (o : Oper) : Prop :=
  ∀ (u : Nat → Value) (w : World) (X : Nat → Prop), (∀ j, waitsM o j = true → (nthM G j).p X w (u (dstOf ops j))) →
    ∃ v, Yields P ops o v ⟨A u, df⟩ ∧ (⟨A u, df⟩ : Act).put o.dst v = ⟨A (upd u (dstOf ops i) v), df⟩ ∧ (nthM G i).p X w v

theorem filter_lt {p q : Nat → Bool} {i : Nat} (hp : p i = true) (hq : q i = false) (hs : ∀ k, q k = true → p k = true) : ∀ (l : List Nat), i ∈ l → (l.filter q).length < (l.filter p).length
  | [], h => by cases h
  | x :: r, h => by
    have hle : ∀ (l : List Nat), (l.filter q).length ≤ (l.filter p).length := by
      intro l
      induction l with
      | nil => simp
      | cons y s ih =>
        simp only [List.filter_cons]
        cases hqy : q y
        · cases hpy : p y <;> simp <;> omega
        · simp [hs y hqy]; exact ih
    simp only [List.filter_cons]
    rcases List.mem_cons.1 h with rfl | h
    · rw [hp, hq]; simp only [Bool.false_eq_true, if_false, if_true, List.length_cons]
      have := hle r
      omega
    · have := filter_lt hp hq hs r h
      cases hqy : q x
      · cases hpy : p x <;> simp <;> omega
      · simp [hs x hqy]; omega

theorem getD_both {l : Array Bool} {i : Nat} (h : i < l.size) : l.getD i true = l.getD i false := by
  simp [Array.getD, h]

theorem wpAny_tailX {Q : Exit → Act → World → Prop} : ∀ (T : List Nat) (l : List Oper) (fuel : Nat) (listed : Array Bool) (a : Act) (w : World), T.length ≤ fuel → gTail .any ops T listed = true → (T.map fun t => ops.toList[t]?) = l.map some →
    wpList P ops Q l a w → wpAny P .any ops Q fuel listed a w
  | [], [], fuel, listed, a, w, _, hg, _, h => wpAny_done (by simpa [gTail] using hg) h fuel
  | [], _ :: _, _, _, _, _, _, _, hl, _ => by simp at hl
  | _ :: _, [], _, _, _, _, _, _, hl, _ => by simp at hl
  | t :: r, o :: l, 0, _, _, _, hf, _, _, _ => by simp at hf
  | t :: r, o :: l, fuel + 1, listed, a, w, hf, hg, hl, h => by
    simp only [gTail, Bool.and_eq_true, beq_iff_eq] at hg
    simp only [List.map_cons, List.cons.injEq] at hl
    have ho : ops[t]? = some o := by simpa using hl.1
    refine ⟨fun e => (by rw [hg.1] at e; cases e), fun i hi => ?_⟩
    rw [hg.1, List.mem_singleton] at hi
    subst hi
    have key : ∀ a' w', wpList P ops Q l a' w' → wpAny P .any ops Q fuel (listed.setIfInBounds i true) a' w' := fun a' w' h' =>
      wpAny_tailX r l fuel _ a' w' (by simpa using hf) hg.2 hl.2 h'
    unfold wpOp
    rw [ho]
    unfold wpList at h
    show if Region.wanted o (yielded ops a.tmps) = true then _ else _
    split
    · rename_i hw
      rw [if_pos hw] at h
      exact h.imp (fun h2 => Oper.wp_mono key h2) id
    · rename_i hw
      rw [if_neg hw] at h
      exact key _ _ h

theorem wpAnyX {R : Act → World → Prop} (A : (Nat → Value) → Array Value) (df : List Deferred) (w0 : World) (G : List MProp) (M E T : List Nat) (l : List Oper) (hl : (T.map fun t => ops.toList[t]?) = l.map some) (hok : xOk ops M E T = true)
    (hs : ∀ i ∈ M, ∃ o, ops.toList[i]? = some o ∧ StepX P ops R A df w0 G i o)
    (he : ∀ i ∈ E, ∃ o, ops.toList[i]? = some o ∧ StepE P ops A df G i o)
    (hq : ∀ u w X, Ext w0 w → XIn X w0 w → (∀ i ∈ M, (nthM G i).p X w (u (dstOf ops i))) → wpList P ops (OnlyN R) l ⟨A u, df⟩ w) :
    ∀ (fuel : Nat) (listed : Array Bool) (u : Nat → Value) (w : World) (X : Nat → Prop), listed.size = ops.size → (M.filter fun i => !listed.getD i true).length + T.length ≤ fuel → (∀ t ∈ T, listed.getD t true = false) →
      Ext w0 w → XIn X w0 w → (∀ i ∈ M, listed.getD i false = true → (nthM G i).p X w (u (dstOf ops i))) → wpAny P .any ops (OnlyN R) fuel listed ⟨A u, df⟩ w := by
  unfold xOk at hok
  simp only [Bool.and_eq_true] at hok
  obtain ⟨⟨⟨⟨⟨⟨⟨⟨_, hsel⟩, hcov⟩, hMlt⟩, hEM⟩, hM⟩, hE⟩, hT⟩, hgT⟩ := hok
  have hMlt' : ∀ i ∈ M, i < ops.size := fun i hi => by simpa using List.all_eq_true.1 hMlt i hi
  have hEM' : ∀ i ∈ E, i ∈ M := fun i hi => by simpa using List.all_eq_true.1 hEM i hi
  have hM' : ∀ i ∈ M, ∃ o, ops[i]? = some o ∧ (∀ e ∈ o.after, Region.binds .any e = true → e.on < i ∧ e.on ∈ M) ∧ ∀ j ∈ M, i ≠ j → dstOf ops i ≠ dstOf ops j := by
    intro i hi
    have h1 := List.all_eq_true.1 hM i hi
    cases h2 : ops[i]? with
    | none => rw [h2] at h1; cases h1
    | some o =>
      rw [h2] at h1
      simp only [Bool.and_eq_true, List.all_eq_true, Array.all_eq_true_iff_forall_mem, Bool.or_eq_true, beq_iff_eq, bne_iff_ne] at h1
      refine ⟨o, rfl, fun e he hb => ?_, fun j hj hne => (h1.2 j hj).resolve_left hne⟩
      have h3 := (h1.1.2 e he).resolve_left (by simp [hb])
      simpa using h3
  have hTM : ∀ t ∈ T, ∀ ot, ops[t]? = some ot → ∀ m ∈ M, waitsM ot m = true ∨ (m ∈ E ∧ ∃ om, ops[m]? = some om ∧ ∀ e ∈ om.after, Region.binds .any e = true → waitsM ot e.on = true) := by
    intro t ht ot hot m hm
    have h1 := List.all_eq_true.1 hT t ht
    rw [hot] at h1
    have h2 := List.all_eq_true.1 h1 m hm
    simp only [Bool.or_eq_true, Bool.and_eq_true] at h2
    refine h2.imp id fun h3 => ?_
    obtain ⟨h4, h5⟩ := h3
    obtain ⟨om, hom, _⟩ := hM' m hm
    rw [hom] at h5
    refine ⟨by simpa using h4, om, hom, fun e he hb => ?_⟩
    have := Array.all_eq_true_iff_forall_mem.1 h5 e he
    simpa [hb] using this
  have hwl : ∀ (listed : Array Bool) (o : Oper) (j : Nat), (∀ e ∈ o.after, Region.binds .any e = true → listed.getD e.on false = true) → waitsM o j = true → listed.getD j false = true := by
    intro listed o j hall hj
    unfold waitsM at hj
    obtain ⟨e, he, hb⟩ := Array.any_eq_true'.1 hj
    simp only [Bool.and_eq_true, beq_iff_eq] at hb
    rw [← hb.2]
    exact hall e he hb.1
  -- all of M listed
  have hfin : ∀ (fuel : Nat) (listed : Array Bool) (u : Nat → Value) (w : World) (X : Nat → Prop), listed.size = ops.size → T.length ≤ fuel → (∀ t ∈ T, listed.getD t true = false) →
      Ext w0 w → XIn X w0 w → (∀ i ∈ M, listed.getD i false = true → (nthM G i).p X w (u (dstOf ops i))) → (∀ i ∈ M, listed.getD i false = true) → wpAny P .any ops (OnlyN R) fuel listed ⟨A u, df⟩ w := by
    intro fuel listed u w X hsz hf hTu hE0 hX hG hall
    have hlist : listed = ((List.range ops.size).map fun i => M.contains i).toArray := by
      apply Array.ext
      · simp [hsz]
      · intro i h1 h2
        have hi : i < ops.size := by omega
        simp only [List.getElem_toArray, List.getElem_map, List.getElem_range]
        have hc := List.all_eq_true.1 hcov i (List.mem_range.2 hi)
        have e1 : listed.getD i false = listed[i] := by simp [Array.getD, h1]
        have e2 : listed.getD i true = listed[i] := by simp [Array.getD, h1]
        cases hm : M.contains i with
        | true =>
          rw [← e1]
          exact hall i (by simpa using hm)
        | false =>
          rw [hm] at hc
          have ht : i ∈ T := by
            have : T.contains i = true := by simpa using hc
            simpa using this
          rw [← e2]
          exact hTu i ht
    refine wpAny_tailX T l fuel listed _ w hf (by rw [hlist]; exact hgT) hl (hq u w X hE0 hX fun i hi => hG i hi (hall i hi))
  intro fuel
  induction fuel with
  | zero =>
    intro listed u w X hsz hc hTu hE0 hX hG
    refine hfin 0 listed u w X hsz (by omega) hTu hE0 hX hG fun i hi => ?_
    have h0 : (M.filter fun i => !listed.getD i true) = [] := List.eq_nil_of_length_eq_zero (by omega)
    have h1 : ¬ (!listed.getD i true) = true := fun h => by
      have : i ∈ (M.filter fun i => !listed.getD i true) := List.mem_filter.2 ⟨hi, h⟩
      rw [h0] at this; cases this
    rw [← getD_both (by have := hMlt' i hi; omega)]
    simpa using h1
  | succ fuel ih =>
    intro listed u w X hsz hc hTu hE0 hX hG
    by_cases hall : ∀ i ∈ M, listed.getD i false = true
    · exact hfin _ listed u w X hsz (by omega) hTu hE0 hX hG hall
    · -- an operation that is carried out: what is listed behind it
      have step : ∀ i ∈ M, listed.getD i true = false → ∀ (v : Value) (w' : World) (X' : Nat → Prop), Ext w w' → XGrow X w X' → XIn X' w0 w' → (nthM G i).p X' w' v →
          wpAny P .any ops (OnlyN R) fuel (listed.setIfInBounds i true) ⟨A (upd u (dstOf ops i) v), df⟩ w' := by
        intro i hi hun v w' X' hE' hXX hX' hv
        have hilt := hMlt' i hi
        obtain ⟨o, ho, _, hne⟩ := hM' i hi
        refine ih _ _ _ X' (by simp [hsz]) ?_ ?_ (hE0.trans hE') hX' ?_
        · have := filter_lt (p := fun k => !listed.getD k true) (q := fun k => !(listed.setIfInBounds i true).getD k true) (i := i) (by simp only [hun]; rfl) (by simp [Array.getD, hsz, hilt]) (fun k hk => by
            by_cases hki : k = i
            · subst hki; simp only [hun]; rfl
            · rw [getD_set_ne true (fun e => hki e.symm)] at hk; exact hk) _ hi
          omega
        · intro t ht
          have hti : i ≠ t := by
            rintro rfl
            have hc2 := List.all_eq_true.1 hcov i (List.mem_range.2 hilt)
            have h1 : M.contains i = true := by simpa using hi
            have h2 : T.contains i = true := by simpa using ht
            rw [h1, h2] at hc2
            cases hc2
          rw [getD_set_ne true hti]
          exact hTu t ht
        · intro j hj hlj
          by_cases hji : j = i
          · subst hji
            simp only [upd, if_true]
            exact hv
          · have h5 : upd u (dstOf ops i) v (dstOf ops j) = u (dstOf ops j) := by
              unfold upd
              rw [if_neg (fun e => hne j hj (fun e => hji e.symm) e.symm)]
            rw [h5]
            rw [getD_set_ne false (fun e => hji e.symm)] at hlj
            exact (nthM G j).mono X X' w w' _ hE' hXX (hG j hj hlj)
      by_cases hEr : ∃ e ∈ E, e ∈ Region.ready .any ops listed
      · obtain ⟨e, heE, her⟩ := hEr
        obtain ⟨o, ho', hst⟩ := he e heE
        have ho : ops[e]? = some o := by simpa using ho'
        obtain ⟨hun, o2, ho2, hwait⟩ := mem_ready.1 her
        rw [ho] at ho2
        cases ho2
        obtain ⟨v, hy, hput, hv⟩ := hst u w X fun j hj => by
          have hlj := hwl listed o j hwait hj
          have hjM : j ∈ M := by
            obtain ⟨o3, ho3, hfw, _⟩ := hM' e (hEM' e heE)
            rw [ho] at ho3
            cases ho3
            unfold waitsM at hj
            obtain ⟨e2, he2, hb⟩ := Array.any_eq_true'.1 hj
            simp only [Bool.and_eq_true, beq_iff_eq] at hb
            rw [← hb.2]
            exact (hfw e2 he2 hb.1).2
          exact hG j hjM hlj
        refine wpAny_first ho (Region.noSelect_spec hsel) (fun _ _ _ h => h) fuel listed _ w ?_ her hy ?_
        · intro j oj hoj hji hju hno
          have h1 := List.all_eq_true.1 hE e heE
          rw [ho] at h1
          have h2 := List.all_eq_true.1 h1 j (List.mem_range.2 (Array.getElem?_eq_some_iff.1 hoj).1)
          rw [hoj] at h2
          simp only [Bool.or_eq_true, beq_iff_eq] at h2
          rcases h2 with h2 | h2 | h2
          · exact absurd h2 hji
          · unfold waitsM at h2
            obtain ⟨e2, he2, hb⟩ := Array.any_eq_true'.1 h2
            simp only [Bool.and_eq_true, beq_iff_eq] at hb
            exact absurd hb.2 (hno e2 he2 hb.1)
          · exact h2
        · rw [hput]
          exact step e (hEM' e heE) hun v w X (Ext.refl _) ⟨fun _ hb => hb, fun b hb => .inl hb⟩ hX hv
      · refine ⟨fun hnil => ?_, fun i hi => ?_⟩
        · exfalso
          apply hall
          have key : ∀ n, ∀ i, i < n → i ∈ M → listed.getD i false = true := by
            intro n
            induction n with
            | zero => intro i hi; omega
            | succ n ihn =>
              intro i hin hi
              by_cases hl : listed.getD i false = true
              · exact hl
              · exfalso
                obtain ⟨o, ho, hfw, _⟩ := hM' i hi
                have hmem : i ∈ Region.ready .any ops listed := mem_ready.2 ⟨by rw [getD_both (by have := hMlt' i hi; omega)]; simpa using hl, o, ho, fun e he hb => ihn e.on (by have := (hfw e he hb).1; omega) (hfw e he hb).2⟩
                rw [hnil] at hmem
                cases hmem
          exact fun i hi => key (i + 1) i (by omega) hi
        · obtain ⟨hun, o, ho, hwait⟩ := mem_ready.1 hi
          have hilt : i < ops.size := (Array.getElem?_eq_some_iff.1 ho).1
          have hiM : i ∈ M := by
            by_cases hiM : i ∈ M
            · exact hiM
            · exfalso
              have hiT : i ∈ T := by
                have hc2 := List.all_eq_true.1 hcov i (List.mem_range.2 hilt)
                have h1 : M.contains i = false := by simpa using hiM
                rw [h1] at hc2
                have : T.contains i = true := by simpa using hc2
                simpa using this
              apply hall
              intro m hm
              rcases hTM i hiT o ho m hm with h | ⟨hmE, om, hom, hdeps⟩
              · exact hwl listed o m hwait h
              · by_cases hl : listed.getD m false = true
                · exact hl
                · exfalso
                  apply hEr
                  exact ⟨m, hmE, mem_ready.2 ⟨by rw [getD_both (by have := hMlt' m hm; omega)]; simpa using hl, om, hom, fun e he hb => hwl listed o e.on hwait (hdeps e he hb)⟩⟩
          obtain ⟨o2, ho2', hst⟩ := hs i hiM
          have ho2 : ops[i]? = some o2 := by simpa using ho2'
          rw [ho] at ho2
          cases ho2
          have key := hst u w X hE0 hX (fun j hj => by
            have hlj := hwl listed o j hwait hj
            have hjM : j ∈ M := by
              obtain ⟨o3, ho3, hfw, _⟩ := hM' i hiM
              rw [ho] at ho3
              cases ho3
              unfold waitsM at hj
              obtain ⟨e2, he2, hb⟩ := Array.any_eq_true'.1 hj
              simp only [Bool.and_eq_true, beq_iff_eq] at hb
              rw [← hb.2]
              exact (hfw e2 he2 hb.1).2
            exact hG j hjM hlj) (fun a' w' => wpAny P .any ops (OnlyN R) fuel (listed.setIfInBounds i true) a' w') (by
              intro a' w' v X' ha hE' hXX hX' hv
              subst ha
              exact step i hiM hun v w' X' hE' hXX hX' hv)
          unfold wpOp
          rw [ho]
          unfold wpList at key
          show if Region.wanted o (yielded ops (A u)) = true then _ else _
          split
          · rename_i hw
            have key2 : Region.wanted o (yielded ops (⟨A u, df⟩ : Act).tmps) = true := hw
            rw [if_pos key2] at key
            refine key.imp (fun h3 => ?_) id
            exact Oper.wp_mono (fun a' w' h4 => h4) (upon_then (K := fun a' w' => wpAny P .any ops (OnlyN R) fuel (listed.setIfInBounds i true) a' w') _ h3)
          · rename_i hw
            have key2 : ¬ Region.wanted o (yielded ops (⟨A u, df⟩ : Act).tmps) = true := hw
            rw [if_neg key2] at key
            exact key

/-- The frame t with the temporaries u at the places D. -/
def overlay (t : Array Value) (u : Nat → Value) : List Nat → Array Value
  | [] => t
  | d :: r => (overlay t u r).setIfInBounds d (u d)

theorem overlay_size (t : Array Value) (u : Nat → Value) : ∀ (D : List Nat), (overlay t u D).size = t.size
  | [] => rfl
  | d :: r => by rw [overlay, Array.size_setIfInBounds, overlay_size t u r]
theorem overlay_get (t : Array Value) (u : Nat → Value) : ∀ (D : List Nat) (k : Nat), (overlay t u D)[k]? = if k < t.size then (if k ∈ D then some (u k) else t[k]?) else none
  | [], k => by
    simp only [overlay, List.not_mem_nil, if_false]
    split
    · rfl
    · rename_i h; rw [Array.getElem?_eq_none (by omega)]
  | d :: r, k => by
    rw [overlay, Array.getElem?_setIfInBounds, overlay_size, overlay_get t u r k]
    by_cases hk : d = k
    · subst hk
      by_cases h : d < t.size <;> simp [h]
    · rw [if_neg hk]
      have : k ∈ d :: r ↔ k ∈ r := by simp [show ¬ k = d from fun e => hk e.symm]
      simp only [this]
theorem overlay_upd (t : Array Value) (u : Nat → Value) (D : List Nat) (d : Nat) (v : Value) (hd : d ∈ D) : (overlay t u D).setIfInBounds d v = overlay t (upd u d v) D := by
  apply Array.ext_getElem?
  intro k
  rw [Array.getElem?_setIfInBounds, overlay_size, overlay_get, overlay_get]
  by_cases hk : d = k
  · subst hk
    by_cases h : d < t.size <;> simp [h, hd, upd]
  · rw [if_neg hk]
    simp only [upd, if_neg (fun e => hk e.symm : ¬ k = d)]
theorem overlay_start (t : Array Value) (D : List Nat) : overlay t (fun i => t.getD i undef) D = t := by
  apply Array.ext_getElem?
  intro k
  rw [overlay_get]
  by_cases h : k < t.size
  · rw [if_pos h]
    split
    · simp [Array.getD, h]
    · rfl
  · rw [if_neg h, Array.getElem?_eq_none (by omega)]

/-- One operation of M. -/
def StepO (P : Program) (ops : Array Oper) (R : Act → World → Prop) (t : Array Value) (D : List Nat) (df : List Deferred) (w0 : World) (G : List MProp) (i : Nat) : Prop :=
  ∃ o d, ops.toList[i]? = some o ∧ dstOf ops i = d ∧ ∀ (u : Nat → Value) (w : World) (X : Nat → Prop), Ext w0 w → XIn X w0 w → (∀ j, waitsM o j = true → (nthM G j).p X w (u (dstOf ops j))) →
    ∀ K : Act → World → Prop, (∀ v w' (X' : Nat → Prop), Ext w w' → XGrow X w X' → XIn X' w0 w' → (nthM G i).p X' w' v → K ⟨(overlay t u D).setIfInBounds d v, df⟩ w') →
      wpList P ops (Exit.then K (OnlyN R)) [o] ⟨overlay t u D, df⟩ w
/-- One of E. -/
def StepP (P : Program) (ops : Array Oper) (t : Array Value) (D : List Nat) (df : List Deferred) (G : List MProp) (i : Nat) : Prop :=
  ∃ o, ops.toList[i]? = some o ∧ ∀ (u : Nat → Value) (w : World) (X : Nat → Prop), (∀ j, waitsM o j = true → (nthM G j).p X w (u (dstOf ops j))) →
    ∃ v, Yields P ops o v ⟨overlay t u D, df⟩ ∧ (nthM G i).p X w v

/-- THE RULE. -/
theorem wp_region_x {id : Nat} {t : Array Value} {df : List Deferred} {w : World} (G : List MProp) (M E T D : List Nat) (l : List Oper) (hm : P.follows .mixedOrders = true) (hok : xOk ops M E T = true) (hD : M.map (dstOf ops) = D)
    (hl : (T.map fun t => ops.toList[t]?) = l.map some)
    (hs : ∀ i ∈ M, StepO P ops (Q .normal) t D df w.drew G i)
    (he : ∀ i ∈ E, StepP P ops t D df G i)
    (hq : ∀ u w' X, Ext w.drew w' → XIn X w.drew w' → (∀ i ∈ M, (nthM G i).p X w' (u (dstOf ops i))) → wpList P ops (OnlyN (Q .normal)) l ⟨overlay t u D, df⟩ w') : (Code.region id ops true).wp P Q ⟨t, df⟩ w := by
  have hsz : M.length + T.length ≤ ops.size := by
    have h := hok
    unfold xOk at h
    simp only [Bool.and_eq_true, decide_eq_true_eq] at h
    exact h.1.1.1.1.1.1.1.1
  have hEM : ∀ i ∈ E, i ∈ M := fun i hi => by
    have h := hok
    unfold xOk at h
    simp only [Bool.and_eq_true] at h
    simpa using List.all_eq_true.1 h.1.1.1.1.2 i hi
  have hdM : ∀ i ∈ M, dstOf ops i ∈ D := fun i hi => by rw [← hD]; exact List.mem_map_of_mem hi
  have hsome : ∀ i ∈ M, ∀ o, ops[i]? = some o → o.dst = some (dstOf ops i) := fun i hi o ho => by
    have h := hok
    unfold xOk at h
    simp only [Bool.and_eq_true] at h
    have h1 := List.all_eq_true.1 h.1.1.1.2 i hi
    rw [ho] at h1
    simp only [Bool.and_eq_true] at h1
    obtain ⟨d, hd⟩ := Option.isSome_iff_exists.1 h1.1.1
    rw [hd]
    simp [dstOf, ho, hd]
  have h1 : wpAny P .any ops (OnlyN (Q .normal)) ops.size (Array.replicate ops.size false) ⟨overlay t (fun i => t.getD i undef) D, df⟩ w.drew :=
    wpAnyX (fun u => overlay t u D) df w.drew G M E T l hl hok (fun i hi => by
      obtain ⟨o, d, ho, rfl, h⟩ := hs i hi
      refine ⟨o, ho, fun u w' X e1 e2 e3 K hK => h u w' X e1 e2 e3 K fun v w2 X' f1 f2 f3 f4 => hK _ w2 v X' ?_ f1 f2 f3 f4⟩
      rw [overlay_upd _ _ _ _ _ (hdM i hi)]) (fun i hi => by
      obtain ⟨o, ho, h⟩ := he i hi
      refine ⟨o, ho, fun u w' X e1 => ?_⟩
      obtain ⟨v, hv, hg⟩ := h u w' X e1
      refine ⟨v, hv, ?_, hg⟩
      rw [hsome i (hEM i hi) o (by simpa using ho)]
      show (⟨(overlay t u D).setIfInBounds (dstOf ops i) v, df⟩ : Act) = _
      rw [overlay_upd _ _ _ _ _ (hdM i (hEM i hi))]) hq _ _ _ w.drew (fun _ => False) (by simp) (by
      have := List.length_filter_le (fun i => !(Array.replicate ops.size false).getD i true) M
      omega) (fun t ht => by
      have hT : t < ops.size := by
        have h3 : ops.toList[t]? ∈ (T.map fun t => ops.toList[t]?) := List.mem_map.2 ⟨t, ht, rfl⟩
        rw [hl] at h3
        obtain ⟨o, _, ho⟩ := List.mem_map.1 h3
        have := (List.getElem?_eq_some_iff.1 ho.symm).1
        simpa using this
      simp [Array.getD, hT]) (Ext.refl _) (fun b hb => hb.elim) (fun i hi hl => by
      rcases Nat.lt_or_ge i ops.size with h | h
      · simp [Array.getD, h] at hl
      · simp [Array.getD] at hl)
  rw [overlay_start] at h1
  have h2 : (Code.region id ops true).wp P (OnlyN (Q .normal)) ⟨t, df⟩ w := wp_region_any hm h1
  exact Code.wp_mono (fun e a w q => by cases e <;> first | exact q | exact q.elim) h2

/-- Without a tail; with a tail of one, two, three. -/
theorem wp_region_x0 {id : Nat} {t : Array Value} {df : List Deferred} {w : World} (G : List MProp) (M E D : List Nat) (hm : P.follows .mixedOrders = true) (hok : xOk ops M E [] = true) (hD : M.map (dstOf ops) = D)
    (hs : ∀ i ∈ M, StepO P ops (Q .normal) t D df w.drew G i) (he : ∀ i ∈ E, StepP P ops t D df G i)
    (hq : ∀ u w' X, Ext w.drew w' → XIn X w.drew w' → (∀ i ∈ M, (nthM G i).p X w' (u (dstOf ops i))) → Q .normal ⟨overlay t u D, df⟩ w') : (Code.region id ops true).wp P Q ⟨t, df⟩ w :=
  wp_region_x G M E [] D [] hm hok hD rfl hs he fun u w' X h1 h2 h3 => OnlyN.mk (hq u w' X h1 h2 h3)
theorem wp_region_x1 {id : Nat} {t : Array Value} {df : List Deferred} {w : World} (G : List MProp) (M E D : List Nat) (i1 : Nat) {o1 : Oper} (hm : P.follows .mixedOrders = true) (hok : xOk ops M E [i1] = true) (hD : M.map (dstOf ops) = D) (h1 : ops.toList[i1]? = some o1)
    (hs : ∀ i ∈ M, StepO P ops (Q .normal) t D df w.drew G i) (he : ∀ i ∈ E, StepP P ops t D df G i)
    (hq : ∀ u w' X, Ext w.drew w' → XIn X w.drew w' → (∀ i ∈ M, (nthM G i).p X w' (u (dstOf ops i))) → wpList P ops (OnlyN (Q .normal)) [o1] ⟨overlay t u D, df⟩ w') : (Code.region id ops true).wp P Q ⟨t, df⟩ w :=
  wp_region_x G M E [i1] D [o1] hm hok hD (by simp only [List.map_cons, List.map_nil, h1]) hs he hq
theorem wp_region_x2 {id : Nat} {t : Array Value} {df : List Deferred} {w : World} (G : List MProp) (M E D : List Nat) (i1 i2 : Nat) {o1 o2 : Oper} (hm : P.follows .mixedOrders = true) (hok : xOk ops M E [i1, i2] = true) (hD : M.map (dstOf ops) = D) (h1 : ops.toList[i1]? = some o1) (h2 : ops.toList[i2]? = some o2)
    (hs : ∀ i ∈ M, StepO P ops (Q .normal) t D df w.drew G i) (he : ∀ i ∈ E, StepP P ops t D df G i)
    (hq : ∀ u w' X, Ext w.drew w' → XIn X w.drew w' → (∀ i ∈ M, (nthM G i).p X w' (u (dstOf ops i))) → wpList P ops (OnlyN (Q .normal)) [o1, o2] ⟨overlay t u D, df⟩ w') : (Code.region id ops true).wp P Q ⟨t, df⟩ w :=
  wp_region_x G M E [i1, i2] D [o1, o2] hm hok hD (by simp only [List.map_cons, List.map_nil, h1, h2]) hs he hq
theorem wp_region_x3 {id : Nat} {t : Array Value} {df : List Deferred} {w : World} (G : List MProp) (M E D : List Nat) (i1 i2 i3 : Nat) {o1 o2 o3 : Oper} (hm : P.follows .mixedOrders = true) (hok : xOk ops M E [i1, i2, i3] = true) (hD : M.map (dstOf ops) = D) (h1 : ops.toList[i1]? = some o1) (h2 : ops.toList[i2]? = some o2) (h3 : ops.toList[i3]? = some o3)
    (hs : ∀ i ∈ M, StepO P ops (Q .normal) t D df w.drew G i) (he : ∀ i ∈ E, StepP P ops t D df G i)
    (hq : ∀ u w' X, Ext w.drew w' → XIn X w.drew w' → (∀ i ∈ M, (nthM G i).p X w' (u (dstOf ops i))) → wpList P ops (OnlyN (Q .normal)) [o1, o2, o3] ⟨overlay t u D, df⟩ w') : (Code.region id ops true).wp P Q ⟨t, df⟩ w :=
  wp_region_x G M E [i1, i2, i3] D [o1, o2, o3] hm hok hD (by simp only [List.map_cons, List.map_nil, h1, h2, h3]) hs he hq

theorem XIn.ext {X : Nat → Prop} {w0 w w' : World} (h : XIn X w0 w) (e : Ext w w') : XIn X w0 w' := fun b hb => ⟨(h b hb).1, Nat.lt_of_lt_of_le (h b hb).2 e.lt⟩
theorem XIn.lo {X : Nat → Prop} {w0 w : World} (h : XIn X w0 w) : ∀ b, X b → w0.heap.size ≤ b := fun b hb => (h b hb).1
theorem XIn.hi {X : Nat → Prop} {w0 w : World} (h : XIn X w0 w) : ∀ b, X b → b < w.heap.size := fun b hb => (h b hb).2
theorem XIn.add {X : Nat → Prop} {w0 w : World} (h : XIn X w0 w) (e : Ext w0 w) (o : Obj) : XIn (fun b => X b ∨ b = w.heap.size) w0 (w.alloc o) := fun b hb => by
  have h1 := e.lt
  rw [World.size_alloc]
  rcases hb with hb | rfl
  · have := h b hb; omega
  · omega
theorem kept_m {X : Nat → Prop} {w : World} : XGrow X w X := ⟨fun _ h => h, fun _ h => .inl h⟩
theorem added_m {X : Nat → Prop} {w : World} : XGrow X w (fun b => X b ∨ b = w.heap.size) := ⟨fun _ h => .inl h, fun b h => h.imp id (fun e => by omega)⟩
theorem mem_nil_m {p : Nat → Prop} : ∀ i ∈ ([] : List Nat), p i := fun _ h => by cases h
theorem mem_cons_m {p : Nat → Prop} {x : Nat} {r : List Nat} (h : p x) (hr : ∀ i ∈ r, p i) : ∀ i ∈ x :: r, p i := fun i hi => by
  rcases List.mem_cons.1 hi with rfl | hi
  · exact h
  · exact hr i hi
end
end Go.Proofs.Ytgkemmdghmklfaa
