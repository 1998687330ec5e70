/-
  A REGION THAT DRAWS ITS ORDER: operations that only read are taken first in the text's order, where a condition S on the world holds; the others come in one forced order, and S is shown behind those of them that do not wait for all that was taken first. No program in sight.
-/
import Derived.OrdersHeld
import Derived.WalkKit
namespace Go.Proofs.Ytgkemmdghmklfaa
set_option linter.unusedSimpArgs false
set_option linter.unusedVariables false
section
variable {P : Program} {ops : Array Oper} {Q : Exit → Act → World → Prop} {md : Region.Mode} {S : World → Prop} {H : List Nat}

/-- Must S be shown behind operation j? Not where j waits for each of H by an edge of its own. -/
def gReq (md : Region.Mode) (ops : Array Oper) (H : List Nat) (j : Nat) : Bool :=
  !(H.all fun h => match ops[j]? with
    | some oj => oj.after.any (fun e => Region.binds md e && e.on == h)
    | none => false)

def wpAnyG (P : Program) (md : Region.Mode) (ops : Array Oper) (Q : Exit → Act → World → Prop) (S : World → Prop) (H : List Nat) : Nat → Array Bool → Act → World → Prop
  | 0, listed, a, w => Region.ready md ops listed = [] ∧ Q .normal a w
  | fuel + 1, listed, a, w => (Region.ready md ops listed = [] → Q .normal a w) ∧
    ∀ i ∈ Region.ready md ops listed, wpOp P ops Q i (fun a' w' => (gReq md ops H i = true → S w') ∧ wpAnyG P md ops Q S H fuel (listed.setIfInBounds i true) a' w') a w

theorem wpAny_of_g : ∀ (fuel : Nat) (listed : Array Bool) (a : Act) (w : World), wpAnyG P md ops Q S H fuel listed a w → wpAny P md ops Q fuel listed a w
  | 0, _, _, _, h => h
  | fuel + 1, _, _, _, h => ⟨h.1, fun i hi => wpOp_mono (fun a' w' h' => wpAny_of_g fuel _ a' w' h'.2) (h.2 i hi)⟩

theorem waits_listed {i : Nat} {oj : Oper} {listed : Array Bool} (hi : i ∈ Region.ready md ops listed) (hall : ∀ e ∈ oj.after, Region.binds md e = true → listed.getD e.on false = true) :
    ∀ e ∈ oj.after, Region.binds md e = true → e.on ≠ i := fun e he hb heq => by
  have h1 := hall e he hb
  have h0 := (mem_ready.1 hi).1
  rw [heq] at h1
  rcases Nat.lt_or_ge i listed.size with h' | h'
  · simp [h'] at h0 h1; rw [h0] at h1; cases h1
  · simp [Array.getElem?_eq_none h'] at h1

theorem wpAnyG_first {i : Nat} {oi : Oper} {v : Value} (hi : ops[i]? = some oi) (hiH : i ∈ H) (hsel : ∀ (j : Nat) (o : Oper) cs b, ops[j]? = some o → o.op ≠ .select cs b)
    (hQ : ∀ c a w, Q (.panic c) (a.put oi.dst v) w → Q (.panic c) a w) :
    ∀ (fuel : Nat) (listed : Array Bool) (a : Act) (w : World),
      (∀ j oj, ops[j]? = some oj → j ≠ i → listed.getD j true = false → (∀ e ∈ oj.after, Region.binds md e = true → e.on ≠ i) → oi.apart ops oj = true) →
      i ∈ Region.ready md ops listed → YieldsIf P ops S oi v a → S w →
      wpAnyG P md ops Q S H fuel (listed.setIfInBounds i true) (a.put oi.dst v) w → wpAnyG P md ops Q S H (fuel + 1) listed a w := by
  intro fuel
  induction fuel with
  | zero =>
    intro listed a w _ hr hy hS h
    refine ⟨fun e => (by rw [e] at hr; cases hr), fun j hj => ?_⟩
    by_cases hji : j = i
    · subst hji; exact hy.wpOp hi hS ⟨fun _ => hS, h⟩
    · have := ready_mono hj hji
      rw [h.1] at this
      cases this
  | succ fuel ih =>
    intro listed a w hfree hr hy hS h
    refine ⟨fun e => (by rw [e] at hr; cases hr), fun j hj => ?_⟩
    by_cases hji : j = i
    · subst hji; exact hy.wpOp hi hS ⟨fun _ => hS, h⟩
    · have h1 := h.2 j (ready_mono hj hji)
      obtain ⟨hjun, oj, hoj, hall⟩ := mem_ready.1 hj
      have hnot := waits_listed hr hall
      have hreq : gReq md ops H j = true := by
        unfold gReq
        rw [hoj]
        simp only [Bool.not_eq_true', List.all_eq_false]
        refine ⟨i, hiH, fun hc => ?_⟩
        obtain ⟨e, he, hb⟩ := Array.any_eq_true'.1 hc
        simp only [Bool.and_eq_true, beq_iff_eq] at hb
        exact hnot e he hb.1 hb.2
      have h2 := wpOp_putIf hoj (hfree j oj hoj hji hjun hnot) (fun cs b => hsel i oi cs b hi) (fun cs b => hsel j oj cs b hoj) hQ hy h1
      have hfree' : ∀ k ok, ops[k]? = some ok → k ≠ i → (listed.setIfInBounds j true).getD k true = false →
          (∀ e ∈ ok.after, Region.binds md e = true → e.on ≠ i) → oi.apart ops ok = true := fun k ok hk hki hun hno => by
        refine hfree k ok hk hki ?_ hno
        by_cases hjk : j = k
        · subst hjk; exact hjun
        · rw [getD_set_ne true hjk] at hun; exact hun
      refine wpOp_mono (fun a' w' h3 => ⟨h3.2.1, ih (listed.setIfInBounds j true) a' w' hfree' (ready_mono hr (Ne.symm hji)) h3.1 (h3.2.1 hreq) ?_⟩) h2
      rw [Array.setIfInBounds_comm _ _ hji]
      exact h3.2.2

theorem wpAnyG_done {listed : Array Bool} {a : Act} {w : World} (hr : Region.ready md ops listed = []) (h : Q .normal a w) : ∀ fuel, wpAnyG P md ops Q S H fuel listed a w
  | 0 => ⟨hr, h⟩
  | _ + 1 => ⟨fun _ => h, by rw [hr]; simp⟩

/-- The tail's order is forced. -/
def gTail (md : Region.Mode) (ops : Array Oper) : List Nat → Array Bool → Bool
  | [], l => (Region.ready md ops l).isEmpty
  | t :: r, l => (Region.ready md ops l == [t]) && gTail md ops r (l.setIfInBounds t true)
/-- The head may be taken first, one by one. -/
def gHead (md : Region.Mode) (ops : Array Oper) (T : List Nat) : List Nat → Array Bool → Bool
  | [], l => gTail md ops T l
  | h :: r, l => Region.free md ops l h && (Region.ready md ops l).contains h && gHead md ops T r (l.setIfInBounds h true)
def gOk (md : Region.Mode) (ops : Array Oper) (H T : List Nat) : Bool :=
  Region.noSelect ops && decide (H.length + T.length = ops.size) && gHead md ops T H (Array.replicate ops.size false)

/-- The head: each operation yields its value in every world that meets S. -/
def wpHead (P : Program) (ops : Array Oper) (S : World → Prop) (K : Act → Prop) : List Nat → Act → Prop
  | [], a => K a
  | h :: r, a => ∃ o v, ops[h]? = some o ∧ YieldsIf P ops S o v a ∧ wpHead P ops S K r (a.put o.dst v)
/-- The tail: one operation behind the other; S behind those that ask for it. -/
def wpTail (P : Program) (md : Region.Mode) (ops : Array Oper) (Q : Exit → Act → World → Prop) (S : World → Prop) (H : List Nat) : List Nat → Act → World → Prop
  | [], a, w => Q .normal a w
  | t :: r, a, w => wpOp P ops Q t (fun a' w' => (gReq md ops H t = true → S w') ∧ wpTail P md ops Q S H r a' w') a w

theorem wpAnyG_tail : ∀ (T : List Nat) (fuel : Nat) (listed : Array Bool) (a : Act) (w : World), T.length ≤ fuel → gTail md ops T listed = true → wpTail P md ops Q S H T a w → wpAnyG P md ops Q S H fuel listed a w
  | [], fuel, listed, a, w, _, hg, h => wpAnyG_done (by simpa [gTail] using hg) h fuel
  | t :: r, 0, _, _, _, hf, _, _ => by simp at hf
  | t :: r, fuel + 1, listed, a, w, hf, hg, h => by
    simp only [gTail, Bool.and_eq_true, beq_iff_eq] at hg
    refine ⟨fun e => (by rw [hg.1] at e; cases e), fun i hi => ?_⟩
    rw [hg.1, List.mem_singleton] at hi
    subst hi
    exact wpOp_mono (fun a' w' h' => ⟨h'.1, wpAnyG_tail r fuel _ a' w' (by simpa using hf) hg.2 h'.2⟩) h

/-- Only the plain way out. -/
def OnlyN (R : Act → World → Prop) : Exit → Act → World → Prop
  | .normal, a, w => R a w
  | _, _, _ => False
theorem OnlyN.mk {R : Act → World → Prop} {a : Act} {w : World} (h : R a w) : OnlyN R .normal a w := h

theorem wpAnyG_head {R : Act → World → Prop} {T : List Nat} {w : World} (hsel : Region.noSelect ops = true) (hS : S w) : ∀ (l : List Nat) (fuel : Nat) (listed : Array Bool) (a : Act), (∀ h ∈ l, h ∈ H) → l.length + T.length ≤ fuel → gHead md ops T l listed = true →
    wpHead P ops S (fun a' => wpTail P md ops (OnlyN R) S H T a' w) l a → wpAnyG P md ops (OnlyN R) S H fuel listed a w
  | [], fuel, listed, a, _, hf, hg, h => wpAnyG_tail T fuel listed a w (by simpa using hf) hg h
  | x :: r, 0, _, _, _, hf, _, _ => by simp at hf
  | x :: r, fuel + 1, listed, a, hH, hf, hg, h => by
    obtain ⟨o, v, ho, hy, hr⟩ := h
    simp only [gHead, Bool.and_eq_true] at hg
    obtain ⟨⟨hfree, hready⟩, hg'⟩ := hg
    refine wpAnyG_first ho (hH x (by simp)) (Region.noSelect_spec hsel) (fun _ _ _ h => h) fuel listed a w (Region.free_spec ho hfree) (by simpa using hready) hy hS ?_
    exact wpAnyG_head hsel hS r fuel _ _ (fun y hy => hH y (by simp [hy])) (by simp at hf; omega) hg' hr

/-- THE RULE. -/
theorem wp_region_g {id : Nat} {a : Act} {w : World} (H T : List Nat) (S : World → Prop) (hm : P.follows .mixedOrders = true) (hok : gOk .any ops H T = true) (hS : S w.drew)
    (h : wpHead P ops S (fun a' => wpTail P .any ops (OnlyN (Q .normal)) S H T a' w.drew) H a) : (Code.region id ops true).wp P Q a w := by
  simp only [gOk, Bool.and_eq_true, decide_eq_true_eq] at hok
  obtain ⟨⟨hsel, hlen⟩, hg⟩ := hok
  have h1 := wpAnyG_head (R := Q .normal) (H := H) hsel hS H ops.size (Array.replicate ops.size false) a (fun _ h => h) (by omega) hg h
  have h2 : (Code.region id ops true).wp P (OnlyN (Q .normal)) a w := wp_region_any hm (wpAny_of_g _ _ _ _ h1)
  exact Code.wp_mono (fun e a w q => by cases e <;> first | exact q | exact q.elim) h2

theorem wpHead_cons {K : Act → Prop} {h : Nat} {r : List Nat} {a : Act} {o : Oper} {v : Value} (ho : ops.toList[h]? = some o) (hw : Region.wanted o (yielded ops a.tmps) = true)
    (hv : ∀ w, S w → (execOp a.eval o).run P w = .ok (.value v) w) (hr : wpHead P ops S K r (a.put o.dst v)) : wpHead P ops S K (h :: r) a :=
  ⟨o, v, by simpa using ho, .inl ⟨hw, hv⟩, hr⟩
theorem wpHead_skip {K : Act → Prop} {h : Nat} {r : List Nat} {a : Act} {o : Oper} (ho : ops.toList[h]? = some o) (hw : Region.wanted o (yielded ops a.tmps) = false)
    (hr : wpHead P ops S K r (a.put o.dst undef)) : wpHead P ops S K (h :: r) a :=
  ⟨o, undef, by simpa using ho, .inr ⟨hw, rfl⟩, hr⟩

theorem upon_then {o : Oper} {a : Act} {K : Act → World → Prop} {next : Act → World → Prop} (r : Result Next) (h : o.upon P a next (Exit.then K Q) r) : o.upon P a next Q r := by
  cases r with
  | ok n w => cases n <;> exact h
  | halt x w => cases x <;> exact h

/-- One operation of the tail, by the walk's own words. -/
theorem wpTail_cons {R : Act → World → Prop} {t : Nat} {r : List Nat} {a : Act} {w : World} {o : Oper} (ho' : ops.toList[t]? = some o)
    (h : ∀ K : Act → World → Prop, (∀ a' w', S w' → wpTail P md ops (OnlyN R) S H r a' w' → K a' w') → wpList P ops (Exit.then K (OnlyN R)) [o] a w) : wpTail P md ops (OnlyN R) S H (t :: r) a w := by
  have ho : ops[t]? = some o := by simpa using ho'
  have h1 := h (fun a' w' => S w' ∧ wpTail P md ops (OnlyN R) S H r a' w') (fun _ _ h1 h2 => ⟨h1, h2⟩)
  unfold wpTail wpOp
  rw [ho]
  unfold wpList at h1
  show if Region.wanted o (yielded ops a.tmps) = true then _ else _
  split
  · rename_i hw
    rw [if_pos hw] at h1
    refine h1.imp (fun h2 => ?_) id
    exact Oper.wp_mono (fun a' w' h3 => (⟨fun _ => h3.1, h3.2⟩ : (gReq md ops H t = true → S w') ∧ _)) (upon_then (K := fun a' w' => S w' ∧ wpTail P md ops (OnlyN R) S H r a' w') _ h2)
  · rename_i hw
    rw [if_neg hw] at h1
    exact ⟨fun _ => h1.1, h1.2⟩

/-- The rest of the tail, where S is asked no more. -/
theorem wpTail_free {R : Act → World → Prop} : ∀ (T : List Nat) (l : List Oper) (a : Act) (w : World), (T.map fun t => ops.toList[t]?) = l.map some → (T.all fun t => !gReq md ops H t) = true → wpList P ops (OnlyN R) l a w → wpTail P md ops (OnlyN R) S H T a w
  | [], [], _, _, _, _, h => h
  | [], _ :: _, _, _, hl, _, _ => by simp at hl
  | _ :: _, [], _, _, hl, _, _ => by simp at hl
  | t :: r, o :: l, a, w, hl, hq, h => by
    simp only [List.map_cons, List.cons.injEq] at hl
    have hl1 : ops[t]? = some o := by simpa using hl.1
    simp only [List.all_cons, Bool.and_eq_true, Bool.not_eq_true'] at hq
    unfold wpTail wpOp
    rw [hl1]
    unfold wpList at h
    show if Region.wanted o (yielded ops a.tmps) = true then _ else _
    have key : ∀ a' w', wpList P ops (OnlyN R) l a' w' → (gReq md ops H t = true → S w') ∧ wpTail P md ops (OnlyN R) S H r a' w' := fun a' w' h' =>
      ⟨fun e => (by rw [hq.1] at e; cases e), wpTail_free r l a' w' hl.2 hq.2 h'⟩
    split
    · rename_i hw
      rw [if_pos hw] at h
      exact h.imp (fun h2 => Oper.wp_mono key h2) id
    · rename_i hw
      rw [if_neg hw] at h
      exact key _ _ h

/-- The beginning, where the order behind the head is not forced: L: what is listed when the head has been taken. -/
def gHead0 (md : Region.Mode) (ops : Array Oper) : List Nat → Array Bool → Array Bool → Bool
  | [], l, L => l == L
  | h :: r, l, L => Region.free md ops l h && (Region.ready md ops l).contains h && gHead0 md ops r (l.setIfInBounds h true) L

theorem wpAnyG_head0 {R : Act → World → Prop} {L : Array Bool} {n : Nat} {w : World} (hsel : Region.noSelect ops = true) (hS : S w) : ∀ (l : List Nat) (fuel : Nat) (listed : Array Bool) (a : Act), (∀ h ∈ l, h ∈ H) → l.length + n = fuel → gHead0 md ops l listed L = true →
    wpHead P ops S (fun a' => wpAnyG P md ops (OnlyN R) S H n L a' w) l a → wpAnyG P md ops (OnlyN R) S H fuel listed a w
  | [], fuel, listed, a, _, hf, hg, h => by
    have e : listed = L := by simpa [gHead0] using hg
    have e2 : fuel = n := by simpa using hf.symm
    rw [e, e2]
    exact h
  | x :: r, 0, _, _, _, hf, _, _ => by simp at hf
  | x :: r, fuel + 1, listed, a, hH, hf, hg, h => by
    obtain ⟨o, v, ho, hy, hr⟩ := h
    simp only [gHead0, Bool.and_eq_true] at hg
    obtain ⟨⟨hfree, hready⟩, hg'⟩ := hg
    refine wpAnyG_first ho (hH x (by simp)) (Region.noSelect_spec hsel) (fun _ _ _ h => h) fuel listed a w (Region.free_spec ho hfree) (by simpa using hready) hy hS ?_
    exact wpAnyG_head0 hsel hS r fuel _ _ (fun y hy => hH y (by simp [hy])) (by simp at hf; omega) hg' hr

theorem wp_region_g0 {id : Nat} {a : Act} {w : World} (H : List Nat) (n : Nat) (L : Array Bool) (S : World → Prop) (hm : P.follows .mixedOrders = true)
    (hok : (Region.noSelect ops && decide (H.length + n = ops.size) && gHead0 .any ops H (Array.replicate ops.size false) L) = true) (hS : S w.drew)
    (h : wpHead P ops S (fun a' => wpAnyG P .any ops (OnlyN (Q .normal)) S H n L a' w.drew) H a) : (Code.region id ops true).wp P Q a w := by
  simp only [Bool.and_eq_true, decide_eq_true_eq] at hok
  obtain ⟨⟨hsel, hlen⟩, hg⟩ := hok
  have h1 := wpAnyG_head0 (R := Q .normal) (H := H) hsel hS H ops.size (Array.replicate ops.size false) a (fun _ h => h) hlen hg h
  have h2 : (Code.region id ops true).wp P (OnlyN (Q .normal)) a w := wp_region_any hm (wpAny_of_g _ _ _ _ h1)
  exact Code.wp_mono (fun e a w q => by cases e <;> first | exact q | exact q.elim) h2

/-- One operation, by the walk's own words: what is asked of it where several may come up. -/
def Comes1 (P : Program) (md : Region.Mode) (ops : Array Oper) (R : Act → World → Prop) (S : World → Prop) (H : List Nat) (fuel : Nat) (listed : Array Bool) (a : Act) (w : World) (i : Nat) : Prop :=
  ∃ o, ops.toList[i]? = some o ∧ ∀ K : Act → World → Prop, (∀ a' w', S w' → wpAnyG P md ops (OnlyN R) S H fuel (listed.setIfInBounds i true) a' w' → K a' w') → wpList P ops (Exit.then K (OnlyN R)) [o] a w

theorem Comes1.op {R : Act → World → Prop} {fuel : Nat} {listed : Array Bool} {a : Act} {w : World} {i : Nat} (h : Comes1 P md ops R S H fuel listed a w i) :
    wpOp P ops (OnlyN R) i (fun a' w' => (gReq md ops H i = true → S w') ∧ wpAnyG P md ops (OnlyN R) S H fuel (listed.setIfInBounds i true) a' w') a w := by
  obtain ⟨o, ho', h⟩ := h
  have ho : ops[i]? = some o := by simpa using ho'
  have h1 := h (fun a' w' => S w' ∧ wpAnyG P md ops (OnlyN R) S H fuel (listed.setIfInBounds i true) a' w') (fun _ _ h1 h2 => ⟨h1, h2⟩)
  unfold wpOp
  rw [ho]
  unfold wpList at h1
  show if Region.wanted o (yielded ops a.tmps) = true then _ else _
  split
  · rename_i hw
    rw [if_pos hw] at h1
    refine h1.imp (fun h2 => ?_) id
    exact Oper.wp_mono (fun a' w' h3 => (⟨fun _ => h3.1, h3.2⟩ : (gReq md ops H i = true → S w') ∧ _)) (upon_then (K := fun a' w' => S w' ∧ wpAnyG P md ops (OnlyN R) S H fuel (listed.setIfInBounds i true) a' w') _ h2)
  · rename_i hw
    rw [if_neg hw] at h1
    exact ⟨fun _ => h1.1, h1.2⟩

theorem wpAnyG_one {R : Act → World → Prop} {fuel : Nat} {listed : Array Bool} {a : Act} {w : World} {i : Nat} (hr : Region.ready md ops listed = [i]) (hi : Comes1 P md ops R S H fuel listed a w i) : wpAnyG P md ops (OnlyN R) S H (fuel + 1) listed a w :=
  ⟨fun e => (by rw [hr] at e; cases e), fun j hj => by rw [hr, List.mem_singleton] at hj; subst hj; exact hi.op⟩
theorem wpAnyG_two {R : Act → World → Prop} {fuel : Nat} {listed : Array Bool} {a : Act} {w : World} {i j : Nat} (hr : Region.ready md ops listed = [i, j]) (hi : Comes1 P md ops R S H fuel listed a w i) (hj : Comes1 P md ops R S H fuel listed a w j) :
    wpAnyG P md ops (OnlyN R) S H (fuel + 1) listed a w :=
  ⟨fun e => (by rw [hr] at e; cases e), fun k hk => by
    rw [hr] at hk
    rcases List.mem_cons.1 hk with rfl | hk
    · exact hi.op
    · rw [List.mem_singleton] at hk
      subst hk
      exact hj.op⟩
theorem wpAnyG_three {R : Act → World → Prop} {fuel : Nat} {listed : Array Bool} {a : Act} {w : World} {i j k : Nat} (hr : Region.ready md ops listed = [i, j, k]) (hi : Comes1 P md ops R S H fuel listed a w i) (hj : Comes1 P md ops R S H fuel listed a w j)
    (hk : Comes1 P md ops R S H fuel listed a w k) : wpAnyG P md ops (OnlyN R) S H (fuel + 1) listed a w :=
  ⟨fun e => (by rw [hr] at e; cases e), fun l hl => by
    rw [hr] at hl
    rcases List.mem_cons.1 hl with rfl | hl
    · exact hi.op
    rcases List.mem_cons.1 hl with rfl | hl
    · exact hj.op
    · rw [List.mem_singleton] at hl
      subst hl
      exact hk.op⟩
theorem wpTail_free1 {R : Act → World → Prop} {i : Nat} {o : Oper} {a : Act} {w : World} (h1 : ops.toList[i]? = some o) (hq : ([i].all fun t => !gReq md ops H t) = true) (h : wpList P ops (OnlyN R) [o] a w) : wpTail P md ops (OnlyN R) S H [i] a w :=
  wpTail_free [i] [o] a w (by simp at h1; simp [h1]) hq h
theorem wpTail_free2 {R : Act → World → Prop} {i j : Nat} {o p : Oper} {a : Act} {w : World} (h1 : ops.toList[i]? = some o) (h2 : ops.toList[j]? = some p) (hq : ([i, j].all fun t => !gReq md ops H t) = true) (h : wpList P ops (OnlyN R) [o, p] a w) : wpTail P md ops (OnlyN R) S H [i, j] a w :=
  wpTail_free [i, j] [o, p] a w (by simp at h1 h2; simp [h1, h2]) hq h
theorem wpTail_free3 {R : Act → World → Prop} {i j k : Nat} {o p q : Oper} {a : Act} {w : World} (h1 : ops.toList[i]? = some o) (h2 : ops.toList[j]? = some p) (h3 : ops.toList[k]? = some q) (hq : ([i, j, k].all fun t => !gReq md ops H t) = true) (h : wpList P ops (OnlyN R) [o, p, q] a w) : wpTail P md ops (OnlyN R) S H [i, j, k] a w :=
  wpTail_free [i, j, k] [o, p, q] a w (by simp at h1 h2 h3; simp [h1, h2, h3]) hq h
end
end Go.Proofs.Ytgkemmdghmklfaa
