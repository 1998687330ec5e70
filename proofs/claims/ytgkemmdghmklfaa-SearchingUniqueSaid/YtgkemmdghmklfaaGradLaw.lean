/-
  GRADING, plain: a merge sort and an insertion put a list into one and the same order. No walk.
-/
import Derived.Test.YtgkemmdghmklfaaBase
namespace Go.Proofs.Ytgkemmdghmklfaa
set_option linter.unusedVariables false
set_option linter.unusedSimpArgs false
/-! ### A comparison -/
structure POrd {α : Type} (c : α → α → Int) : Prop where
  neg : ∀ x y, c y x = -c x y
  tr : ∀ x y z, c x y ≤ 0 → c y z ≤ 0 → c x z ≤ 0
theorem POrd.flip {α : Type} {c : α → α → Int} (h : POrd c) : POrd (fun x y => c y x) :=
  ⟨fun x y => h.neg y x, fun x y z a b => h.tr z y x b a⟩
theorem POrd.via {α β : Type} {c : α → α → Int} (h : POrd c) (f : β → α) : POrd (fun x y => c (f x) (f y)) :=
  ⟨fun x y => h.neg _ _, fun x y z a b => h.tr _ _ _ a b⟩
theorem POrd.lt1 {α : Type} {c : α → α → Int} (h : POrd c) {x y z : α} (a : c x y < 0) (b : c y z ≤ 0) : c x z < 0 := by
  have h1 := h.neg x y
  have h2 := h.neg x z
  have h3 := h.neg y z
  have h4 := h.tr y z x b
  omega
theorem POrd.lt2 {α : Type} {c : α → α → Int} (h : POrd c) {x y z : α} (a : c x y ≤ 0) (b : c y z < 0) : c x z < 0 := by
  have h1 := h.neg x y
  have h2 := h.neg x z
  have h3 := h.neg y z
  have h4 := h.tr z x y
  omega

/-- Before: by the comparison, equal ones by their numbers. -/
def Bef {α : Type} (c : α → α → Int) (no : α → Int) (x y : α) : Prop := c x y < 0 ∨ (c x y = 0 ∧ no x < no y)
theorem Bef.trans {α : Type} {c : α → α → Int} (h : POrd c) {no : α → Int} {x y z : α} (a : Bef c no x y) (b : Bef c no y z) : Bef c no x z := by
  unfold Bef at *
  rcases a with a | ⟨a, a'⟩ <;> rcases b with b | ⟨b, b'⟩
  · exact .inl (h.lt1 a (by omega))
  · exact .inl (h.lt1 a (by omega))
  · exact .inl (h.lt2 (by omega) b)
  · have h1 := h.tr x y z (by omega) (by omega)
    by_cases hz : c x z = 0
    · exact .inr ⟨hz, by omega⟩
    · exact .inl (by omega)
theorem Bef.asymm {α : Type} {c : α → α → Int} (h : POrd c) {no : α → Int} {x y : α} (a : Bef c no x y) (b : Bef c no y x) : False := by
  unfold Bef at *
  have := h.neg x y
  omega

/-! ### Merging -/
def mrg {α : Type} (c : α → α → Int) : List α → List α → List α
  | [], b => b
  | a :: s, [] => a :: s
  | a :: s, b :: t => if c a b ≤ 0 then a :: mrg c s (b :: t) else b :: mrg c (a :: s) t
termination_by a b => a.length + b.length
theorem mrg_nil_l {α : Type} (c : α → α → Int) (b : List α) : mrg c [] b = b := by rw [mrg]
theorem mrg_nil_r {α : Type} (c : α → α → Int) (a : List α) : mrg c a [] = a := by cases a <;> rw [mrg]
theorem mrg_perm {α : Type} (c : α → α → Int) : ∀ (n : Nat) (a b : List α), a.length + b.length ≤ n → (mrg c a b).Perm (a ++ b)
  | _, [], b, _ => by rw [mrg_nil_l]; exact .refl _
  | _, a :: s, [], _ => by rw [mrg_nil_r]; simp
  | 0, a :: s, b :: t, h => by simp at h
  | n + 1, a :: s, b :: t, h => by
    rw [mrg]
    simp only [List.length_cons] at h
    split
    · exact (mrg_perm c n s (b :: t) (by simp only [List.length_cons]; omega)).cons a
    · exact ((mrg_perm c n (a :: s) t (by simp only [List.length_cons]; omega)).cons b).trans List.perm_middle.symm
theorem mrg_pw {α : Type} {c : α → α → Int} {R : α → α → Prop} (tr : ∀ x y z, R x y → R y z → R x z) : ∀ (n : Nat) (a b : List α), a.length + b.length ≤ n → a.Pairwise R → b.Pairwise R →
    (∀ x ∈ a, ∀ y ∈ b, (c x y ≤ 0 → R x y) ∧ (0 < c x y → R y x)) → (mrg c a b).Pairwise R
  | _, [], b, _, _, hb, _ => by rw [mrg_nil_l]; exact hb
  | _, a :: s, [], _, ha, _, _ => by rw [mrg_nil_r]; exact ha
  | 0, a :: s, b :: t, h, _, _, _ => by simp at h
  | n + 1, a :: s, b :: t, h, ha, hb, hx => by
    rw [mrg]
    simp only [List.length_cons] at h
    have ha' := List.pairwise_cons.1 ha
    have hb' := List.pairwise_cons.1 hb
    have hab := hx a (by simp) b (by simp)
    split
    · rename_i h1
      refine List.pairwise_cons.2 ⟨fun z hz => ?_, mrg_pw tr n s (b :: t) (by simp only [List.length_cons]; omega) ha'.2 hb fun x hx1 y hy => hx x (by simp [hx1]) y hy⟩
      have hz := (mrg_perm c _ s (b :: t) (Nat.le_refl _)).mem_iff.1 hz
      rcases List.mem_append.1 hz with hz | hz
      · exact ha'.1 z hz
      · rcases List.mem_cons.1 hz with rfl | hz
        · exact hab.1 h1
        · exact tr _ _ _ (hab.1 h1) (hb'.1 z hz)
    · rename_i h1
      refine List.pairwise_cons.2 ⟨fun z hz => ?_, mrg_pw tr n (a :: s) t (by simp only [List.length_cons]; omega) ha hb'.2 fun x hx1 y hy => hx x hx1 y (by simp [hy])⟩
      have hz := (mrg_perm c _ (a :: s) t (Nat.le_refl _)).mem_iff.1 hz
      rcases List.mem_append.1 hz with hz | hz
      · rcases List.mem_cons.1 hz with rfl | hz
        · exact hab.2 (by omega)
        · exact tr _ _ _ (hab.2 (by omega)) (ha'.1 z hz)
      · exact hb'.1 z hz
/-- The merge sort of the program. -/
def msort {α : Type} (c : α → α → Int) : Nat → List α → List α
  | 0, l => l
  | m + 1, l => if l.length < 2 then l else mrg c (msort c m (l.take (l.length / 2))) (msort c m (l.drop (l.length / 2)))
theorem msort_perm {α : Type} (c : α → α → Int) : ∀ (m : Nat) (l : List α), (msort c m l).Perm l
  | 0, l => .refl _
  | m + 1, l => by
    rw [msort]
    split
    · exact .refl _
    · refine (mrg_perm c _ _ _ (Nat.le_refl _)).trans ?_
      refine ((msort_perm c m _).append (msort_perm c m _)).trans ?_
      rw [List.take_append_drop]
theorem msort_pw {α : Type} {c : α → α → Int} (h : POrd c) {no : α → Int} : ∀ (m : Nat) (l : List α), l.length ≤ m → l.Pairwise (fun x y => no x < no y) → (msort c m l).Pairwise (Bef c no)
  | 0, l, hl, _ => by
    have : l = [] := List.length_eq_zero_iff.1 (by omega)
    subst this; rw [msort]; exact .nil
  | m + 1, l, hl, hp => by
    rw [msort]
    split
    · rename_i h1
      cases l with
      | nil => exact .nil
      | cons x r =>
        have : r = [] := List.length_eq_zero_iff.1 (by simp at h1; omega)
        subst this; simp
    · rename_i h1
      have hT : (l.take (l.length / 2)).length ≤ m := by rw [List.length_take]; omega
      have hD : (l.drop (l.length / 2)).length ≤ m := by rw [List.length_drop]; omega
      refine mrg_pw (fun x y z a b => a.trans h b) _ _ _ (Nat.le_refl _) (msort_pw h m _ hT hp.take) (msort_pw h m _ hD hp.drop) fun x hx y hy => ?_
      have hx := (msort_perm c m _).mem_iff.1 hx
      have hy := (msort_perm c m _).mem_iff.1 hy
      have hlt : no x < no y := by
        have := hp
        rw [← List.take_append_drop (l.length / 2) l] at this
        exact (List.pairwise_append.1 this).2.2 x hx y hy
      have hn := h.neg x y
      refine ⟨fun h2 => ?_, fun h2 => .inl (by omega)⟩
      by_cases hz : c x y = 0
      · exact .inr ⟨hz, hlt⟩
      · exact .inl (by omega)

/-! ### The reference's insertion -/
def insK (c : Int → Int → Int) (i : Int) (out : List Int) : Nat → Nat
  | 0 => 0
  | k + 1 => if c i (out.getD k 0) < 0 then insK c i out k else k + 1
def insAll (c : Int → Int → Int) : Nat → List Int
  | 0 => []
  | n + 1 => (insAll c n).take (insK c n (insAll c n) (insAll c n).length) ++ (n : Int) :: (insAll c n).drop (insK c n (insAll c n) (insAll c n).length)
theorem insK_le (c : Int → Int → Int) (i : Int) (out : List Int) : ∀ k, insK c i out k ≤ k
  | 0 => Nat.le_refl _
  | k + 1 => by rw [insK]; split; have := insK_le c i out k; omega; exact Nat.le_refl _
theorem insK_hi (c : Int → Int → Int) (i : Int) (out : List Int) : ∀ k j, insK c i out k ≤ j → j < k → c i (out.getD j 0) < 0
  | 0, j, _, h => by omega
  | k + 1, j, h1, h2 => by
    rw [insK] at h1
    split at h1
    · rename_i h3
      by_cases hj : j = k
      · rw [hj]; exact h3
      · exact insK_hi c i out k j h1 (by omega)
    · omega
theorem insK_lo (c : Int → Int → Int) (i : Int) (out : List Int) : ∀ k, 0 < insK c i out k → 0 ≤ c i (out.getD (insK c i out k - 1) 0)
  | 0, h => by simp [insK] at h
  | k + 1, h => by
    rw [insK] at h ⊢
    split
    · rename_i h1; rw [if_pos h1] at h; exact insK_lo c i out k h
    · rename_i h1; simp only [Nat.add_sub_cancel]; omega
def idxs (n : Nat) : List Int := (List.range n).map fun (i : Nat) => (i : Int)
theorem idxs_succ (n : Nat) : idxs (n + 1) = idxs n ++ [(n : Int)] := by unfold idxs; rw [List.range_succ]; simp
theorem idxs_mem {n : Nat} {i : Int} : i ∈ idxs n ↔ 0 ≤ i ∧ i < n := by
  unfold idxs
  simp only [List.mem_map, List.mem_range]
  constructor
  · rintro ⟨k, h, rfl⟩; omega
  · intro h; exact ⟨i.toNat, by omega, by omega⟩
theorem idxs_pw : ∀ n, (idxs n).Pairwise (fun x y => x < y)
  | 0 => .nil
  | n + 1 => by
    rw [idxs_succ]
    refine List.pairwise_append.2 ⟨idxs_pw n, by simp, fun a ha b hb => ?_⟩
    have := idxs_mem.1 ha
    simp at hb
    omega
theorem insAll_perm (c : Int → Int → Int) : ∀ n, (insAll c n).Perm (idxs n)
  | 0 => .refl _
  | n + 1 => by
    rw [insAll, idxs_succ]
    refine List.perm_middle.trans ?_
    rw [List.take_append_drop]
    exact ((insAll_perm c n).cons _).trans (List.perm_append_singleton _ _).symm
theorem getD_of_mem {l : List Int} {x : Int} (h : x ∈ l) : ∃ j, j < l.length ∧ l.getD j 0 = x := by
  obtain ⟨j, hj, e⟩ := List.getElem_of_mem h
  exact ⟨j, hj, by simp [List.getD, hj, e]⟩
theorem insAll_pw {c : Int → Int → Int} (h : POrd c) : ∀ n, (insAll c n).Pairwise (Bef c id)
  | 0 => .nil
  | n + 1 => by
    have ih := insAll_pw h n
    have hp := insAll_perm c n
    rw [insAll]
    generalize hl : insAll c n = o at *
    have hk := insK_le c n o o.length
    have hhi := insK_hi c n o o.length
    have hlo := insK_lo c n o o.length
    generalize insK c n o o.length = k at *
    have hlt : ∀ x ∈ o, x < n := fun x hx => (idxs_mem.1 (hp.mem_iff.1 hx)).2
    have hD : ∀ y ∈ o.drop k, Bef c id (n : Int) y := by
      intro y hy
      obtain ⟨j, hj, e⟩ := getD_of_mem hy
      rw [List.length_drop] at hj
      have := hhi (k + j) (by omega) (by omega)
      have e2 : o.getD (k + j) 0 = y := by rw [← e]; simp [List.getD]
      rw [e2] at this
      exact .inl this
    have hT : ∀ x ∈ o.take k, Bef c id x (n : Int) := by
      intro x hx
      obtain ⟨j, hj, e⟩ := getD_of_mem hx
      rw [List.length_take] at hj
      have e2 : o.getD j 0 = x := by rw [← e]; simp [List.getD, show j < k by omega]
      have hz := hlo (by omega)
      have hmem : o.getD (k - 1) 0 ∈ o := by
        have : k - 1 < o.length := by omega
        simp [List.getD, this]
      have hln := hlt _ hmem
      have hne := h.neg (n : Int) (o.getD (k - 1) 0)
      have hlast : Bef c id (o.getD (k - 1) 0) (n : Int) := by
        by_cases h0 : c (o.getD (k - 1) 0) n = 0
        · exact .inr ⟨h0, hln⟩
        · exact .inl (by omega)
      by_cases hjk : j = k - 1
      · rw [← e2, hjk]; exact hlast
      · refine Bef.trans h ?_ hlast
        have := List.pairwise_iff_getElem.1 ih j (k - 1) (by omega) (by omega) (by omega)
        rw [← e2]
        have e3 : o.getD j 0 = o[j]'(by omega) := by simp [List.getD, show j < o.length by omega]
        have e4 : o.getD (k - 1) 0 = o[k - 1]'(by omega) := by simp [List.getD, show k - 1 < o.length by omega]
        rw [e3, e4]; exact this
    refine List.pairwise_append.2 ⟨ih.take, List.pairwise_cons.2 ⟨hD, ih.drop⟩, fun a ha b hb => ?_⟩
    rcases List.mem_cons.1 hb with rfl | hb
    · exact hT a ha
    · exact (hT a ha).trans h (hD b hb)
/-- There is one list of the numbers in that order. -/
theorem order_one {c : Int → Int → Int} (h : POrd c) {n : Nat} {o : List Int} (hp : o.Perm (idxs n)) (hw : o.Pairwise (Bef c id)) : o = insAll c n :=
  List.Perm.eq_of_pairwise (le := Bef c id) (fun a b _ _ x y => (x.asymm h y).elim) hw (insAll_pw h n) (hp.trans (insAll_perm c n).symm)

/-! ### Rows with their numbers -/
def rowsN {α : Type} [Inhabited α] (l : List α) (n : Nat) : List (Int × α) := (List.range n).map fun (i : Nat) => ((i : Int), l.getD i default)
theorem rowsN_succ {α : Type} [Inhabited α] (l : List α) (n : Nat) : rowsN l (n + 1) = rowsN l n ++ [((n : Int), l.getD n default)] := by unfold rowsN; rw [List.range_succ]; simp
theorem rowsN_length {α : Type} [Inhabited α] (l : List α) (n : Nat) : (rowsN l n).length = n := by unfold rowsN; simp
theorem rowsN_fst {α : Type} [Inhabited α] (l : List α) (n : Nat) : (rowsN l n).map (·.1) = idxs n := by unfold rowsN idxs; simp
theorem rowsN_mem {α : Type} [Inhabited α] {l : List α} {n : Nat} {r : Int × α} (h : r ∈ rowsN l n) : r.2 = l.getD r.1.toNat default := by
  unfold rowsN at h
  obtain ⟨i, _, rfl⟩ := List.mem_map.1 h
  simp
/-- The grades: in order of a comparison of rows. -/
def grade {α : Type} [Inhabited α] (c : α → α → Int) (l : List α) : List Int := insAll (fun i j => c (l.getD i.toNat default) (l.getD j.toNat default)) l.length
theorem grade_perm {α : Type} [Inhabited α] (c : α → α → Int) (l : List α) : (grade c l).Perm (idxs l.length) := insAll_perm _ _
theorem grade_pw {α : Type} [Inhabited α] {c : α → α → Int} (h : POrd c) (l : List α) : (grade c l).Pairwise (Bef (fun i j : Int => c (l.getD i.toNat default) (l.getD j.toNat default)) id) :=
  insAll_pw (h.via fun i : Int => l.getD i.toNat default) _
theorem grade_one {α : Type} [Inhabited α] {c : α → α → Int} (h : POrd c) {l : List α} {o : List Int} (hp : o.Perm (idxs l.length))
    (hw : o.Pairwise (Bef (fun i j : Int => c (l.getD i.toNat default) (l.getD j.toNat default)) id)) : o = grade c l :=
  order_one (h.via fun i : Int => l.getD i.toNat default) hp hw
theorem grade_length {α : Type} [Inhabited α] (c : α → α → Int) (l : List α) : (grade c l).length = l.length := by rw [(grade_perm c l).length_eq]; unfold idxs; simp
theorem grade_mem {α : Type} [Inhabited α] {c : α → α → Int} {l : List α} {i : Int} (h : i ∈ grade c l) : 0 ≤ i ∧ i < l.length := idxs_mem.1 ((grade_perm c l).mem_iff.1 h)
theorem map_pick {α : Type} [Inhabited α] {l : List α} : ∀ {R : List (Int × α)}, (∀ r ∈ R, r.2 = l.getD r.1.toNat default) → R = (R.map (·.1)).map fun i => (i, l.getD i.toNat default)
  | [], _ => rfl
  | r :: R, h => by
    rw [List.map_cons, List.map_cons, ← map_pick fun x hx => h x (by simp [hx]), ← h r (by simp)]
/-- What the merge sort makes of the rows. -/
theorem msort_rows {α : Type} [Inhabited α] {c : α → α → Int} (h : POrd c) (l : List α) : msort (fun x y : Int × α => c x.2 y.2) l.length (rowsN l l.length) = (grade c l).map fun i => (i, l.getD i.toNat default) := by
  have hp := msort_perm (fun x y : Int × α => c x.2 y.2) l.length (rowsN l l.length)
  have hw := msort_pw (h.via fun x : Int × α => x.2) (no := fun x => x.1) l.length (rowsN l l.length) (by rw [rowsN_length]; omega) (by
    have := idxs_pw l.length
    rw [← rowsN_fst l] at this
    exact List.pairwise_map.1 this)
  generalize msort (fun x y : Int × α => c x.2 y.2) l.length (rowsN l l.length) = R at *
  have hm : ∀ r ∈ R, r.2 = l.getD r.1.toNat default := fun r hr => rowsN_mem (hp.mem_iff.1 hr)
  have h1 : R.map (·.1) = grade c l := by
    refine grade_one h (by rw [← rowsN_fst l]; exact hp.map _) ?_
    refine List.pairwise_map.2 (hw.imp_of_mem fun {a b} ha hb hab => ?_)
    have ea := hm a ha
    have eb := hm b hb
    have hab : c a.2 b.2 < 0 ∨ (c a.2 b.2 = 0 ∧ a.1 < b.1) := hab
    rw [ea, eb] at hab
    exact hab
  rw [← h1]
  exact map_pick hm

/-! ### What is sorted -/
theorem idxs_length (n : Nat) : (idxs n).length = n := by unfold idxs; simp
theorem idxs_getD {n k : Nat} (h : k < n) : (idxs n).getD k 0 = (k : Int) := by unfold idxs; simp [List.getD, h]
theorem pick_idxs {α : Type} [Inhabited α] (l : List α) : (idxs l.length).map (fun i => l.getD i.toNat default) = l := by
  unfold idxs
  rw [List.map_map]
  apply List.ext_getElem
  · simp
  · intro i h1 h2
    simp [List.getD, h2]
theorem picks_perm {α : Type} [Inhabited α] {l : List α} {o : List Int} (h : o.Perm (idxs l.length)) : (o.map fun i => l.getD i.toNat default).Perm l := by
  have := h.map fun i : Int => l.getD i.toNat default
  rw [pick_idxs] at this
  exact this
theorem sorted_one {l t : List Int} (h : l.Perm t) (h1 : l.Pairwise (fun a b => a ≤ b)) (h2 : t.Pairwise (fun a b => a ≤ b)) : l = t :=
  List.Perm.eq_of_pairwise (le := fun a b => a ≤ b) (fun a b _ _ x y => by have x : a ≤ b := x; have y : b ≤ a := y; omega) h1 h2 h
/-- What a sort leaves. -/
def sorted {α : Type} [Inhabited α] (c : α → α → Int) (l : List α) : List α := (grade c l).map fun i => l.getD i.toNat default
theorem sorted_perm {α : Type} [Inhabited α] (c : α → α → Int) (l : List α) : (sorted c l).Perm l := picks_perm (grade_perm c l)
theorem sorted_pw {α : Type} [Inhabited α] {c : α → α → Int} (h : POrd c) (l : List α) : (sorted c l).Pairwise (fun x y => c x y ≤ 0) := by
  unfold sorted
  refine List.pairwise_map.2 ((grade_pw h l).imp fun {a b} hab => ?_)
  have hab : c (l.getD a.toNat default) (l.getD b.toNat default) < 0 ∨ (c (l.getD a.toNat default) (l.getD b.toNat default) = 0 ∧ a < b) := hab
  omega
theorem idxs_nodup (n : Nat) : (idxs n).Nodup := (idxs_pw n).imp fun {a b} h => by omega
theorem getD_inj {l : List Int} (h : l.Nodup) {i j : Nat} (hi : i < l.length) (hj : j < l.length) (e : l.getD i 0 = l.getD j 0) : i = j := by
  have e2 : l[i] = l[j] := by simpa [List.getD, hi, hj] using e
  rcases Nat.lt_trichotomy i j with h1 | h1 | h1
  · exact absurd e2 (List.pairwise_iff_getElem.1 h i j hi hj h1)
  · exact h1
  · exact absurd e2.symm (List.pairwise_iff_getElem.1 h j i hj hi h1)
/-- The grades of grades are the inverse. -/
theorem grade_inv {a : List Int} (hp : a.Perm (idxs a.length)) {s : Int → Int → Int} (hs : POrd s) (hlt : ∀ x y, s x y ≤ 0 → x ≤ y) {i : Nat} (hi : i < a.length) : (grade s a).getD (a.getD i 0).toNat 0 = (i : Int) := by
  have hg := grade_perm s a
  have hn : a.Nodup := hp.nodup_iff.2 (idxs_nodup _)
  have e1 : sorted s a = idxs a.length := by
    refine sorted_one ((sorted_perm s a).trans hp) ((sorted_pw hs a).imp fun {x y} h => hlt x y h) ((idxs_pw _).imp fun {x y} h => by omega)
  have hmem : a.getD i 0 ∈ a := by simp [List.getD, hi]
  have hk := idxs_mem.1 (hp.mem_iff.1 hmem)
  generalize hK : a.getD i 0 = k at *
  have hlen := grade_length s a
  have hkl : k.toNat < (grade s a).length := by omega
  have hgm : (grade s a).getD k.toNat 0 ∈ grade s a := by simp [List.getD, hkl]
  have hgb := grade_mem hgm
  have e2 : a.getD ((grade s a).getD k.toNat 0).toNat default = k := by
    have h3 : (sorted s a).getD k.toNat 0 = k := by rw [e1, idxs_getD (by omega)]; omega
    unfold sorted at h3
    simp only [List.getD, List.getElem?_map] at h3
    simp only [List.getD]
    rw [List.getElem?_eq_getElem hkl] at h3 ⊢
    simpa using h3
  have e3 := getD_inj hn (i := ((grade s a).getD k.toNat 0).toNat) (j := i) (by omega) hi (by rw [hK]; exact e2)
  omega
end Go.Proofs.Ytgkemmdghmklfaa
