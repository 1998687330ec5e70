/-
  THE WALKS of the closures of grading.Up, Down, Sort, and of Up, Down. (Printed by gen_gup.py.)
-/
import Derived.Test.YtgeppialbkijiaaBase
import Derived.Test.YtgeppialbkijiaaCCells
import Derived.Test.YtgeppialbkijiaaAppA
import Derived.IntWalk
import Derived.Test.YtgeppialbkijiaaRCells
import Derived.Test.YtgeppialbkijiaaOM
namespace Go.Proofs.Ytgeppialbkijiaa
set_option linter.unusedVariables false
set_option linter.unusedSimpArgs false
/-! ### A comparison -/
structure POrd {α : Type} (c : α → α → Int) : Prop where
  neg : ∀ x y, c y x = -c x y
  tr : ∀ x y z, c x y ≤ 0 → c y z ≤ 0 → c x z ≤ 0
theorem POrd.flip {α : Type} {c : α → α → Int} (h : POrd c) : POrd (fun x y => c y x) :=
  ⟨fun x y => h.neg y x, fun x y z a b => h.tr z y x b a⟩
theorem POrd.via {α β : Type} {c : α → α → Int} (h : POrd c) (f : β → α) : POrd (fun x y => c (f x) (f y)) :=
  ⟨fun x y => h.neg _ _, fun x y z a b => h.tr _ _ _ a b⟩
theorem POrd.lt1 {α : Type} {c : α → α → Int} (h : POrd c) {x y z : α} (a : c x y < 0) (b : c y z ≤ 0) : c x z < 0 := by
  have h1 := h.neg x y
  have h2 := h.neg x z
  have h3 := h.neg y z
  have h4 := h.tr y z x b
  omega
theorem POrd.lt2 {α : Type} {c : α → α → Int} (h : POrd c) {x y z : α} (a : c x y ≤ 0) (b : c y z < 0) : c x z < 0 := by
  have h1 := h.neg x y
  have h2 := h.neg x z
  have h3 := h.neg y z
  have h4 := h.tr z x y
  omega

/-- Before: by the comparison, equal ones by their numbers. -/
def Bef {α : Type} (c : α → α → Int) (no : α → Int) (x y : α) : Prop := c x y < 0 ∨ (c x y = 0 ∧ no x < no y)
theorem Bef.trans {α : Type} {c : α → α → Int} (h : POrd c) {no : α → Int} {x y z : α} (a : Bef c no x y) (b : Bef c no y z) : Bef c no x z := by
  unfold Bef at *
  rcases a with a | ⟨a, a'⟩ <;> rcases b with b | ⟨b, b'⟩
  · exact .inl (h.lt1 a (by omega))
  · exact .inl (h.lt1 a (by omega))
  · exact .inl (h.lt2 (by omega) b)
  · have h1 := h.tr x y z (by omega) (by omega)
    by_cases hz : c x z = 0
    · exact .inr ⟨hz, by omega⟩
    · exact .inl (by omega)
theorem Bef.asymm {α : Type} {c : α → α → Int} (h : POrd c) {no : α → Int} {x y : α} (a : Bef c no x y) (b : Bef c no y x) : False := by
  unfold Bef at *
  have := h.neg x y
  omega

/-! ### Merging -/
def mrg {α : Type} (c : α → α → Int) : List α → List α → List α
  | [], b => b
  | a :: s, [] => a :: s
  | a :: s, b :: t => if c a b ≤ 0 then a :: mrg c s (b :: t) else b :: mrg c (a :: s) t
termination_by a b => a.length + b.length
theorem mrg_nil_l {α : Type} (c : α → α → Int) (b : List α) : mrg c [] b = b := by rw [mrg]
theorem mrg_nil_r {α : Type} (c : α → α → Int) (a : List α) : mrg c a [] = a := by cases a <;> rw [mrg]
theorem mrg_perm {α : Type} (c : α → α → Int) : ∀ (n : Nat) (a b : List α), a.length + b.length ≤ n → (mrg c a b).Perm (a ++ b)
  | _, [], b, _ => by rw [mrg_nil_l]; exact .refl _
  | _, a :: s, [], _ => by rw [mrg_nil_r]; simp
  | 0, a :: s, b :: t, h => by simp at h
  | n + 1, a :: s, b :: t, h => by
    rw [mrg]
    simp only [List.length_cons] at h
    split
    · exact (mrg_perm c n s (b :: t) (by simp only [List.length_cons]; omega)).cons a
    · exact ((mrg_perm c n (a :: s) t (by simp only [List.length_cons]; omega)).cons b).trans List.perm_middle.symm
theorem mrg_pw {α : Type} {c : α → α → Int} {R : α → α → Prop} (tr : ∀ x y z, R x y → R y z → R x z) : ∀ (n : Nat) (a b : List α), a.length + b.length ≤ n → a.Pairwise R → b.Pairwise R →
    (∀ x ∈ a, ∀ y ∈ b, (c x y ≤ 0 → R x y) ∧ (0 < c x y → R y x)) → (mrg c a b).Pairwise R
  | _, [], b, _, _, hb, _ => by rw [mrg_nil_l]; exact hb
  | _, a :: s, [], _, ha, _, _ => by rw [mrg_nil_r]; exact ha
  | 0, a :: s, b :: t, h, _, _, _ => by simp at h
  | n + 1, a :: s, b :: t, h, ha, hb, hx => by
    rw [mrg]
    simp only [List.length_cons] at h
    have ha' := List.pairwise_cons.1 ha
    have hb' := List.pairwise_cons.1 hb
    have hab := hx a (by simp) b (by simp)
    split
    · rename_i h1
      refine List.pairwise_cons.2 ⟨fun z hz => ?_, mrg_pw tr n s (b :: t) (by simp only [List.length_cons]; omega) ha'.2 hb fun x hx1 y hy => hx x (by simp [hx1]) y hy⟩
      have hz := (mrg_perm c _ s (b :: t) (Nat.le_refl _)).mem_iff.1 hz
      rcases List.mem_append.1 hz with hz | hz
      · exact ha'.1 z hz
      · rcases List.mem_cons.1 hz with rfl | hz
        · exact hab.1 h1
        · exact tr _ _ _ (hab.1 h1) (hb'.1 z hz)
    · rename_i h1
      refine List.pairwise_cons.2 ⟨fun z hz => ?_, mrg_pw tr n (a :: s) t (by simp only [List.length_cons]; omega) ha hb'.2 fun x hx1 y hy => hx x hx1 y (by simp [hy])⟩
      have hz := (mrg_perm c _ (a :: s) t (Nat.le_refl _)).mem_iff.1 hz
      rcases List.mem_append.1 hz with hz | hz
      · rcases List.mem_cons.1 hz with rfl | hz
        · exact hab.2 (by omega)
        · exact tr _ _ _ (hab.2 (by omega)) (ha'.1 z hz)
      · exact hb'.1 z hz
/-- The merge sort of the program. -/
def msort {α : Type} (c : α → α → Int) : Nat → List α → List α
  | 0, l => l
  | m + 1, l => if l.length < 2 then l else mrg c (msort c m (l.take (l.length / 2))) (msort c m (l.drop (l.length / 2)))
theorem msort_perm {α : Type} (c : α → α → Int) : ∀ (m : Nat) (l : List α), (msort c m l).Perm l
  | 0, l => .refl _
  | m + 1, l => by
    rw [msort]
    split
    · exact .refl _
    · refine (mrg_perm c _ _ _ (Nat.le_refl _)).trans ?_
      refine ((msort_perm c m _).append (msort_perm c m _)).trans ?_
      rw [List.take_append_drop]
theorem msort_pw {α : Type} {c : α → α → Int} (h : POrd c) {no : α → Int} : ∀ (m : Nat) (l : List α), l.length ≤ m → l.Pairwise (fun x y => no x < no y) → (msort c m l).Pairwise (Bef c no)
  | 0, l, hl, _ => by
    have : l = [] := List.length_eq_zero_iff.1 (by omega)
    subst this; rw [msort]; exact .nil
  | m + 1, l, hl, hp => by
    rw [msort]
    split
    · rename_i h1
      cases l with
      | nil => exact .nil
      | cons x r =>
        have : r = [] := List.length_eq_zero_iff.1 (by simp at h1; omega)
        subst this; simp
    · rename_i h1
      have hT : (l.take (l.length / 2)).length ≤ m := by rw [List.length_take]; omega
      have hD : (l.drop (l.length / 2)).length ≤ m := by rw [List.length_drop]; omega
      refine mrg_pw (fun x y z a b => a.trans h b) _ _ _ (Nat.le_refl _) (msort_pw h m _ hT hp.take) (msort_pw h m _ hD hp.drop) fun x hx y hy => ?_
      have hx := (msort_perm c m _).mem_iff.1 hx
      have hy := (msort_perm c m _).mem_iff.1 hy
      have hlt : no x < no y := by
        have := hp
        rw [← List.take_append_drop (l.length / 2) l] at this
        exact (List.pairwise_append.1 this).2.2 x hx y hy
      have hn := h.neg x y
      refine ⟨fun h2 => ?_, fun h2 => .inl (by omega)⟩
      by_cases hz : c x y = 0
      · exact .inr ⟨hz, hlt⟩
      · exact .inl (by omega)

/-! ### The reference's insertion -/
def insK (c : Int → Int → Int) (i : Int) (out : List Int) : Nat → Nat
  | 0 => 0
  | k + 1 => if c i (out.getD k 0) < 0 then insK c i out k else k + 1
def insAll (c : Int → Int → Int) : Nat → List Int
  | 0 => []
  | n + 1 => (insAll c n).take (insK c n (insAll c n) (insAll c n).length) ++ (n : Int) :: (insAll c n).drop (insK c n (insAll c n) (insAll c n).length)
theorem insK_le (c : Int → Int → Int) (i : Int) (out : List Int) : ∀ k, insK c i out k ≤ k
  | 0 => Nat.le_refl _
  | k + 1 => by rw [insK]; split; have := insK_le c i out k; omega; exact Nat.le_refl _
theorem insK_hi (c : Int → Int → Int) (i : Int) (out : List Int) : ∀ k j, insK c i out k ≤ j → j < k → c i (out.getD j 0) < 0
  | 0, j, _, h => by omega
  | k + 1, j, h1, h2 => by
    rw [insK] at h1
    split at h1
    · rename_i h3
      by_cases hj : j = k
      · rw [hj]; exact h3
      · exact insK_hi c i out k j h1 (by omega)
    · omega
theorem insK_lo (c : Int → Int → Int) (i : Int) (out : List Int) : ∀ k, 0 < insK c i out k → 0 ≤ c i (out.getD (insK c i out k - 1) 0)
  | 0, h => by simp [insK] at h
  | k + 1, h => by
    rw [insK] at h ⊢
    split
    · rename_i h1; rw [if_pos h1] at h; exact insK_lo c i out k h
    · rename_i h1; simp only [Nat.add_sub_cancel]; omega
def idxs (n : Nat) : List Int := (List.range n).map fun (i : Nat) => (i : Int)
theorem idxs_succ (n : Nat) : idxs (n + 1) = idxs n ++ [(n : Int)] := by unfold idxs; rw [List.range_succ]; simp
theorem idxs_mem {n : Nat} {i : Int} : i ∈ idxs n ↔ 0 ≤ i ∧ i < n := by
  unfold idxs
  simp only [List.mem_map, List.mem_range]
  constructor
  · rintro ⟨k, h, rfl⟩; omega
  · intro h; exact ⟨i.toNat, by omega, by omega⟩
theorem idxs_pw : ∀ n, (idxs n).Pairwise (fun x y => x < y)
  | 0 => .nil
  | n + 1 => by
    rw [idxs_succ]
    refine List.pairwise_append.2 ⟨idxs_pw n, by simp, fun a ha b hb => ?_⟩
    have := idxs_mem.1 ha
    simp at hb
    omega
theorem insAll_perm (c : Int → Int → Int) : ∀ n, (insAll c n).Perm (idxs n)
  | 0 => .refl _
  | n + 1 => by
    rw [insAll, idxs_succ]
    refine List.perm_middle.trans ?_
    rw [List.take_append_drop]
    exact ((insAll_perm c n).cons _).trans (List.perm_append_singleton _ _).symm
theorem getD_of_mem {l : List Int} {x : Int} (h : x ∈ l) : ∃ j, j < l.length ∧ l.getD j 0 = x := by
  obtain ⟨j, hj, e⟩ := List.getElem_of_mem h
  exact ⟨j, hj, by simp [List.getD, hj, e]⟩
theorem insAll_pw {c : Int → Int → Int} (h : POrd c) : ∀ n, (insAll c n).Pairwise (Bef c id)
  | 0 => .nil
  | n + 1 => by
    have ih := insAll_pw h n
    have hp := insAll_perm c n
    rw [insAll]
    generalize hl : insAll c n = o at *
    have hk := insK_le c n o o.length
    have hhi := insK_hi c n o o.length
    have hlo := insK_lo c n o o.length
    generalize insK c n o o.length = k at *
    have hlt : ∀ x ∈ o, x < n := fun x hx => (idxs_mem.1 (hp.mem_iff.1 hx)).2
    have hD : ∀ y ∈ o.drop k, Bef c id (n : Int) y := by
      intro y hy
      obtain ⟨j, hj, e⟩ := getD_of_mem hy
      rw [List.length_drop] at hj
      have := hhi (k + j) (by omega) (by omega)
      have e2 : o.getD (k + j) 0 = y := by rw [← e]; simp [List.getD]
      rw [e2] at this
      exact .inl this
    have hT : ∀ x ∈ o.take k, Bef c id x (n : Int) := by
      intro x hx
      obtain ⟨j, hj, e⟩ := getD_of_mem hx
      rw [List.length_take] at hj
      have e2 : o.getD j 0 = x := by rw [← e]; simp [List.getD, show j < k by omega]
      have hz := hlo (by omega)
      have hmem : o.getD (k - 1) 0 ∈ o := by
        have : k - 1 < o.length := by omega
        simp [List.getD, this]
      have hln := hlt _ hmem
      have hne := h.neg (n : Int) (o.getD (k - 1) 0)
      have hlast : Bef c id (o.getD (k - 1) 0) (n : Int) := by
        by_cases h0 : c (o.getD (k - 1) 0) n = 0
        · exact .inr ⟨h0, hln⟩
        · exact .inl (by omega)
      by_cases hjk : j = k - 1
      · rw [← e2, hjk]; exact hlast
      · refine Bef.trans h ?_ hlast
        have := List.pairwise_iff_getElem.1 ih j (k - 1) (by omega) (by omega) (by omega)
        rw [← e2]
        have e3 : o.getD j 0 = o[j]'(by omega) := by simp [List.getD, show j < o.length by omega]
        have e4 : o.getD (k - 1) 0 = o[k - 1]'(by omega) := by simp [List.getD, show k - 1 < o.length by omega]
        rw [e3, e4]; exact this
    refine List.pairwise_append.2 ⟨ih.take, List.pairwise_cons.2 ⟨hD, ih.drop⟩, fun a ha b hb => ?_⟩
    rcases List.mem_cons.1 hb with rfl | hb
    · exact hT a ha
    · exact (hT a ha).trans h (hD b hb)
/-- There is one list of the numbers in that order. -/
theorem order_one {c : Int → Int → Int} (h : POrd c) {n : Nat} {o : List Int} (hp : o.Perm (idxs n)) (hw : o.Pairwise (Bef c id)) : o = insAll c n :=
  List.Perm.eq_of_pairwise (le := Bef c id) (fun a b _ _ x y => (x.asymm h y).elim) hw (insAll_pw h n) (hp.trans (insAll_perm c n).symm)

/-! ### Rows with their numbers -/
def rowsN {α : Type} [Inhabited α] (l : List α) (n : Nat) : List (Int × α) := (List.range n).map fun (i : Nat) => ((i : Int), l.getD i default)
theorem rowsN_succ {α : Type} [Inhabited α] (l : List α) (n : Nat) : rowsN l (n + 1) = rowsN l n ++ [((n : Int), l.getD n default)] := by unfold rowsN; rw [List.range_succ]; simp
theorem rowsN_length {α : Type} [Inhabited α] (l : List α) (n : Nat) : (rowsN l n).length = n := by unfold rowsN; simp
theorem rowsN_fst {α : Type} [Inhabited α] (l : List α) (n : Nat) : (rowsN l n).map (·.1) = idxs n := by unfold rowsN idxs; simp
theorem rowsN_mem {α : Type} [Inhabited α] {l : List α} {n : Nat} {r : Int × α} (h : r ∈ rowsN l n) : r.2 = l.getD r.1.toNat default := by
  unfold rowsN at h
  obtain ⟨i, _, rfl⟩ := List.mem_map.1 h
  simp
/-- The grades: in order of a comparison of rows. -/
def grade {α : Type} [Inhabited α] (c : α → α → Int) (l : List α) : List Int := insAll (fun i j => c (l.getD i.toNat default) (l.getD j.toNat default)) l.length
theorem grade_perm {α : Type} [Inhabited α] (c : α → α → Int) (l : List α) : (grade c l).Perm (idxs l.length) := insAll_perm _ _
theorem grade_pw {α : Type} [Inhabited α] {c : α → α → Int} (h : POrd c) (l : List α) : (grade c l).Pairwise (Bef (fun i j : Int => c (l.getD i.toNat default) (l.getD j.toNat default)) id) :=
  insAll_pw (h.via fun i : Int => l.getD i.toNat default) _
theorem grade_one {α : Type} [Inhabited α] {c : α → α → Int} (h : POrd c) {l : List α} {o : List Int} (hp : o.Perm (idxs l.length))
    (hw : o.Pairwise (Bef (fun i j : Int => c (l.getD i.toNat default) (l.getD j.toNat default)) id)) : o = grade c l :=
  order_one (h.via fun i : Int => l.getD i.toNat default) hp hw
theorem grade_length {α : Type} [Inhabited α] (c : α → α → Int) (l : List α) : (grade c l).length = l.length := by rw [(grade_perm c l).length_eq]; unfold idxs; simp
theorem grade_mem {α : Type} [Inhabited α] {c : α → α → Int} {l : List α} {i : Int} (h : i ∈ grade c l) : 0 ≤ i ∧ i < l.length := idxs_mem.1 ((grade_perm c l).mem_iff.1 h)
theorem map_pick {α : Type} [Inhabited α] {l : List α} : ∀ {R : List (Int × α)}, (∀ r ∈ R, r.2 = l.getD r.1.toNat default) → R = (R.map (·.1)).map fun i => (i, l.getD i.toNat default)
  | [], _ => rfl
  | r :: R, h => by
    rw [List.map_cons, List.map_cons, ← map_pick fun x hx => h x (by simp [hx]), ← h r (by simp)]
/-- What the merge sort makes of the rows. -/
theorem msort_rows {α : Type} [Inhabited α] {c : α → α → Int} (h : POrd c) (l : List α) : msort (fun x y : Int × α => c x.2 y.2) l.length (rowsN l l.length) = (grade c l).map fun i => (i, l.getD i.toNat default) := by
  have hp := msort_perm (fun x y : Int × α => c x.2 y.2) l.length (rowsN l l.length)
  have hw := msort_pw (h.via fun x : Int × α => x.2) (no := fun x => x.1) l.length (rowsN l l.length) (by rw [rowsN_length]; omega) (by
    have := idxs_pw l.length
    rw [← rowsN_fst l] at this
    exact List.pairwise_map.1 this)
  generalize msort (fun x y : Int × α => c x.2 y.2) l.length (rowsN l l.length) = R at *
  have hm : ∀ r ∈ R, r.2 = l.getD r.1.toNat default := fun r hr => rowsN_mem (hp.mem_iff.1 hr)
  have h1 : R.map (·.1) = grade c l := by
    refine grade_one h (by rw [← rowsN_fst l]; exact hp.map _) ?_
    refine List.pairwise_map.2 (hw.imp_of_mem fun {a b} ha hb hab => ?_)
    have ea := hm a ha
    have eb := hm b hb
    have hab : c a.2 b.2 < 0 ∨ (c a.2 b.2 = 0 ∧ a.1 < b.1) := hab
    rw [ea, eb] at hab
    exact hab
  rw [← h1]
  exact map_pick hm

/-! ### What is sorted -/
theorem idxs_length (n : Nat) : (idxs n).length = n := by unfold idxs; simp
theorem idxs_getD {n k : Nat} (h : k < n) : (idxs n).getD k 0 = (k : Int) := by unfold idxs; simp [List.getD, h]
theorem pick_idxs {α : Type} [Inhabited α] (l : List α) : (idxs l.length).map (fun i => l.getD i.toNat default) = l := by
  unfold idxs
  rw [List.map_map]
  apply List.ext_getElem
  · simp
  · intro i h1 h2
    simp [List.getD, h2]
theorem picks_perm {α : Type} [Inhabited α] {l : List α} {o : List Int} (h : o.Perm (idxs l.length)) : (o.map fun i => l.getD i.toNat default).Perm l := by
  have := h.map fun i : Int => l.getD i.toNat default
  rw [pick_idxs] at this
  exact this
theorem sorted_one {l t : List Int} (h : l.Perm t) (h1 : l.Pairwise (fun a b => a ≤ b)) (h2 : t.Pairwise (fun a b => a ≤ b)) : l = t :=
  List.Perm.eq_of_pairwise (le := fun a b => a ≤ b) (fun a b _ _ x y => by have x : a ≤ b := x; have y : b ≤ a := y; omega) h1 h2 h
/-- What a sort leaves. -/
def sorted {α : Type} [Inhabited α] (c : α → α → Int) (l : List α) : List α := (grade c l).map fun i => l.getD i.toNat default
theorem sorted_perm {α : Type} [Inhabited α] (c : α → α → Int) (l : List α) : (sorted c l).Perm l := picks_perm (grade_perm c l)
theorem sorted_pw {α : Type} [Inhabited α] {c : α → α → Int} (h : POrd c) (l : List α) : (sorted c l).Pairwise (fun x y => c x y ≤ 0) := by
  unfold sorted
  refine List.pairwise_map.2 ((grade_pw h l).imp fun {a b} hab => ?_)
  have hab : c (l.getD a.toNat default) (l.getD b.toNat default) < 0 ∨ (c (l.getD a.toNat default) (l.getD b.toNat default) = 0 ∧ a < b) := hab
  omega
theorem idxs_nodup (n : Nat) : (idxs n).Nodup := (idxs_pw n).imp fun {a b} h => by omega
theorem getD_inj {l : List Int} (h : l.Nodup) {i j : Nat} (hi : i < l.length) (hj : j < l.length) (e : l.getD i 0 = l.getD j 0) : i = j := by
  have e2 : l[i] = l[j] := by simpa [List.getD, hi, hj] using e
  rcases Nat.lt_trichotomy i j with h1 | h1 | h1
  · exact absurd e2 (List.pairwise_iff_getElem.1 h i j hi hj h1)
  · exact h1
  · exact absurd e2.symm (List.pairwise_iff_getElem.1 h j i hj hi h1)
/-- The grades of grades are the inverse. -/
theorem grade_inv {a : List Int} (hp : a.Perm (idxs a.length)) {s : Int → Int → Int} (hs : POrd s) (hlt : ∀ x y, s x y ≤ 0 → x ≤ y) {i : Nat} (hi : i < a.length) : (grade s a).getD (a.getD i 0).toNat 0 = (i : Int) := by
  have hg := grade_perm s a
  have hn : a.Nodup := hp.nodup_iff.2 (idxs_nodup _)
  have e1 : sorted s a = idxs a.length := by
    refine sorted_one ((sorted_perm s a).trans hp) ((sorted_pw hs a).imp fun {x y} h => hlt x y h) ((idxs_pw _).imp fun {x y} h => by omega)
  have hmem : a.getD i 0 ∈ a := by simp [List.getD, hi]
  have hk := idxs_mem.1 (hp.mem_iff.1 hmem)
  generalize hK : a.getD i 0 = k at *
  have hlen := grade_length s a
  have hkl : k.toNat < (grade s a).length := by omega
  have hgm : (grade s a).getD k.toNat 0 ∈ grade s a := by simp [List.getD, hkl]
  have hgb := grade_mem hgm
  have e2 : a.getD ((grade s a).getD k.toNat 0).toNat default = k := by
    have h3 : (sorted s a).getD k.toNat 0 = k := by rw [e1, idxs_getD (by omega)]; omega
    unfold sorted at h3
    simp only [List.getD, List.getElem?_map] at h3
    simp only [List.getD]
    rw [List.getElem?_eq_getElem hkl] at h3 ⊢
    simpa using h3
  have e3 := getD_inj hn (i := ((grade s a).getD k.toNat 0).toNat) (j := i) (by omega) hi (by rw [hK]; exact e2)
  omega
end Go.Proofs.Ytgeppialbkijiaa

namespace Go.Proofs.Ytgeppialbkijiaa
set_option linter.unusedSimpArgs false
set_option linter.unusedVariables false
open Go.RowKit

theorem infoG : (Try.prog.info? 96).map (fun i => (i.zero, i.size, i.bytes)) = some (some (.agg #[.int .i64 0, .int .i64 0, .slice none 0 0, .slice none 0 0, .slice none 0 0]), 5, 88) := by kernel_rfl
theorem sizeG : (Try.prog.info? 96).map (·.size) = some 5 := by kernel_rfl
theorem elemG : Try.prog.elem 90 = 96 := by kernel_rfl

/-- A row as it lies: its number, its tree, its cells. -/
structure GRow where
  no : Int
  t : Arr
  c0 : Value
  c1 : Value
  c2 : Value
  c3 : Value
def GRow.cells (r : GRow) : List Value := [.int .i64 r.no, r.c0, r.c1, r.c2, r.c3]
def GRow.val (r : GRow) : Value := .agg #[.int .i64 r.no, r.c0, r.c1, r.c2, r.c3]
def gcells : List GRow → List Value
  | [] => []
  | r :: l => r.cells ++ gcells l
theorem gcells_append : ∀ a b : List GRow, gcells (a ++ b) = gcells a ++ gcells b
  | [], _ => rfl
  | r :: a, b => by rw [List.cons_append, gcells, gcells, gcells_append a b, List.append_assoc]
theorem gcells_length : ∀ l : List GRow, (gcells l).length = l.length * 5
  | [] => rfl
  | r :: l => by rw [gcells, List.length_append, gcells_length l]; simp [GRow.cells]; omega
theorem gcells_get : ∀ (l : List GRow) (j k : Nat) (hj : j < l.length), k < 5 → (gcells l)[j * 5 + k]? = l[j].cells[k]?
  | [], j, k, hj, _ => by simp at hj
  | r :: l, 0, k, _, hk => by
    rw [gcells, List.getElem?_append_left (by simp [GRow.cells]; omega)]
    simp
  | r :: l, j + 1, k, hj, hk => by
    rw [gcells, List.getElem?_append_right (by simp [GRow.cells]; omega)]
    have := gcells_get l j k (by simpa using hj) hk
    simp only [List.getElem_cons_succ]
    rw [← this]
    congr 1
    simp [GRow.cells]; omega
theorem gcells_mem : ∀ {l : List GRow} {u : Value}, u ∈ gcells l → ∃ r ∈ l, u ∈ r.cells
  | [], u, h => by simp [gcells] at h
  | r :: l, u, h => by
    rw [gcells] at h
    rcases List.mem_append.1 h with h | h
    · exact ⟨r, by simp, h⟩
    · obtain ⟨x, hx, hu⟩ := gcells_mem h
      exact ⟨x, by simp [hx], hu⟩

/-- What a row says. -/
def GRow.ok (B : Nat) (w : World) (r : GRow) : Prop := (-9223372036854775808 ≤ r.no ∧ r.no ≤ 9223372036854775807) ∧ ArrAt (fun b => b < B) w r.t r.c0 r.c1 r.c2 r.c3
theorem GRow.ok.far {B : Nat} {w w' : World} {r : GRow} (h : r.ok B w) (hB : ∀ b, b < B → b < w.heap.size → w'.heap[b]? = w.heap[b]?) : r.ok B w' :=
  ⟨h.1, ArrAt.mono (fun b hb hlt => ⟨hb, hB b hb hlt⟩) _ _ _ _ _ h.2⟩
theorem GRow.ok.ext {B : Nat} {w w' : World} {r : GRow} (h : r.ok B w) (e : Ext w w') : r.ok B w' := ⟨h.1, h.2.ext e⟩
theorem GRow.ok.up {B B' : Nat} {w : World} {r : GRow} (h : r.ok B w) (hB : B ≤ B') : r.ok B' w := ⟨h.1, ArrAt.mono (fun b hb _ => ⟨Nat.lt_of_lt_of_le hb hB, rfl⟩) _ _ _ _ _ h.2⟩
theorem GRow.ok.one {B : Nat} {w : World} {r : GRow} (h : r.ok B w) : ∀ u ∈ r.cells, u.oneCell' = true := by
  intro u hu
  rcases List.mem_cons.1 hu with rfl | hu
  · rfl
  · exact h.2.one u hu

/-- The slice of p reads as the rows, in blocks below B. -/
def RowsAt (B : Nat) (w : World) (p : Option Addr) (L : List GRow) : Prop :=
  ∀ (j : Nat) (h : j < L.length), ∃ b off, p = some ⟨b, off, none⟩ ∧ b < B ∧ ∀ (k : Nat) (u : Value), L[j].cells[k]? = some u → w.cell? ⟨b, off + j * 5 + k, none⟩ = some u
theorem RowsAt.far {B : Nat} {w w' : World} {p : Option Addr} {L : List GRow} (h : RowsAt B w p L) (hB : ∀ b, b < B → b < w.heap.size → w'.heap[b]? = w.heap[b]?) : RowsAt B w' p L := by
  intro j hj
  obtain ⟨b, off, e, hb, hc⟩ := h j hj
  refine ⟨b, off, e, hb, fun k u hu => ?_⟩
  have := hc k u hu
  rw [World.cell?_of_block (hB b hb (World.block_lt_of_cell? w _ this))]
  exact this
theorem RowsAt.ext {B : Nat} {w w' : World} {p : Option Addr} {L : List GRow} (h : RowsAt B w p L) (e : Ext w w') : RowsAt B w' p L := h.far fun _ _ hlt => e.block hlt
theorem RowsAt.up {B B' : Nat} {w : World} {p : Option Addr} {L : List GRow} (h : RowsAt B w p L) (hB : B ≤ B') : RowsAt B' w p L := by
  intro j hj
  obtain ⟨b, off, e, hb, hc⟩ := h j hj
  exact ⟨b, off, e, by omega, hc⟩
theorem RowsAt.low {B : Nat} {w : World} {p : Option Addr} {L : List GRow} (h : RowsAt B w p L) : RowsAt w.heap.size w p L := by
  intro j hj
  obtain ⟨b, off, e, hb, hc⟩ := h j hj
  exact ⟨b, off, e, World.block_lt_of_cell? w _ (hc 0 _ rfl), hc⟩
theorem RowsAt.nil (B : Nat) (w : World) (p : Option Addr) : RowsAt B w p [] := fun j hj => by simp at hj
theorem RowsAt.cut {B : Nat} {w : World} {p : Option Addr} {L : List GRow} {n : Nat} (h : RowsAt B w p L) (k m : Nat) (hm : L.length ≤ m) : RowsAt B w (cutAt p k m 5) ((L.drop k).take n) := by
  intro j hj
  have hj2 := hj
  simp only [List.length_take, List.length_drop] at hj2
  obtain ⟨b, off, rfl, hb, hc⟩ := h (k + j) (by omega)
  unfold cutAt
  rw [if_neg (by omega)]
  refine ⟨b, off + k * 5, by simp [Addr.add_lit], hb, fun i u hu => ?_⟩
  have e : ((L.drop k).take n)[j] = L[k + j]'(by omega) := by simp
  rw [e] at hu
  have := hc i u hu
  rw [show off + k * 5 + j * 5 + i = off + (k + j) * 5 + i by omega]
  exact this
/-- One row, written out. -/
theorem RowsAt.get {B : Nat} {w : World} {p : Option Addr} {L : List GRow} (h : RowsAt B w p L) {j : Nat} (hj : j < L.length) :
    ∃ b off, p = some ⟨b, off, none⟩ ∧ b < B ∧ w.cell? ⟨b, off + j * 5, none⟩ = some (.int .i64 L[j].no) ∧ w.cell? ⟨b, off + j * 5 + 1, none⟩ = some L[j].c0 ∧ w.cell? ⟨b, off + j * 5 + 2, none⟩ = some L[j].c1 ∧
      w.cell? ⟨b, off + j * 5 + 3, none⟩ = some L[j].c2 ∧ w.cell? ⟨b, off + j * 5 + 4, none⟩ = some L[j].c3 := by
  obtain ⟨b, off, e, hb, hc⟩ := h j hj
  exact ⟨b, off, e, hb, hc 0 _ rfl, hc 1 _ rfl, hc 2 _ rfl, hc 3 _ rfl, hc 4 _ rfl⟩
theorem RowsAt.head {B : Nat} {w : World} {p : Option Addr} {r : GRow} {L : List GRow} (h : RowsAt B w p (r :: L)) :
    ∃ b off, p = some ⟨b, off, none⟩ ∧ b < B ∧ w.cell? ⟨b, off, none⟩ = some (.int .i64 r.no) ∧ w.cell? ⟨b, off + 1, none⟩ = some r.c0 ∧ w.cell? ⟨b, off + 2, none⟩ = some r.c1 ∧
      w.cell? ⟨b, off + 3, none⟩ = some r.c2 ∧ w.cell? ⟨b, off + 4, none⟩ = some r.c3 := by
  have := h.get (j := 0) (by simp)
  simpa using this
theorem RowsAt.tail {B : Nat} {w : World} {p : Option Addr} {r : GRow} {L : List GRow} (h : RowsAt B w p (r :: L)) {m : Nat} (hm : (r :: L).length ≤ m) : RowsAt B w (cutAt p 1 m 5) L := by
  have := h.cut (n := L.length) 1 m hm
  simpa using this

section
variable (p : Option Addr) (n c : Nat) (w : World)
theorem slice_lG (k : Nat) (hk : k ≤ n) : (Instr.sliceAt 90 (.slice p n c) (some (.int .i64 (k : Int))) none none).run Try.prog w = .ok (.slice (cutAt p k c 5) (n - k) (c - k)) w := by
  rw [run_sliceAt_slice _ _ _ _ _ _ (by rw [elemG]; exact Try.underlying90), run_slice_l _ _ _ _ _ (by rw [elemG]; exact Try.underlying90) .i64 (k : Int) (by omega) (by omega)]
  obtain ⟨i, hi, hs⟩ := Option.map_eq_some_iff.1 sizeG
  simp [elemG, sizeOf, typeInfo, hi, hs, sliced, cutAt]
theorem slice_hG (k : Nat) (hk : k ≤ c) : (Instr.sliceAt 90 (.slice p n c) none (some (.int .i64 (k : Int))) none).run Try.prog w = .ok (.slice (cutAt p 0 c 5) k c) w := by
  rw [run_sliceAt_slice _ _ _ _ _ _ (by rw [elemG]; exact Try.underlying90), run_slice_h _ _ _ _ _ (by rw [elemG]; exact Try.underlying90) .i64 (k : Int) (by omega) (by omega)]
  obtain ⟨i, hi, hs⟩ := Option.map_eq_some_iff.1 sizeG
  simp [elemG, sizeOf, typeInfo, hi, hs, sliced, cutAt]
end
theorem run_make_rows (n : Nat) (hn : n ≤ 65536) (w : World) : (Instr.makeSlice 90 (.int .i64 0) (.int .i64 (n : Int))).run Try.prog w = .ok (.slice (some ⟨w.heap.size, 0, none⟩) 0 n) (w.alloc (.cells (madeCells #[.int .i64 0, .int .i64 0, .slice none 0 0, .slice none 0 0, .slice none 0 0] (n * 5)) 96)) := by
  obtain ⟨i0, hi, hz0, hz1, hz2⟩ := info_parts infoG
  have := run_make (P := Try.prog) w 90 96 i0 _ Try.underlying90 hi hz0 .i64 .i64 0 n (by omega) (by omega) (by rw [hz2]; omega) (by omega)
  rw [hz1] at this
  simpa [Value.cells] using this

/-- The value v owns a row of rows, from block B on. -/
def OwnG (B : Nat) (w : World) (v : Value) (n : Nat) (L : List GRow) : Prop := L.length = n ∧ w.ownsRow B 96 5 v n (gcells L)
theorem OwnG.nil (B : Nat) (w : World) : OwnG B w (.slice none 0 0) 0 [] := ⟨rfl, World.ownsRow_nil _ _ _ _⟩
theorem OwnG.made (w : World) (n : Nat) (hn : n ≤ 65536) : OwnG w.heap.size (w.alloc (.cells (madeCells #[.int .i64 0, .int .i64 0, .slice none 0 0, .slice none 0 0, .slice none 0 0] (n * 5)) 96)) (.slice (some ⟨w.heap.size, 0, none⟩) 0 n) 0 [] :=
  ⟨rfl, ⟨by simp [gcells], .inr ⟨w.heap.size, n, _, rfl, Nat.le_refl _, heap_alloc_new _ _, Nat.zero_le _, by unfold maxLen; omega, by simp [madeCells], by simp [gcells]⟩⟩⟩
theorem OwnG.lt {B : Nat} {w : World} {v : Value} {n : Nat} {L : List GRow} (h : OwnG B w v n L) : ∀ g, v.ownBlock = some g → B ≤ g ∧ g < w.heap.size := h.2.lt
theorem OwnG.same {B : Nat} {w w' : World} {v : Value} {n : Nat} {L : List GRow} (h : OwnG B w v n L) (hs : ∀ g, v.ownBlock = some g → g < w.heap.size → w'.heap[g]? = w.heap[g]?) : OwnG B w' v n L :=
  ⟨h.1, ownsRow_same h.2 fun g hg => hs g hg (h.lt g hg).2⟩
theorem OwnG.ext {B : Nat} {w w' : World} {v : Value} {n : Nat} {L : List GRow} (h : OwnG B w v n L) (e : Ext w w') : OwnG B w' v n L := h.same fun g _ hlt => e.block hlt
theorem OwnG.form {B : Nat} {w : World} {v : Value} {n : Nat} {L : List GRow} (h : OwnG B w v n L) : ∃ p c, v = .slice p n c ∧ n ≤ c ∧ c ≤ 9223372036854775807 := by
  rcases h.2.2 with ⟨rfl, h0⟩ | ⟨g, cap, cur, rfl, _, _, hnc, hcm, _⟩
  · exact ⟨none, 0, by rw [h0], by omega, by omega⟩
  · exact ⟨_, _, rfl, hnc, by unfold maxLen at hcm; omega⟩
theorem OwnG.rows {B : Nat} {w : World} {v : Value} {n : Nat} {L : List GRow} (h : OwnG B w v n L) : ∃ p c, v = .slice p L.length c ∧ L.length ≤ c ∧ c ≤ 9223372036854775807 ∧ RowsAt w.heap.size w p L := by
  obtain ⟨h1, h2⟩ := h
  have kc := h2
  rcases h2.2 with ⟨rfl, h0⟩ | ⟨g, cap, cur, rfl, hb, hg, hnc, hcm, hcs, htake⟩
  · have : L = [] := List.eq_nil_of_length_eq_zero (by omega)
    subst this
    exact ⟨none, 0, rfl, by simp, by omega, RowsAt.nil _ _ _⟩
  · refine ⟨some ⟨g, 0, none⟩, cap, by rw [h1], by omega, by unfold maxLen at hcm; omega, fun j hj => ⟨g, 0, rfl, (kc.lt g rfl).2, fun k u hu => ?_⟩⟩
    have hk : k < 5 := by
      rcases Nat.lt_or_ge k 5 with hk | hk
      · exact hk
      · rw [List.getElem?_eq_none (by simpa [GRow.cells] using hk)] at hu; cases hu
    have := kc.cells (g := g) rfl (j * 5 + k) u (by rw [gcells_get L j k hj hk]; exact hu)
    simpa [Addr.add_lit, Nat.add_assoc] using this

/-- append(own, x): x lies in a box. -/
theorem wpList_append_g1 {ops : Array Oper} {rest : List Oper} {o : Oper} {a : Act} {w : World} {Q : Exit → Act → World → Prop} (hgd : o.guard = none) (s x : Operand)
    (ho : o.op = .call { callee := .builtin .append, args := #[s, x], argTypes := #[90, 90] })
    (B D : Nat) (v : Value) (n : Nat) (L : List GRow) (r : GRow) (hs : a.eval s = v) (hown : OwnG B w v n L) (b c : Nat) (hx : a.eval x = .slice (some ⟨b, 0, none⟩) 1 c)
    (hb : w.heap[b]? = some (.cells #[.int .i64 r.no, r.c0, r.c1, r.c2, r.c3] 96 (0, 0))) (hr : r.ok D w) (hn : n ≤ 65536) (hB : B ≤ w.heap.size)
    (h : ∀ g cap w', OwnG B w' (.slice (some ⟨g, 0, none⟩) (n + 1) cap) (n + 1) (L ++ [r]) → w.grownBy w' v.ownBlock → (v.ownBlock = some g ∨ g = w.heap.size) → g < w'.heap.size → B ≤ g →
      wpList Try.prog ops Q rest (a.put o.dst (.slice (some ⟨g, 0, none⟩) (n + 1) cap)) w') : wpList Try.prog ops Q (o :: rest) a w := by
  obtain ⟨i0, hi, hz0, hz1, hz2⟩ := info_parts infoG
  obtain ⟨k1, k3⟩ := hown
  refine wpList_append_lies w hgd s x 90 ho B 96 i0 _ 5 88 Try.underlying90 hi hz0 hz1 hz2 rfl (by decide) v n _ hs k3 ⟨b, 0, none⟩ 1 c r.cells hx rfl ?_ hr.one (by decide) (by unfold maxLen; omega) (by omega) hB w.heap.size rfl ?_
  · exact World.news_of_block (cs := #[.int .i64 r.no, r.c0, r.c1, r.c2, r.c3]) hb
  · intro g cap w' h1 hgrow hat hlt
    refine h g cap w' ⟨by simp [k1], ?_⟩ hgrow hat hlt (h1.lt g rfl).1
    rw [gcells_append]
    simpa [gcells] using h1
/-- append(own, xs...). -/
theorem wpList_append_gs {ops : Array Oper} {rest : List Oper} {o : Oper} {a : Act} {w : World} {Q : Exit → Act → World → Prop} (hgd : o.guard = none) (s x : Operand)
    (ho : o.op = .call { callee := .builtin .append, args := #[s, x], argTypes := #[90, 90] })
    (B D : Nat) (v : Value) (n : Nat) (L : List GRow) (p : Option Addr) (c : Nat) (xs : List GRow) (hs : a.eval s = v) (hown : OwnG B w v n L) (hx : a.eval x = .slice p xs.length c) (hr : RowsAt B w p xs) (hok : ∀ r ∈ xs, r.ok D w)
    (hn : n + xs.length ≤ 65536) (hB : B ≤ w.heap.size)
    (h : ∀ v' w', OwnG B w' v' (n + xs.length) (L ++ xs) → w.grownBy w' v.ownBlock → wpList Try.prog ops Q rest (a.put o.dst v') w') : wpList Try.prog ops Q (o :: rest) a w := by
  obtain ⟨i0, hi, hz0, hz1, hz2⟩ := info_parts infoG
  obtain ⟨ps, cs, hv, hcs, _⟩ := hown.form
  cases xs with
  | nil =>
    refine wpList_plain hgd fun K hK => ?_
    have hrun := run_append_none (P := Try.prog) w 90 o.type 96 i0 Try.underlying90 hi ps n cs hcs p c
    unfold Oper.wp execOp
    simp only [ho, resolve, invoke, builtin, Sem.run_bind, Sem.run_pure, Result.andThen_ok, List.map_toArray, List.map_cons, List.map_nil, hs, hv, hx, List.length_nil, hrun]
    rw [← hv]
    exact hK _ _ (h _ _ (by simpa using hown) ⟨rfl, rfl, rfl, Nat.le_refl _, fun _ _ _ => rfl⟩)
  | cons x0 r =>
    obtain ⟨k1, k3⟩ := hown
    have hr0 := hr
    obtain ⟨b, off, rfl, _, _⟩ := hr0 0 (by simp)
    refine wpList_append_lies w hgd s x 90 ho B 96 i0 _ 5 88 Try.underlying90 hi hz0 hz1 hz2 rfl (by decide) v n _ hs k3 ⟨b, off, none⟩ (x0 :: r).length c (gcells (x0 :: r)) hx (gcells_length _) ?_ ?_ (by simp) (by unfold maxLen; omega) (by omega) hB w.heap.size rfl ?_
    · intro j u hj
      have hlt : j < (x0 :: r).length * 5 := by
        rcases Nat.lt_or_ge j ((x0 :: r).length * 5) with h' | h'
        · exact h'
        · rw [List.getElem?_eq_none (by rw [gcells_length]; exact h')] at hj; cases hj
      have hq : j / 5 < (x0 :: r).length := Nat.div_lt_of_lt_mul (by rw [Nat.mul_comm]; exact hlt)
      have he : j = j / 5 * 5 + j % 5 := by omega
      rw [he, gcells_get _ _ _ hq (Nat.mod_lt _ (by decide))] at hj
      obtain ⟨b', off', e, _, hc⟩ := hr (j / 5) hq
      cases e
      have := hc _ _ hj
      rw [Addr.add_lit]
      rw [show off + j = off + j / 5 * 5 + j % 5 by omega]
      exact this
    · intro u hu
      obtain ⟨y, hy, hm⟩ := gcells_mem hu
      exact (hok y hy).one u hm
    · intro g cap w' h1 hgrow hat hlt
      refine h _ _ ⟨by simp [k1], ?_⟩ hgrow
      rw [gcells_append]
      exact h1

/-- A row whose array lies in the blocks from A on, below B. -/
def GRow.nw (A B : Nat) (w : World) (r : GRow) : Prop := ArrAt (fun b => A ≤ b ∧ b < B) w r.t r.c0 r.c1 r.c2 r.c3
theorem GRow.nw.ext {A B : Nat} {w w' : World} {r : GRow} (h : r.nw A B w) (e : Ext w w') : r.nw A B w' := ArrAt.ext h e
theorem GRow.nw.up {A B B' : Nat} {w : World} {r : GRow} (h : r.nw A B w) (hB : B ≤ B') : r.nw A B' w := ArrAt.mono (fun b hb _ => ⟨⟨hb.1, Nat.lt_of_lt_of_le hb.2 hB⟩, rfl⟩) _ _ _ _ _ h
theorem GRow.nw.grown {A B : Nat} {w w' : World} {r : GRow} {lo : List GRow} {v : Value} {n : Nat} (h : r.nw A B w) (hO : OwnG B w v n lo) (hg : w.grownBy w' v.ownBlock) : r.nw A B w' :=
  ArrAt.mono (fun b hb hlt => ⟨hb, hg.block b hlt fun e => by have := (hO.lt b e.symm).1; have := hb.2; omega⟩) _ _ _ _ _ h
theorem RowsAt.grown {B : Nat} {w w' : World} {p : Option Addr} {L lo : List GRow} {v : Value} {n : Nat} (h : RowsAt B w p L) (hO : OwnG B w v n lo) (hg : w.grownBy w' v.ownBlock) : RowsAt B w' p L :=
  h.far fun b hb hlt => hg.block b hlt fun e => by have := (hO.lt b e.symm).1; omega
theorem GRow.ok.grown {B : Nat} {w w' : World} {r : GRow} {lo : List GRow} {v : Value} {n : Nat} (h : r.ok B w) (hO : OwnG B w v n lo) (hg : w.grownBy w' v.ownBlock) : r.ok B w' :=
  h.far fun b hb hlt => hg.block b hlt fun e => by have := (hO.lt b e.symm).1; omega
end Go.Proofs.Ytgeppialbkijiaa

namespace Go.Proofs.Ytgeppialbkijiaa
set_option linter.unusedSimpArgs false
set_option linter.unusedVariables false
open Go.RowKit

def sliceLen : Value → Nat
  | .slice _ n _ => n
  | _ => 0
/-- A slice of rows that a call hands back. -/
def GivesRows (w : World) (n : Nat) (L : List GRow) (e : Ending) (w' : World) : Prop := ∃ p c, e = .returned (.slice p n c) ∧ n ≤ c ∧ c ≤ 9223372036854775807 ∧ RowsAt w'.heap.size w' p L ∧ Ext w w'

set_option maxRecDepth 100000 in
set_option maxHeartbeats 2000000 in
theorem merge_short (fid : Nat) (L : List GRow) (p : Option Addr) (c n : Nat) (w : World) (hn : L.length = n) (h2 : n < 2) (hc : n ≤ c) (hc6 : c ≤ 9223372036854775807) (hr : RowsAt w.heap.size w p L) :
    Calls Try.prog 67 #[.slice p n c, .func (.func fid) #[] #[]] w (GivesRows w n L) := by
  have HR := Lib.hid hr
  clear hr hn
  go_enter Try.func67, Try.ntmps67
  go_wp2_with fail
  go_ret
  exact ⟨p, c, rfl, hc, hc6, HR.out, Ext.refl _⟩

set_option maxRecDepth 1000000 in
set_option maxHeartbeats 8000000 in
theorem merge_any (fid : Nat) (cv : GRow → GRow → Int) (P : GRow → Prop)
    (HC : ∀ (args : Array Value) (w : World), (callFunc fid args).run Try.prog w = .ok (.enter fid args) w)
    (HF : ∀ (x y : GRow) (w : World), x.ok w.heap.size w → y.ok w.heap.size w → P x → P y → Calls Try.prog fid #[x.val, y.val] w fun e w' => e = .returned (.int .i64 (cv x y)) ∧ Ext w w') :
    ∀ (m : Nat) (L : List GRow) (p : Option Addr) (c n : Nat) (w : World), L.length = n → n ≤ m → n ≤ 65536 → n ≤ c → c ≤ 9223372036854775807 → RowsAt w.heap.size w p L → (∀ r ∈ L, r.ok w.heap.size w ∧ P r) →
      Calls Try.prog 67 #[.slice p n c, .func (.func fid) #[] #[]] w (GivesRows w n (msort cv m L)) := by
  intro m
  induction m with
  | zero =>
    intro L p c n w hn hm h6 hc hc6 hr hok
    rw [msort]
    exact merge_short fid L p c n w hn (by omega) hc hc6 hr
  | succ m ih =>
    intro L p c n w hn hm h6 hc hc6 hr hok
    by_cases h2 : n < 2
    · rw [msort, if_pos (by omega)]
      exact merge_short fid L p c n w hn h2 hc hc6 hr
    have hms : msort cv (m + 1) L = mrg cv (msort cv m (L.take (n / 2))) (msort cv m (L.drop (n / 2))) := by rw [msort, if_neg (by omega), hn]
    rw [hms]
    obtain ⟨h, hh⟩ : ∃ h, n / 2 = h := ⟨_, rfl⟩
    rw [hh]
    have hq : Int.tdiv (n : Int) 2 = (h : Int) := by rw [Int.tdiv_eq_ediv_of_nonneg (by omega)]; omega
    have hw : IntKind.i64.wrap (h : Int) = (h : Int) := IntWalk.i64_in _ (by omega)
    have hTl : (L.take h).length = h := by rw [List.length_take]; omega
    obtain ⟨n2, hn2⟩ : ∃ n2, n - h = n2 := ⟨_, rfl⟩
    have hDl : (L.drop h).length = n2 := by rw [List.length_drop]; omega
    have hR1 := hr.cut (n := h) 0 c (by omega)
    rw [List.drop_zero] at hR1
    have hR2 := hr.cut (n := n2) h c (by omega)
    rw [List.take_of_length_le (by omega)] at hR2
    have hs1 := fun w => slice_hG p n c w h (by omega)
    have hs2 := fun w => slice_lG p n c w h (by omega)
    rw [hn2] at hs2
    obtain ⟨c2, hc2⟩ : ∃ c2, c - h = c2 := ⟨_, rfl⟩
    rw [hc2] at hs2
    have HoT : Hid (∀ r ∈ L.take h, r.ok w.heap.size w ∧ P r) := fun r hx => hok r (List.mem_of_mem_take hx)
    have HoD : Hid (∀ r ∈ L.drop h, r.ok w.heap.size w ∧ P r) := fun r hx => hok r (List.mem_of_mem_drop hx)
    generalize cutAt p 0 c 5 = p1 at *
    generalize cutAt p h c 5 = p2 at *
    generalize L.take h = LT at *
    generalize L.drop h = LD at *
    have HR1 := Lib.hid hR1
    have HR2 := Lib.hid hR2
    have HTl := Lib.hid hTl
    have HDl := Lib.hid hDl
    have hb : h ≤ m ∧ n2 ≤ m ∧ h + n2 = n ∧ h ≤ c ∧ n2 ≤ c2 ∧ c2 ≤ 9223372036854775807 ∧ ¬ n < 2 ∧ h ≤ 65536 ∧ n2 ≤ 65536 := by omega
    obtain ⟨hb1, hb2, hb3, hb4, hb5, hb6, hb7, hb8, hb9⟩ := hb
    have HN := Lib.hid hb3
    clear hr hok hms hR1 hR2 hTl hDl hh hn2 hc2 hn hb3 h2
    go_enter Try.func67, Try.ntmps67
    go_wp2_with fail
    refine wp_region_g [0, 1, 2, 3, 4, 5, 7, 8, 9, 10, 11, 12] [6, 13, 14, 15] (fun w' => True) (by kernel_rfl) (by kernel_rfl) trivial ?_
    iterate 12
      refine wpHead_cons (v := ?_) rfl (by rfl) (fun w' hS => ?_) ?_
      rotate_left
      · go_simp
        try with_reducible rfl
      try simp only [Act.put, List.setIfInBounds_toArray, List.set]
    unfold wpHead
    refine wpTail_cons rfl (fun K hK => ?_)
    go_wp2_with fail
    refine (ih LT p1 c h w.drew HTl.out hb1 hb8 hb4 hc6 (HR1.out.ext (Ext.refl _).drew) (fun r hx => ⟨(HoT.out r hx).1.ext (Ext.refl _).drew, (HoT.out r hx).2⟩)).mono ?_
    rintro e w2 ⟨pa, ca, rfl, ha1, ha2, hA, hE2⟩
    have hEa := (Ext.refl w).drew.trans hE2
    go_wp2_with fail
    refine hK _ _ trivial ?_
    clear hK
    try simp only [Act.put, List.setIfInBounds_toArray, List.set]
    refine wpTail_cons rfl (fun K hK => ?_)
    go_wp2_with fail
    refine (ih LD p2 c2 n2 w2 HDl.out hb2 hb9 hb5 hb6 ((HR2.out.ext hEa).up hEa.lt) (fun r hx => ⟨((HoD.out r hx).1.ext hEa).up hEa.lt, (HoD.out r hx).2⟩)).mono ?_
    rintro e w3 ⟨pb, cb, rfl, hc1, hc2, hB, hE3⟩
    have hE := hEa.trans hE3
    have hA3 := (hA.ext hE3).up hE3.lt
    go_wp2_with fail
    refine hK _ _ trivial ?_
    clear hK
    try simp only [Act.put, List.setIfInBounds_toArray, List.set]
    refine wpTail_cons rfl (fun K hK => ?_)
    go_wp2_with fail
    refine hK _ _ trivial ?_
    clear hK
    try simp only [Act.put, List.setIfInBounds_toArray, List.set]
    refine wpTail_free1 rfl (by kernel_rfl) ?_
    have HA := Lib.hid hA3
    have HB := Lib.hid hB
    have HEw := Lib.hid hE
    have HAl : Hid ((msort cv m LT).length = h) := by rw [(msort_perm cv m LT).length_eq]; exact HTl.out
    have HBl : Hid ((msort cv m LD).length = n2) := by rw [(msort_perm cv m LD).length_eq]; exact HDl.out
    have HOA : Hid (∀ r ∈ msort cv m LT, r.ok w3.heap.size w3 ∧ P r) := fun r hx => by
      have h9 := HoT.out r ((msort_perm cv m LT).mem_iff.1 hx)
      exact ⟨(h9.1.ext HEw.out).up HEw.out.lt, h9.2⟩
    have HOB : Hid (∀ r ∈ msort cv m LD, r.ok w3.heap.size w3 ∧ P r) := fun r hx => by
      have h9 := HoD.out r ((msort_perm cv m LD).mem_iff.1 hx)
      exact ⟨(h9.1.ext HEw.out).up HEw.out.lt, h9.2⟩
    generalize msort cv m LT = A at *
    generalize msort cv m LD = B at *
    generalize hR : mrg cv A B = R at *
    have HRe := Lib.hid hR
    clear hA hB hA3 hE hEa hE2 hE3 ih hs1 hs2 HoT HoD HR1 HR2 HTl HDl hR hq hw hb1 hb2 hb4 hb5 hb6
    go_wp2_with fail
    refine OnlyN.mk ?_
    have hmk := run_make_rows n h6
    have hO0 := OwnG.made w3 n h6
    have hE0 : Ext w3 (w3.alloc (.cells (madeCells #[.int .i64 0, .int .i64 0, .slice none 0 0, .slice none 0 0, .slice none 0 0] (n * 5)) 96)) := (Ext.refl _).alloc _
    have HO0 := Lib.hid hO0
    have HE0 := Lib.hid hE0
    clear hO0 hE0
    go_wp2_with fail
    generalize w3.alloc (.cells (madeCells #[.int .i64 0, .int .i64 0, .slice none 0 0, .slice none 0 0, .slice none 0 0] (n * 5)) 96) = w4 at *
    go_loopw [5, 6, 7] (fun va vb vo wq => ∃ (pa pb po : Option Addr) (ca cb co na nb no : Nat) (la lb lo : List GRow), va = .slice pa na ca ∧ vb = .slice pb nb cb ∧ vo = .slice po no co ∧ na ≤ ca ∧ ca ≤ 9223372036854775807 ∧ nb ≤ cb ∧ cb ≤ 9223372036854775807 ∧ no ≤ n ∧ Hid (no + na + nb = n) ∧ Hid (la.length = na) ∧ Hid (lb.length = nb) ∧
      Hid (RowsAt w3.heap.size wq pa la) ∧ Hid (RowsAt w3.heap.size wq pb lb) ∧ Hid (OwnG w3.heap.size wq (.slice po no co) no lo) ∧ Hid (lo ++ mrg cv la lb = R) ∧ Hid (∀ r ∈ la, r.ok w3.heap.size wq ∧ P r) ∧ Hid (∀ r ∈ lb, r.ok w3.heap.size wq ∧ P r) ∧ Hid (Ext w3 wq)) (fun va vb _ _ => sliceLen va + sliceLen vb)
    case atStart =>
      exact ⟨pa, pb, _, ca, cb, _, h, n2, 0, A, B, [], rfl, rfl, rfl, ha1, ha2, hc1, hc2, Nat.zero_le _, by unfold Hid; have := HN.out; omega, HAl, HBl, HA.out.ext HE0.out, HB.out.ext HE0.out, HO0, by unfold Hid; rw [List.nil_append]; exact HRe.out, fun r hx => ⟨(HOA.out r hx).1.ext HE0.out, (HOA.out r hx).2⟩, fun r hx => ⟨(HOB.out r hx).1.ext HE0.out, (HOB.out r hx).2⟩, HE0⟩
    case round =>
      obtain ⟨pa, pb, po, ca, cb, co, na, nb, no, la, lb, lo, rfl, rfl, rfl, qa1, qa2, qb1, qb2, qn, HS, HLa, HLb, HRa, HRb, HO, HR, HKa, HKb, HE⟩ := hrel
      clear HA HB HAl HBl HOA HOB HRe HO0 HE0 hmk
      have hE9 := HE.out.lt
      by_cases h1 : 0 < na
      rotate_left
      · obtain rfl : la = [] := List.length_eq_zero_iff.1 (by rw [HLa.out]; omega)
        obtain rfl : na = 0 := by omega
        have hsum : no + 0 + nb ≤ 65536 := by have := HS.out; omega
        obtain rfl : nb = lb.length := HLb.out.symm
        have hR9 : lo ++ [] ++ lb = R := by rw [← HR.out, mrg_nil_l]; simp
        go_wp2_with (at_builtin; refine wpList_append_gs rfl _ _ rfl w3.heap.size w3.heap.size _ no lo pa ca [] rfl HO.out rfl HRa.out (fun r hx => (HKa.out r hx).1) (by simp; omega) hE9 ?_)
        intro v5 w5 ho5 hg5
        replace ho5 : OwnG w3.heap.size w5 v5 no lo := by simpa using ho5
        have hE5 : Ext w3 w5 := HE.out.grown hg5 hE9 (fun q e => (HO.out.lt q e).1)
        have hb5 := HRb.out.grown HO.out hg5
        have hk5 : ∀ r ∈ lb, r.ok w3.heap.size w5 := fun r hx => (HKb.out r hx).1.grown HO.out hg5
        go_wp2_with (at_builtin; refine wpList_append_gs rfl _ _ rfl w3.heap.size w3.heap.size _ no lo pb cb lb rfl ho5 rfl hb5 hk5 (by omega) hE5.lt ?_)
        intro v6 w6 ho6 hg6
        have hE6 : Ext w3 w6 := hE5.grown hg6 hE5.lt (fun q e => (ho5.lt q e).1)
        replace ho6 : OwnG w3.heap.size w6 v6 n R := by
          rw [← HS.out]
          first | (simpa using ho6) | (rw [← hR9]; simpa using ho6)
        have hln := ho6.1
        obtain ⟨p6, c6, rfl, l6, l6', hr6⟩ := ho6.rows
        rw [hln] at l6 ⊢
        clear ho5 ho6 hg5 hg6 hb5 hk5
        go_wp2_with fail
        go_ret
        exact ⟨p6, c6, rfl, l6, l6', hr6, HEw.out.trans hE6⟩
      by_cases h2 : 0 < nb
      rotate_left
      · obtain rfl : lb = [] := List.length_eq_zero_iff.1 (by rw [HLb.out]; omega)
        obtain rfl : nb = 0 := by omega
        have hsum : no + na + 0 ≤ 65536 := by have := HS.out; omega
        obtain rfl : na = la.length := HLa.out.symm
        have hR9 : lo ++ la ++ [] = R := by rw [← HR.out, mrg_nil_r]; simp
        go_wp2_with (at_builtin; refine wpList_append_gs rfl _ _ rfl w3.heap.size w3.heap.size _ no lo pa ca la rfl HO.out rfl HRa.out (fun r hx => (HKa.out r hx).1) (by omega) hE9 ?_)
        intro v5 w5 ho5 hg5
        have hE5 : Ext w3 w5 := HE.out.grown hg5 hE9 (fun q e => (HO.out.lt q e).1)
        have hb5 := HRb.out.grown HO.out hg5
        have hk5 : ∀ r ∈ ([] : List GRow), r.ok w3.heap.size w5 := fun r hx => (HKb.out r hx).1.grown HO.out hg5
        go_wp2_with (at_builtin; refine wpList_append_gs rfl _ _ rfl w3.heap.size w3.heap.size _ (no + la.length) (lo ++ la) pb cb [] rfl ho5 rfl hb5 hk5 (by simp; omega) hE5.lt ?_)
        intro v6 w6 ho6 hg6
        have hE6 : Ext w3 w6 := hE5.grown hg6 hE5.lt (fun q e => (ho5.lt q e).1)
        replace ho6 : OwnG w3.heap.size w6 v6 n R := by
          rw [← HS.out]
          first | (simpa using ho6) | (rw [← hR9]; simpa using ho6)
        have hln := ho6.1
        obtain ⟨p6, c6, rfl, l6, l6', hr6⟩ := ho6.rows
        rw [hln] at l6 ⊢
        clear ho5 ho6 hg5 hg6 hb5 hk5
        go_wp2_with fail
        go_ret
        exact ⟨p6, c6, rfl, l6, l6', hr6, HEw.out.trans hE6⟩
      obtain ⟨x, la', rfl⟩ : ∃ x la', la = x :: la' := by
        cases la with
        | nil => exact absurd HLa.out (by simp; omega)
        | cons x la' => exact ⟨x, la', rfl⟩
      obtain ⟨y, lb', rfl⟩ : ∃ x la', lb = x :: la' := by
        cases lb with
        | nil => exact absurd HLb.out (by simp; omega)
        | cons x la' => exact ⟨x, la', rfl⟩
      obtain ⟨ba, oa, rfl, hba, x0, x1, x2, x3, x4⟩ := HRa.out.head
      obtain ⟨bb, ob, rfl, hbb, y0, y1, y2, y3, y4⟩ := HRb.out.head
      have hxk := HKa.out x (by simp)
      have hyk := HKb.out y (by simp)
      go_wp2_with fail
      have hS0 : (wr.drew.cell? ⟨ba, oa, none⟩ = some (.int .i64 x.no) ∧ wr.drew.cell? ⟨ba, oa + 1, none⟩ = some x.c0 ∧ wr.drew.cell? ⟨ba, oa + 2, none⟩ = some x.c1 ∧ wr.drew.cell? ⟨ba, oa + 3, none⟩ = some x.c2 ∧ wr.drew.cell? ⟨ba, oa + 4, none⟩ = some x.c3) ∧
        (wr.drew.cell? ⟨bb, ob, none⟩ = some (.int .i64 y.no) ∧ wr.drew.cell? ⟨bb, ob + 1, none⟩ = some y.c0 ∧ wr.drew.cell? ⟨bb, ob + 2, none⟩ = some y.c1 ∧ wr.drew.cell? ⟨bb, ob + 3, none⟩ = some y.c2 ∧ wr.drew.cell? ⟨bb, ob + 4, none⟩ = some y.c3) := ⟨⟨x0, x1, x2, x3, x4⟩, y0, y1, y2, y3, y4⟩
      refine wp_region_g [0, 1, 2, 3, 4, 5, 6] [7, 8] (fun w' => (w'.cell? ⟨ba, oa, none⟩ = some (.int .i64 x.no) ∧ w'.cell? ⟨ba, oa + 1, none⟩ = some x.c0 ∧ w'.cell? ⟨ba, oa + 2, none⟩ = some x.c1 ∧ w'.cell? ⟨ba, oa + 3, none⟩ = some x.c2 ∧ w'.cell? ⟨ba, oa + 4, none⟩ = some x.c3) ∧
        (w'.cell? ⟨bb, ob, none⟩ = some (.int .i64 y.no) ∧ w'.cell? ⟨bb, ob + 1, none⟩ = some y.c0 ∧ w'.cell? ⟨bb, ob + 2, none⟩ = some y.c1 ∧ w'.cell? ⟨bb, ob + 3, none⟩ = some y.c2 ∧ w'.cell? ⟨bb, ob + 4, none⟩ = some y.c3)) (by kernel_rfl) (by kernel_rfl) hS0 ?_
      clear x0 x1 x2 x3 x4 y0 y1 y2 y3 y4
      iterate 7
        refine wpHead_cons (v := ?_) rfl (by rfl) (fun w' hS => ?_) ?_
        rotate_left
        · obtain ⟨⟨k0, k1, k2, k3, k4⟩, l0, l1, l2, l3, l4⟩ := hS
          go_simp
          try with_reducible rfl
        try simp only [Act.put, List.setIfInBounds_toArray, List.set]
      unfold wpHead
      refine wpTail_cons rfl (fun K hK => ?_)
      go_wp2_with fail
      refine (HF x y wr.drew ((hxk.1.up hE9).ext (Ext.refl _).drew) ((hyk.1.up hE9).ext (Ext.refl _).drew) hxk.2 hyk.2).mono ?_
      rintro e w8 ⟨rfl, hE8'⟩
      have hE8 := (Ext.refl wr).drew.trans hE8'
      have hS8 := And.intro (And.intro (hE8'.cell hS0.1.1) (And.intro (hE8'.cell hS0.1.2.1) (And.intro (hE8'.cell hS0.1.2.2.1) (And.intro (hE8'.cell hS0.1.2.2.2.1) (hE8'.cell hS0.1.2.2.2.2))))) (And.intro (hE8'.cell hS0.2.1) (And.intro (hE8'.cell hS0.2.2.1) (And.intro (hE8'.cell hS0.2.2.2.1) (And.intro (hE8'.cell hS0.2.2.2.2.1) (hE8'.cell hS0.2.2.2.2.2)))))
      go_wp2_with fail
      refine hK _ _ hS8 ?_
      clear hK
      try simp only [Act.put, List.setIfInBounds_toArray, List.set]
      refine wpTail_cons rfl (fun K hK => ?_)
      go_wp2_with fail
      refine hK _ _ hS8 ?_
      clear hK
      try simp only [Act.put, List.setIfInBounds_toArray, List.set]
      unfold wpTail
      refine OnlyN.mk ?_
      (try simp only [Exit.inBlock, Exit.then])
      have xk := hxk
      have yk := hyk
      clear hS0 hE8' hxk hyk
      by_cases hcv : cv x y ≤ 0
      · go_wp2_with fail
        have hrun : ∀ w : World, (Instr.sliceAt 90 (.slice (some ⟨ba, oa, none⟩) na ca) (some (.int .i64 1)) none none).run Try.prog w = .ok (.slice (cutAt (some ⟨ba, oa, none⟩) 1 ca 5) (na - 1) (ca - 1)) w := fun w => slice_lG (some ⟨ba, oa, none⟩) na ca w 1 (by omega)
        have htl := HRa.out.tail (m := ca) (by rw [HLa.out]; omega)
        obtain ⟨n9, hn9⟩ : ∃ n9, na - 1 = n9 := ⟨_, rfl⟩
        obtain ⟨c9, hc9⟩ : ∃ c9, ca - 1 = c9 := ⟨_, rfl⟩
        rw [hn9, hc9] at hrun
        generalize cutAt (some ⟨ba, oa, none⟩) 1 ca 5 = pt at hrun htl
        have HTL := Lib.hid htl
        have HL9 : Hid (la'.length = n9) := by have := HLa.out; simp only [List.length_cons] at this; unfold Hid; omega
        have hl9 : n9 ≤ c9 ∧ c9 ≤ 9223372036854775807 ∧ n9 + 1 = na := by omega
        obtain ⟨l91, l92, l93⟩ := hl9
        have HMR : Hid ((lo ++ [x]) ++ mrg cv la' (y :: lb') = R) := by
          have := HR.out
          rw [mrg, if_pos (by omega)] at this
          unfold Hid; rw [← this]; simp
        have HKT : Hid (∀ r ∈ la', r.ok w3.heap.size w8 ∧ P r) := fun r hx => ⟨(HKa.out r (by simp [hx])).1.ext hE8, (HKa.out r (by simp [hx])).2⟩
        have HKO : Hid (∀ r ∈ y :: lb', r.ok w3.heap.size w8 ∧ P r) := fun r hx => ⟨(HKb.out r hx).1.ext hE8, (HKb.out r hx).2⟩
        have HRO := Lib.hid (HRb.out.ext hE8)
        have HRT := Lib.hid (HTL.out.ext hE8)
        have HXK := Lib.hid (xk.1.ext hE8)
        have HO8 := Lib.hid (HO.out.ext hE8)
        have HE8 := Lib.hid (HE.out.trans hE8)
        obtain ⟨q0, q1, q2, q3, q4⟩ := (hS8.1)
        have HSn : Hid ((no + 1) + n9 + nb = n) := by have := HS.out; unfold Hid; omega
        have hno : no ≤ 65536 ∧ no + 1 ≤ n := by have := HS.out; omega
        obtain ⟨hno1, hno2⟩ := hno
        clear htl HTL HR HKa HKb HRa HRb HO HE HS hn9 hc9 xk yk hE8 hS8 hcv
        have hS0 : w8.drew.cell? ⟨ba, oa, none⟩ = some (.int .i64 x.no) ∧ w8.drew.cell? ⟨ba, oa + 1, none⟩ = some x.c0 ∧ w8.drew.cell? ⟨ba, oa + 2, none⟩ = some x.c1 ∧ w8.drew.cell? ⟨ba, oa + 3, none⟩ = some x.c2 ∧ w8.drew.cell? ⟨ba, oa + 4, none⟩ = some x.c3 := ⟨q0, q1, q2, q3, q4⟩
        refine wp_region_g [0, 1, 2, 3, 6, 7] [4, 5, 8, 9] (fun w' => w'.cell? ⟨ba, oa, none⟩ = some (.int .i64 x.no) ∧ w'.cell? ⟨ba, oa + 1, none⟩ = some x.c0 ∧ w'.cell? ⟨ba, oa + 2, none⟩ = some x.c1 ∧ w'.cell? ⟨ba, oa + 3, none⟩ = some x.c2 ∧ w'.cell? ⟨ba, oa + 4, none⟩ = some x.c3) (by kernel_rfl) (by kernel_rfl) hS0 ?_
        clear q0 q1 q2 q3 q4
        iterate 6
          refine wpHead_cons (v := ?_) rfl (by rfl) (fun w' hS => ?_) ?_
          rotate_left
          · obtain ⟨k0, k1, k2, k3, k4⟩ := hS
            go_simp
            try with_reducible rfl
          try simp only [Act.put, List.setIfInBounds_toArray, List.set]
        unfold wpHead
        refine wpTail_cons rfl (fun K hK => ?_)
        go_wp2_with fail
        have hEb : Ext w8 (w8.alloc (.cells #[.int .i64 x.no, x.c0, x.c1, x.c2, x.c3] 96)).drew := ((Ext.refl _).alloc _).drew
        have hnb : (w8.alloc (.cells #[.int .i64 x.no, x.c0, x.c1, x.c2, x.c3] 96)).drew.heap[w8.heap.size]? = some (.cells #[.int .i64 x.no, x.c0, x.c1, x.c2, x.c3] 96 (0, 0)) := heap_alloc_new w8 _
        generalize (w8.alloc (.cells #[.int .i64 x.no, x.c0, x.c1, x.c2, x.c3] 96)).drew = w9 at hEb hnb ⊢
        have hS9 := And.intro (hEb.cell hS0.1) (And.intro (hEb.cell hS0.2.1) (And.intro (hEb.cell hS0.2.2.1) (And.intro (hEb.cell hS0.2.2.2.1) (hEb.cell hS0.2.2.2.2))))
        refine hK _ _ hS9 ?_
        clear hK
        try simp only [Act.put, List.setIfInBounds_toArray, List.set]
        refine wpTail_cons rfl (fun K hK => ?_)
        refine wpList_append_g1 rfl _ _ rfl w3.heap.size w3.heap.size _ no lo x rfl (HO8.out.ext hEb) _ _ rfl hnb (HXK.out.ext hEb) hno1 (HE8.out.trans hEb).lt ?_
        intro gq cq w7 ho7 hg7 hat7 _ _
        have hO9 := HO8.out.ext hEb
        have hE7 : Ext w3 w7 := (HE8.out.trans hEb).grown hg7 (HE8.out.trans hEb).lt (fun q e => (hO9.lt q e).1)
        have far : ∀ (k : Nat) (u : Value), w9.cell? ⟨ba, k, none⟩ = some u → w7.cell? ⟨ba, k, none⟩ = some u := fun k u hu => by
          rw [World.cell?_of_block (hg7.block ba (World.block_lt_of_cell? w9 _ hu) fun e => by have := (hO9.lt ba e.symm).1; omega)]
          exact hu
        have hS7 := And.intro (far _ _ hS9.1) (And.intro (far _ _ hS9.2.1) (And.intro (far _ _ hS9.2.2.1) (And.intro (far _ _ hS9.2.2.2.1) (far _ _ hS9.2.2.2.2))))
        refine hK _ _ hS7 ?_
        clear hK
        try simp only [Act.put, List.setIfInBounds_toArray, List.set]
        refine wpTail_cons rfl (fun K hK => ?_)
        go_wp2_with fail
        refine hK _ _ hS7 ?_
        clear hK
        try simp only [Act.put, List.setIfInBounds_toArray, List.set]
        refine wpTail_free1 rfl (by kernel_rfl) ?_
        have HRO7 := Lib.hid ((HRO.out.ext hEb).grown hO9 hg7)
        have HRT7 := Lib.hid ((HRT.out.ext hEb).grown hO9 hg7)
        have HKO7 : Hid (∀ r ∈ y :: lb', r.ok w3.heap.size w7 ∧ P r) := fun r hx => ⟨((HKO.out r hx).1.ext hEb).grown hO9 hg7, (HKO.out r hx).2⟩
        have HKT7 : Hid (∀ r ∈ la', r.ok w3.heap.size w7 ∧ P r) := fun r hx => ⟨((HKT.out r hx).1.ext hEb).grown hO9 hg7, (HKT.out r hx).2⟩
        have HO7 := Lib.hid ho7
        have HE7 := Lib.hid hE7
        clear hS0 hS9 hS7 far hO9 hEb hnb ho7 hE7 hg7 hat7 HRO HRT HKO HKT HO8 HE8 HXK hrun
        go_wp2_with fail
        refine OnlyN.mk ?_
        (try simp only [Exit.inBlock, Exit.then])
        go_wp2_with fail
        go_roundw
        case measure => simp only [sliceLen]; omega
        case rel => exact ⟨pt, some ⟨bb, ob, none⟩, _, c9, cb, _, n9, nb, no + 1, la', y :: lb', lo ++ [x], rfl, rfl, rfl, l91, l92, qb1, qb2, hno2, HSn, HL9, HLb, HRT7, HRO7, HO7, HMR, HKT7, HKO7, HE7⟩
      · go_wp2_with fail
        have hrun : ∀ w : World, (Instr.sliceAt 90 (.slice (some ⟨bb, ob, none⟩) nb cb) (some (.int .i64 1)) none none).run Try.prog w = .ok (.slice (cutAt (some ⟨bb, ob, none⟩) 1 cb 5) (nb - 1) (cb - 1)) w := fun w => slice_lG (some ⟨bb, ob, none⟩) nb cb w 1 (by omega)
        have htl := HRb.out.tail (m := cb) (by rw [HLb.out]; omega)
        obtain ⟨n9, hn9⟩ : ∃ n9, nb - 1 = n9 := ⟨_, rfl⟩
        obtain ⟨c9, hc9⟩ : ∃ c9, cb - 1 = c9 := ⟨_, rfl⟩
        rw [hn9, hc9] at hrun
        generalize cutAt (some ⟨bb, ob, none⟩) 1 cb 5 = pt at hrun htl
        have HTL := Lib.hid htl
        have HL9 : Hid (lb'.length = n9) := by have := HLb.out; simp only [List.length_cons] at this; unfold Hid; omega
        have hl9 : n9 ≤ c9 ∧ c9 ≤ 9223372036854775807 ∧ n9 + 1 = nb := by omega
        obtain ⟨l91, l92, l93⟩ := hl9
        have HMR : Hid ((lo ++ [y]) ++ mrg cv (x :: la') lb' = R) := by
          have := HR.out
          rw [mrg, if_neg (by omega)] at this
          unfold Hid; rw [← this]; simp
        have HKT : Hid (∀ r ∈ lb', r.ok w3.heap.size w8 ∧ P r) := fun r hx => ⟨(HKb.out r (by simp [hx])).1.ext hE8, (HKb.out r (by simp [hx])).2⟩
        have HKO : Hid (∀ r ∈ x :: la', r.ok w3.heap.size w8 ∧ P r) := fun r hx => ⟨(HKa.out r hx).1.ext hE8, (HKa.out r hx).2⟩
        have HRO := Lib.hid (HRa.out.ext hE8)
        have HRT := Lib.hid (HTL.out.ext hE8)
        have HXK := Lib.hid (yk.1.ext hE8)
        have HO8 := Lib.hid (HO.out.ext hE8)
        have HE8 := Lib.hid (HE.out.trans hE8)
        obtain ⟨q0, q1, q2, q3, q4⟩ := (hS8.2)
        have HSn : Hid ((no + 1) + na + n9 = n) := by have := HS.out; unfold Hid; omega
        have hno : no ≤ 65536 ∧ no + 1 ≤ n := by have := HS.out; omega
        obtain ⟨hno1, hno2⟩ := hno
        clear htl HTL HR HKa HKb HRa HRb HO HE HS hn9 hc9 xk yk hE8 hS8 hcv
        have hS0 : w8.drew.cell? ⟨bb, ob, none⟩ = some (.int .i64 y.no) ∧ w8.drew.cell? ⟨bb, ob + 1, none⟩ = some y.c0 ∧ w8.drew.cell? ⟨bb, ob + 2, none⟩ = some y.c1 ∧ w8.drew.cell? ⟨bb, ob + 3, none⟩ = some y.c2 ∧ w8.drew.cell? ⟨bb, ob + 4, none⟩ = some y.c3 := ⟨q0, q1, q2, q3, q4⟩
        refine wp_region_g [0, 1, 2, 3, 6, 7] [4, 5, 8, 9] (fun w' => w'.cell? ⟨bb, ob, none⟩ = some (.int .i64 y.no) ∧ w'.cell? ⟨bb, ob + 1, none⟩ = some y.c0 ∧ w'.cell? ⟨bb, ob + 2, none⟩ = some y.c1 ∧ w'.cell? ⟨bb, ob + 3, none⟩ = some y.c2 ∧ w'.cell? ⟨bb, ob + 4, none⟩ = some y.c3) (by kernel_rfl) (by kernel_rfl) hS0 ?_
        clear q0 q1 q2 q3 q4
        iterate 6
          refine wpHead_cons (v := ?_) rfl (by rfl) (fun w' hS => ?_) ?_
          rotate_left
          · obtain ⟨k0, k1, k2, k3, k4⟩ := hS
            go_simp
            try with_reducible rfl
          try simp only [Act.put, List.setIfInBounds_toArray, List.set]
        unfold wpHead
        refine wpTail_cons rfl (fun K hK => ?_)
        go_wp2_with fail
        have hEb : Ext w8 (w8.alloc (.cells #[.int .i64 y.no, y.c0, y.c1, y.c2, y.c3] 96)).drew := ((Ext.refl _).alloc _).drew
        have hnb : (w8.alloc (.cells #[.int .i64 y.no, y.c0, y.c1, y.c2, y.c3] 96)).drew.heap[w8.heap.size]? = some (.cells #[.int .i64 y.no, y.c0, y.c1, y.c2, y.c3] 96 (0, 0)) := heap_alloc_new w8 _
        generalize (w8.alloc (.cells #[.int .i64 y.no, y.c0, y.c1, y.c2, y.c3] 96)).drew = w9 at hEb hnb ⊢
        have hS9 := And.intro (hEb.cell hS0.1) (And.intro (hEb.cell hS0.2.1) (And.intro (hEb.cell hS0.2.2.1) (And.intro (hEb.cell hS0.2.2.2.1) (hEb.cell hS0.2.2.2.2))))
        refine hK _ _ hS9 ?_
        clear hK
        try simp only [Act.put, List.setIfInBounds_toArray, List.set]
        refine wpTail_cons rfl (fun K hK => ?_)
        refine wpList_append_g1 rfl _ _ rfl w3.heap.size w3.heap.size _ no lo y rfl (HO8.out.ext hEb) _ _ rfl hnb (HXK.out.ext hEb) hno1 (HE8.out.trans hEb).lt ?_
        intro gq cq w7 ho7 hg7 hat7 _ _
        have hO9 := HO8.out.ext hEb
        have hE7 : Ext w3 w7 := (HE8.out.trans hEb).grown hg7 (HE8.out.trans hEb).lt (fun q e => (hO9.lt q e).1)
        have far : ∀ (k : Nat) (u : Value), w9.cell? ⟨bb, k, none⟩ = some u → w7.cell? ⟨bb, k, none⟩ = some u := fun k u hu => by
          rw [World.cell?_of_block (hg7.block bb (World.block_lt_of_cell? w9 _ hu) fun e => by have := (hO9.lt bb e.symm).1; omega)]
          exact hu
        have hS7 := And.intro (far _ _ hS9.1) (And.intro (far _ _ hS9.2.1) (And.intro (far _ _ hS9.2.2.1) (And.intro (far _ _ hS9.2.2.2.1) (far _ _ hS9.2.2.2.2))))
        refine hK _ _ hS7 ?_
        clear hK
        try simp only [Act.put, List.setIfInBounds_toArray, List.set]
        refine wpTail_cons rfl (fun K hK => ?_)
        go_wp2_with fail
        refine hK _ _ hS7 ?_
        clear hK
        try simp only [Act.put, List.setIfInBounds_toArray, List.set]
        refine wpTail_free1 rfl (by kernel_rfl) ?_
        have HRO7 := Lib.hid ((HRO.out.ext hEb).grown hO9 hg7)
        have HRT7 := Lib.hid ((HRT.out.ext hEb).grown hO9 hg7)
        have HKO7 : Hid (∀ r ∈ x :: la', r.ok w3.heap.size w7 ∧ P r) := fun r hx => ⟨((HKO.out r hx).1.ext hEb).grown hO9 hg7, (HKO.out r hx).2⟩
        have HKT7 : Hid (∀ r ∈ lb', r.ok w3.heap.size w7 ∧ P r) := fun r hx => ⟨((HKT.out r hx).1.ext hEb).grown hO9 hg7, (HKT.out r hx).2⟩
        have HO7 := Lib.hid ho7
        have HE7 := Lib.hid hE7
        clear hS0 hS9 hS7 far hO9 hEb hnb ho7 hE7 hg7 hat7 HRO HRT HKO HKT HO8 HE8 HXK hrun
        go_wp2_with fail
        refine OnlyN.mk ?_
        (try simp only [Exit.inBlock, Exit.then])
        go_wp2_with fail
        go_roundw
        case measure => simp only [sliceLen]; omega
        case rel => exact ⟨some ⟨ba, oa, none⟩, pt, _, ca, c9, _, na, n9, no + 1, x :: la', lb', lo ++ [y], rfl, rfl, rfl, qa1, qa2, l91, l92, hno2, HSn, HLa, HL9, HRO7, HRT7, HO7, HMR, HKO7, HKT7, HE7⟩
end Go.Proofs.Ytgeppialbkijiaa

namespace Go.Proofs.Ytgeppialbkijiaa
set_option linter.unusedSimpArgs false
set_option linter.unusedVariables false
open Go.RowKit

/-- The error of rows, and the rows. -/
def rowsE (y : Arr) : Int := if rightV y ≠ 0 then 1 else if y.sh = [] then 15 else 0
def rowsC (y : Arr) : List Arr := cellsV y ((y.sh.length : Int) - 1)
theorem rowsC_length (y : Arr) : (rowsC y).length ≤ 65536 := by
  obtain ⟨k, s, n, it⟩ := y
  unfold rowsC cellsV
  simp only [Arr.sh]
  split
  · simp
  · rw [List.length_map, List.length_range]
    have := shapeSize_hi (s.take (s.length - (rankV ((s.length : Int) - 1) s.length).toNat))
    omega
def GRow.pair (r : GRow) : Int × Arr := (r.no, r.t)
/-- What grading.rows hands back. -/
def GivesGR (y : Arr) (w : World) (e : Ending) (w' : World) : Prop := ∃ p c G, e = .returned (.tuple #[.slice p G.length c, .int .i64 (rowsE y)]) ∧ G.length ≤ c ∧ c ≤ 9223372036854775807 ∧ RowsAt w'.heap.size w' p G ∧ (∀ r ∈ G, r.ok w'.heap.size w') ∧
  (rowsE y ≠ 0 → G = []) ∧ (rowsE y = 0 → G.map GRow.pair = rowsN (rowsC y) (rowsC y).length) ∧ (∀ r ∈ G, r.nw w.heap.size w'.heap.size w') ∧ Ext w w'
theorem GivesGR.err {y : Arr} {w w' : World} {v : Int} (h : rowsE y = v) (h0 : v ≠ 0) (hE : Ext w w') : GivesGR y w (.returned (.tuple #[.slice none 0 0, .int .i64 v])) w' :=
  ⟨none, 0, [], by rw [h]; rfl, by simp, by omega, RowsAt.nil _ _ _, by simp, fun _ => rfl, fun h2 => absurd (h.symm.trans h2) h0, by simp, hE⟩

set_option maxRecDepth 1000000 in
set_option maxHeartbeats 8000000 in
theorem rows_any (F : Nat → Prop) (x : Arr) (c0 c1 c2 c3 : Value) (w : World) (hx : ArrAt F w x c0 c1 c2 c3) :
    Calls Try.prog 65 #[.agg #[c0, c1, c2, c3]] w (GivesGR x w) := by
  obtain ⟨kx, s, nx, ix⟩ := x
  have hx' := hx
  unfold ArrAt at hx'
  obtain ⟨rfl, hkx, ⟨p1, m1, rfl, ⟨o1, o1', o1''⟩, i1⟩, ⟨p2, m2, rfl, ⟨o2, o2', o2''⟩, i2⟩, ⟨p3, m3, rfl, ⟨o3, o3', o3''⟩, i3⟩⟩ := hx'
  have HX := Lib.hid hx
  clear hx i1 i2 i3
  have HV : Hid (rowsE (.mk kx s nx ix) = if rightV (.mk kx s nx ix) ≠ 0 then 1 else if s = [] then 15 else 0) := rfl
  go_enter Try.func65, Try.ntmps65
  have hE0 : Ext w (w.alloc (.cells #[.int .i64 kx, .slice p1 s.length m1, .slice p2 nx.length m2, .slice p3 ix.length m3] 26)) := (Ext.refl _).alloc _
  have hB := box_new w (.int .i64 kx) (.slice p1 s.length m1) (.slice p2 nx.length m2) (.slice p3 ix.length m3)
  have HR := Lib.hid (right_any F _ _ _ _ _ _ (HX.out.ext hE0))
  have HE := Lib.hid hE0
  have HB := Lib.hid hB
  clear hE0 hB
  go_wp2_with fail
  refine HR.out.mono ?_
  rintro e w2 ⟨rfl, hE1⟩
  replace HE := Lib.hid (HE.out.trans hE1)
  have HBx := Lib.hid (HB.out.ext hE1)
  clear HR HB hE1
  have HGE : ∀ (v : Int) (w' : World), rowsE (.mk kx s nx ix) = v → v ≠ 0 → Ext w w' → GivesGR (.mk kx s nx ix) w (.returned (.tuple #[.slice none 0 0, .int .i64 v])) w' := fun v w' h h0 hE => GivesGR.err h h0 hE
  by_cases h1 : rightV (.mk kx s nx ix) = 0
  rotate_left
  · have hv1 : rowsE (.mk kx s nx ix) = 1 := by rw [HV.out, if_pos h1]
    have HV1 := Lib.hid hv1
    generalize rightV (.mk kx s nx ix) = r1 at *
    have h1' : (r1 != 0) = true := by simpa using h1
    clear HV hv1 h1
    go_wp2_with fail
    go_ret2
    exact HGE 1 _ HV1.out (by decide) HE.out
  rw [h1]
  by_cases h2 : s = []
  · have HV1 : Hid (rowsE (.mk kx s nx ix) = 15) := by unfold Hid; rw [HV.out, if_neg (by rw [h1]; simp), if_pos h2]
    subst h2
    obtain ⟨s0, s1, s2, s3⟩ := HBx.out.cell
    clear HV h1
    go_wp2_with fail
    go_ret2
    exact HGE 15 _ HV1.out (by decide) HE.out
  have HV0 : Hid (rowsE (.mk kx s nx ix) = 0) := by unfold Hid; rw [HV.out, if_neg (by rw [h1]; simp), if_neg h2]
  have hsl : s.length ≠ 0 := fun e => h2 (List.length_eq_zero_iff.1 e)
  have hl8 : 0 < s.length ∧ s.length ≤ 8 := ⟨by omega, (right_parts h1).2.1⟩
  obtain ⟨hl1, hl2⟩ := hl8
  have hw : IntKind.i64.wrap ((s.length : Int) - 1) = (s.length : Int) - 1 := IntWalk.i64_in _ (by omega)
  have hne : ((s.length : Int) == 0) = false := by simp; omega
  obtain ⟨s0, s1, s2, s3⟩ := HBx.out.cell
  clear HV h1 h2 hsl HGE
  go_wp2_with fail
  refine (ccells_any F _ _ _ _ _ ((s.length : Int) - 1) w2 (HX.out.ext HE.out) (by omega)).mono ?_
  rintro e w3 ⟨v, rfl, ⟨p, c, rfl, ⟨l1, l1', l1''⟩, hit⟩, hE3⟩
  have HE3 := Lib.hid (HE.out.trans hE3)
  have HI : Hid (ItemsAt (fun b => w.heap.size ≤ b ∧ b < w3.heap.size) w3 p 0 (rowsC (.mk kx s nx ix))) := ItemsAt.mono (fun b hb hlt => ⟨⟨Nat.le_trans HE.out.lt hb, hlt⟩, rfl⟩) _ _ _ hit
  have hcl := rowsC_length (.mk kx s nx ix)
  have hrc : cellsV (.mk kx s nx ix) ((s.length : Int) - 1) = rowsC (.mk kx s nx ix) := rfl
  rw [hrc] at l1 l1'' ⊢
  generalize hC : rowsC (.mk kx s nx ix) = C at *
  have HC0 := Lib.hid hC
  obtain ⟨n, hn⟩ : ∃ n, C.length = n := ⟨_, rfl⟩
  rw [hn] at l1 l1'' hcl ⊢
  have HN := Lib.hid hn
  clear s0 s1 s2 s3 hit hE3 hrc hC hn hw hne HX HBx HE
  go_wp2_with fail
  go_loopw [4, 23] (fun ov iv wr => ∃ (i c : Nat) (p : Option Addr) (G : List GRow), ov = .slice p i c ∧ iv = .int .i64 (i : Int) ∧ i ≤ n ∧ Hid (OwnG w3.heap.size wr (.slice p i c) i G) ∧ Hid (G.map GRow.pair = rowsN C i) ∧ Hid (∀ r ∈ G, r.ok w3.heap.size wr) ∧ Hid (∀ r ∈ G, r.nw w.heap.size w3.heap.size wr) ∧ Hid (Ext w3 wr)) (fun _ iv _ => n - (intOf iv).toNat)
  case atStart => exact ⟨0, _, _, [], rfl, rfl, Nat.zero_le _, OwnG.nil _ _, rfl, by simp [Hid], by simp [Hid], Ext.refl _⟩
  case round =>
    obtain ⟨i, c4, p4, G, rfl, rfl, hin, HO, HG, HK, HNW, HE4⟩ := hrel
    by_cases hlt : i < n
    · have hlt2 : i < C.length := by rw [HN.out]; exact hlt
      obtain ⟨bi, oi, c0, c1, c2, c3, rfl, _, k0, k1, k2, k3, ha⟩ := ItemsAt.get _ _ 0 i (HI.out.ext HE4.out) hlt2
      rw [Nat.zero_add] at k0 k1 k2 k3
      obtain ⟨kc, q1, r1, u1, q2, r2, u2, q3, r3, u3, rfl, rfl, rfl, rfl⟩ := ha.form
      have HA := Lib.hid ha
      have hrow : GRow.ok w3.heap.size wr (GRow.mk (i : Int) C[i] (.int .i64 kc) (.slice q1 r1 u1) (.slice q2 r2 u2) (.slice q3 r3 u3)) := ⟨by show -9223372036854775808 ≤ (i : Int) ∧ (i : Int) ≤ 9223372036854775807; omega, ArrAt.mono (fun b hb _ => ⟨hb.2, rfl⟩) _ _ _ _ _ ha⟩
      have hnw : GRow.nw w.heap.size w3.heap.size wr (GRow.mk (i : Int) C[i] (.int .i64 kc) (.slice q1 r1 u1) (.slice q2 r2 u2) (.slice q3 r3 u3)) := ha
      have hEn : Ext wr ((wr.alloc (.cells #[.int .i64 kc, .slice q1 r1 u1, .slice q2 r2 u2, .slice q3 r3 u3] 26)).alloc (.cells #[.int .i64 (i : Int), .int .i64 kc, .slice q1 r1 u1, .slice q2 r2 u2, .slice q3 r3 u3] 96)) := ((Ext.refl _).alloc _).alloc _
      have hnb : ((wr.alloc (.cells #[.int .i64 kc, .slice q1 r1 u1, .slice q2 r2 u2, .slice q3 r3 u3] 26)).alloc (.cells #[.int .i64 (i : Int), .int .i64 kc, .slice q1 r1 u1, .slice q2 r2 u2, .slice q3 r3 u3] 96)).heap[wr.heap.size + 1]? = some (.cells #[.int .i64 (i : Int), .int .i64 kc, .slice q1 r1 u1, .slice q2 r2 u2, .slice q3 r3 u3] 96 (0, 0)) := by
        have h := heap_alloc_new (wr.alloc (.cells #[.int .i64 kc, .slice q1 r1 u1, .slice q2 r2 u2, .slice q3 r3 u3] 26)) (.cells #[.int .i64 (i : Int), .int .i64 kc, .slice q1 r1 u1, .slice q2 r2 u2, .slice q3 r3 u3] 96)
        rw [World.size_alloc] at h
        exact h
      have HO7 := Lib.hid (HO.out.ext hEn)
      have HE7 := Lib.hid (HE4.out.trans hEn)
      have HR7 := Lib.hid (hrow.ext hEn)
      have HW7 := Lib.hid (hnw.ext hEn)
      have HEN := Lib.hid hEn
      have HNB := Lib.hid hnb
      clear ha hrow hnw hEn hnb
      go_wp2_with (at_builtin; refine wpList_append_g1 rfl _ _ rfl w3.heap.size w3.heap.size _ i G (GRow.mk (i : Int) C[i] (.int .i64 kc) (.slice q1 r1 u1) (.slice q2 r2 u2) (.slice q3 r3 u3)) rfl HO7.out _ _ rfl HNB.out HR7.out (by omega) HE7.out.lt ?_)
      intro gq cq w8 ho8 hg8 hat8 _ _
      have HE8 : Hid (Ext w3 w8) := HE7.out.grown hg8 HE7.out.lt (fun q e => (HO7.out.lt q e).1)
      have HO8 := Lib.hid ho8
      have HK8 : Hid (∀ r ∈ G ++ [(GRow.mk (i : Int) C[i] (.int .i64 kc) (.slice q1 r1 u1) (.slice q2 r2 u2) (.slice q3 r3 u3))], r.ok w3.heap.size w8) := fun r hr => by
        rcases List.mem_append.1 hr with hr | hr
        · exact ((HK.out r hr).ext HEN.out).grown HO7.out hg8
        · rw [List.mem_singleton.1 hr]
          exact HR7.out.grown HO7.out hg8
      have HN8 : Hid (∀ r ∈ G ++ [(GRow.mk (i : Int) C[i] (.int .i64 kc) (.slice q1 r1 u1) (.slice q2 r2 u2) (.slice q3 r3 u3))], r.nw w.heap.size w3.heap.size w8) := fun r hr => by
        rcases List.mem_append.1 hr with hr | hr
        · exact ((HNW.out r hr).ext HEN.out).grown HO7.out hg8
        · rw [List.mem_singleton.1 hr]
          exact HW7.out.grown HO7.out hg8
      have HG8 : Hid ((G ++ [(GRow.mk (i : Int) C[i] (.int .i64 kc) (.slice q1 r1 u1) (.slice q2 r2 u2) (.slice q3 r3 u3))]).map GRow.pair = rowsN C (i + 1)) := by
        unfold Hid
        rw [List.map_append, HG.out, rowsN_succ]
        simp [GRow.pair, List.getD, hlt2]
      clear ho8 hg8 hat8 HO7 HE7 HR7 HW7 HEN HNB HO HG HK HNW HE4
      go_wp2_with fail
      go_roundw
      case measure => simp only [intOf]; omega
      case rel => exact ⟨i + 1, _, _, _, rfl, by go_num, by omega, HO8, HG8, HK8, HN8, HE8⟩
    · have hin2 : i = n := by omega
      subst hin2
      have hE9 := HE3.out.trans HE4.out
      obtain ⟨p9, c9, e9, l9, l9', hr9⟩ := HO.out.rows

      cases e9
      have hK9 : ∀ r ∈ G, r.ok wr.heap.size wr := fun r hr => (HK.out r hr).up HE4.out.lt
      have hN9 : ∀ r ∈ G, r.nw w.heap.size wr.heap.size wr := fun r hr => (HNW.out r hr).up HE4.out.lt
      have hG9 : G.map GRow.pair = rowsN C C.length := by rw [HG.out, HN.out]
      have H9 : Hid (RowsAt wr.heap.size wr p4 G ∧ (∀ r ∈ G, r.ok wr.heap.size wr) ∧ G.map GRow.pair = rowsN C C.length ∧ Ext w wr ∧ (∀ r ∈ G, r.nw w.heap.size wr.heap.size wr)) := ⟨hr9, hK9, hG9, hE9, hN9⟩
      clear hr9 hK9 hG9 hN9 hE9 HO HG HK HE4
      go_wp2_with fail
      go_ret2
      exact ⟨p4, c4, G, (by rw [HV0.out]; rfl), l9, l9', H9.out.1, H9.out.2.1, fun h => absurd HV0.out h, fun _ => by rw [HC0.out]; exact H9.out.2.2.1, H9.out.2.2.2.2, H9.out.2.2.2.1⟩

/-- What arraylangref24.rows hands back. -/
def GivesRR (y : Arr) (w : World) (e : Ending) (w' : World) : Prop := ∃ p c l, e = .returned (.tuple #[.slice p l.length c, .int .i64 (rowsE y)]) ∧ ItOk l.length c ∧ ItemsAt (fun b => w.heap.size ≤ b) w' p 0 l ∧ (rowsE y ≠ 0 → l = []) ∧ (rowsE y = 0 → l = rowsC y) ∧ Ext w w'
theorem GivesRR.err {y : Arr} {w w' : World} {v : Int} (h : rowsE y = v) (h0 : v ≠ 0) (hE : Ext w w') : GivesRR y w (.returned (.tuple #[.slice none 0 0, .int .i64 v])) w' :=
  ⟨none, 0, [], by rw [h]; rfl, ⟨by simp, by omega, by simp⟩, by unfold ItemsAt; trivial, fun _ => rfl, fun h2 => absurd (h.symm.trans h2) h0, hE⟩
set_option maxRecDepth 1000000 in
set_option maxHeartbeats 8000000 in
theorem rrows_any (F : Nat → Prop) (x : Arr) (c0 c1 c2 c3 : Value) (w : World) (hx : ArrAt F w x c0 c1 c2 c3) :
    Calls Try.prog 74 #[.agg #[c0, c1, c2, c3]] w (GivesRR x w) := by
  obtain ⟨kx, s, nx, ix⟩ := x
  have hx' := hx
  unfold ArrAt at hx'
  obtain ⟨rfl, hkx, ⟨p1, m1, rfl, ⟨o1, o1', o1''⟩, i1⟩, ⟨p2, m2, rfl, ⟨o2, o2', o2''⟩, i2⟩, ⟨p3, m3, rfl, ⟨o3, o3', o3''⟩, i3⟩⟩ := hx'
  have HX := Lib.hid hx
  clear hx i1 i2 i3
  have HV : Hid (rowsE (.mk kx s nx ix) = if rightV (.mk kx s nx ix) ≠ 0 then 1 else if s = [] then 15 else 0) := rfl
  go_enter Try.func74, Try.ntmps74
  have hE0 : Ext w (w.alloc (.cells #[.int .i64 kx, .slice p1 s.length m1, .slice p2 nx.length m2, .slice p3 ix.length m3] 26)) := (Ext.refl _).alloc _
  have hB := box_new w (.int .i64 kx) (.slice p1 s.length m1) (.slice p2 nx.length m2) (.slice p3 ix.length m3)
  have HR := Lib.hid (rright6_any F _ _ _ _ _ _ (HX.out.ext hE0))
  have HE := Lib.hid hE0
  have HB := Lib.hid hB
  clear hE0 hB
  go_wp2_with fail
  refine HR.out.mono ?_
  rintro e w2 ⟨rfl, hE1⟩
  replace HE := Lib.hid (HE.out.trans hE1)
  have HBx := Lib.hid (HB.out.ext hE1)
  clear HR HB hE1
  have HGE : ∀ (v : Int) (w' : World), rowsE (.mk kx s nx ix) = v → v ≠ 0 → Ext w w' → GivesRR (.mk kx s nx ix) w (.returned (.tuple #[.slice none 0 0, .int .i64 v])) w' := fun v w' h h0 hE => GivesRR.err h h0 hE
  by_cases h1 : rightV (.mk kx s nx ix) = 0
  rotate_left
  · have hv1 : rowsE (.mk kx s nx ix) = 1 := by rw [HV.out, if_pos h1]
    have HV1 := Lib.hid hv1
    generalize rightV (.mk kx s nx ix) = r1 at *
    have h1' : (r1 != 0) = true := by simpa using h1
    clear HV hv1 h1
    go_wp2_with fail
    go_ret2
    exact HGE 1 _ HV1.out (by decide) HE.out
  rw [h1]
  by_cases h2 : s = []
  · have HV1 : Hid (rowsE (.mk kx s nx ix) = 15) := by unfold Hid; rw [HV.out, if_neg (by rw [h1]; simp), if_pos h2]
    subst h2
    obtain ⟨s0, s1, s2, s3⟩ := HBx.out.cell
    clear HV h1
    go_wp2_with fail
    go_ret2
    exact HGE 15 _ HV1.out (by decide) HE.out
  have HV0 : Hid (rowsE (.mk kx s nx ix) = 0) := by unfold Hid; rw [HV.out, if_neg (by rw [h1]; simp), if_neg h2]
  have hsl : s.length ≠ 0 := fun e => h2 (List.length_eq_zero_iff.1 e)
  have hl8 : 0 < s.length ∧ s.length ≤ 8 := ⟨by omega, (right_parts h1).2.1⟩
  obtain ⟨hl1, hl2⟩ := hl8
  have hw : IntKind.i64.wrap ((s.length : Int) - 1) = (s.length : Int) - 1 := IntWalk.i64_in _ (by omega)
  have hne : ((s.length : Int) == 0) = false := by simp; omega
  obtain ⟨s0, s1, s2, s3⟩ := HBx.out.cell
  clear HV h1 h2 hsl HGE
  go_wp2_with fail
  refine (rcells_any F _ _ _ _ _ ((s.length : Int) - 1) w2 (HX.out.ext HE.out) (by omega)).mono ?_
  rintro e w3 ⟨v, rfl, ⟨p, c, rfl, hok, hit⟩, hE3⟩
  have HE3 := Lib.hid (HE.out.trans hE3)
  have HI : Hid (ItemsAt (fun b => w.heap.size ≤ b) w3 p 0 (rowsC (.mk kx s nx ix))) := ItemsAt.mono (fun b hb hlt => ⟨Nat.le_trans HE.out.lt hb, rfl⟩) _ _ _ hit
  have hrc : cellsV (.mk kx s nx ix) ((s.length : Int) - 1) = rowsC (.mk kx s nx ix) := rfl
  rw [hrc] at hok ⊢
  have HOK := Lib.hid hok
  generalize hC : rowsC (.mk kx s nx ix) = C at *
  have HC0 := Lib.hid hC
  clear s0 s1 s2 s3 hit hE3 hrc hC hw hne HX HBx HE hok
  go_wp2_with fail
  go_ret2
  exact ⟨p, c, C, (by rw [HV0.out]; rfl), HOK.out, HI.out, fun h => absurd HV0.out h, fun _ => HC0.out.symm, HE3.out⟩
end Go.Proofs.Ytgeppialbkijiaa

namespace Go.Proofs.Ytgeppialbkijiaa
set_option linter.unusedSimpArgs false
set_option linter.unusedVariables false
open Go.RowKit

set_option maxRecDepth 1000000 in
set_option maxHeartbeats 8000000 in
theorem numbers_any (G : List GRow) (p : Option Addr) (c n : Nat) (w : World) (hn : G.length = n) (h6 : n ≤ 65536) (hr : RowsAt w.heap.size w p G) (hok : ∀ r ∈ G, r.ok w.heap.size w) :
    Calls Try.prog 66 #[.slice p n c] w (GivesArr (.mk 1 [(n : Int)] (G.map GRow.no) []) w) := by
  have HR := Lib.hid hr
  have HOK := Lib.hid hok
  have HN := Lib.hid hn
  clear hr hok hn
  go_enter Try.func66, Try.ntmps66
  have hE1 : Ext w (w.alloc (.cells #[.int .i64 0, .slice none 0 0, .slice none 0 0, .slice none 0 0] 26)) := (Ext.refl _).alloc _
  have hB1 := box_new w (.int .i64 0) (.slice none 0 0) (.slice none 0 0) (.slice none 0 0)
  have hE2 := hE1.alloc (.cells #[.int .i64 (n : Int)] 3)
  have hE2' : Ext (w.alloc (.cells #[.int .i64 0, .slice none 0 0, .slice none 0 0, .slice none 0 0] 26)) ((w.alloc (.cells #[.int .i64 0, .slice none 0 0, .slice none 0 0, .slice none 0 0] 26)).alloc (.cells #[.int .i64 (n : Int)] 3)) := (Ext.refl _).alloc _
  have hS : ((w.alloc (.cells #[.int .i64 0, .slice none 0 0, .slice none 0 0, .slice none 0 0] 26)).alloc (.cells #[.int .i64 (n : Int)] 3)).cell? ⟨w.heap.size + 1, 0, none⟩ = some (.int .i64 (n : Int)) := by simp
  have hE3' : Ext ((w.alloc (.cells #[.int .i64 0, .slice none 0 0, .slice none 0 0, .slice none 0 0] 26)).alloc (.cells #[.int .i64 (n : Int)] 3)) (((w.alloc (.cells #[.int .i64 0, .slice none 0 0, .slice none 0 0, .slice none 0 0] 26)).alloc (.cells #[.int .i64 (n : Int)] 3)).alloc (.cells #[.int .i64 1, .slice (some ⟨w.heap.size + 1, 0, none⟩) 1 1, .slice none 0 0, .slice none 0 0] 26)) := (Ext.refl _).alloc _
  have hB3 := box_new ((w.alloc (.cells #[.int .i64 0, .slice none 0 0, .slice none 0 0, .slice none 0 0] 26)).alloc (.cells #[.int .i64 (n : Int)] 3)) (.int .i64 1) (.slice (some ⟨w.heap.size + 1, 0, none⟩) 1 1) (.slice none 0 0) (.slice none 0 0)
  rw [World.size_alloc, World.size_alloc] at hB3
  have hE3 := hE2.trans hE3'
  have hBr := (hB1.ext hE2').ext hE3'
  have hSh := hE3'.cell hS
  have HE3 := Lib.hid hE3
  have HBr := Lib.hid hBr
  have HSh := Lib.hid hSh
  have HB3 := Lib.hid hB3
  clear hE1 hE2 hE2' hS hE3' hE3 hB1 hB3 hBr hSh
  go_wp2_with fail
  generalize ((w.alloc (.cells #[.int .i64 0, .slice none 0 0, .slice none 0 0, .slice none 0 0] 26)).alloc (.cells #[.int .i64 (n : Int)] 3)).alloc (.cells #[.int .i64 1, .slice (some ⟨w.heap.size + 1, 0, none⟩) 1 1, .slice none 0 0, .slice none 0 0] 26) = w4 at *
  have hlt4 := HB3.out.lt
  have HM0 := Lib.hid (MkB.fresh (X := fun b => b < w4.heap.size ∧ w.heap.size ≤ b) HE3.out (by omega) HB3.out ⟨hlt4, by omega⟩ (fun x hx => hx.1))
  go_loopw [12] (fun iv wr => ∃ (i : Nat) (v2 : Value) (nn : List Int), i ≤ n ∧ iv = .int .i64 (i : Int) ∧ Hid (nn = (G.take i).map GRow.no) ∧ Hid (nn.length = i) ∧ Hid (MkB w wr (fun b => b < w4.heap.size ∧ w.heap.size ≤ b) (w.heap.size + 1 + 1) 1 (.slice (some ⟨w.heap.size + 1, 0, none⟩) 1 1) v2 (.slice none 0 0) nn []) ∧ Hid (∀ q, q < w4.heap.size → q ≠ w.heap.size + 1 + 1 → wr.heap[q]? = w4.heap[q]?)) (fun iv _ => n - (intOf iv).toNat)
  case atStart => exact ⟨0, _, [], Nat.zero_le _, rfl, by simp [Hid], rfl, HM0.out, fun _ _ _ => rfl⟩
  case round =>
    obtain ⟨i, v2, nn, hin, rfl, HNN, HNL, HM, HK⟩ := hrel
    have HQL : Hid (∀ q, q < w4.heap.size → q < wr.heap.size) := fun q hq => by
      by_cases h : w.heap.size ≤ q
      · exact HM.out.xl q ⟨hq, h⟩
      · have := HM.out.ext.lt; omega
    clear HM0
    by_cases hlt : i < n
    · have hlt2 : i < G.length := by rw [HN.out]; exact hlt
      obtain ⟨bi, oi, rfl, _, k0, k1, k2, k3, k4⟩ := (HR.out.ext HM.out.ext).get hlt2
      have hgo := HOK.out G[i] (List.getElem_mem hlt2)
      have HNN1 : Hid (nn ++ [G[i].no] = (G.take (i + 1)).map GRow.no) := by
        unfold Hid
        rw [HNN.out, List.take_add_one, List.map_append, List.getElem?_eq_getElem hlt2]
        rfl
      generalize G[i] = gr at *
      obtain ⟨no, t, g0, g1, g2, g3⟩ := gr
      have hno : -9223372036854775808 ≤ no ∧ no ≤ 9223372036854775807 := hgo.1
      have hgf : ArrAt (fun b => b < w.heap.size) w t g0 g1 g2 g3 := hgo.2
      simp only at k0 k1 k2 k3 k4
      obtain ⟨kc, z1, r1, u1, z2, r2, u2, z3, r3, u3, rfl, rfl, rfl, rfl⟩ := hgf.form
      clear hgf hgo
      have hEb : Ext wr (wr.alloc (.cells #[.int .i64 no, .int .i64 kc, .slice z1 r1 u1, .slice z2 r2 u2, .slice z3 r3 u3] 96)) := (Ext.refl _).alloc _
      obtain ⟨pv, cv, rfl, _, _⟩ := HM.out.on.ints
      have hbx : (wr.alloc (.cells #[.int .i64 no, .int .i64 kc, .slice z1 r1 u1, .slice z2 r2 u2, .slice z3 r3 u3] 96)).cell? ⟨wr.heap.size, 0, none⟩ = some (.int .i64 no) := by simp
      have hM2 := HM.out.next hEb
      have hEn : Ext (wr.alloc (.cells #[.int .i64 no, .int .i64 kc, .slice z1 r1 u1, .slice z2 r2 u2, .slice z3 r3 u3] 96)) ((wr.alloc (.cells #[.int .i64 no, .int .i64 kc, .slice z1 r1 u1, .slice z2 r2 u2, .slice z3 r3 u3] 96)).alloc (.cells #[.int .i64 no] 3)) := (Ext.refl _).alloc _
      have hnc : ((wr.alloc (.cells #[.int .i64 no, .int .i64 kc, .slice z1 r1 u1, .slice z2 r2 u2, .slice z3 r3 u3] 96)).alloc (.cells #[.int .i64 no] 3)).cell? ⟨wr.heap.size + 1, 0, none⟩ = some (.int .i64 no) := by simp
      obtain ⟨t0, t1, t2, t3⟩ := hM2.box.cell
      have hM7 := hM2.next hEn
      have HM7 := Lib.hid hM7
      have HEN := Lib.hid (hEb.trans hEn)
      have HNC := Lib.hid hnc
      have hnlen : nn.length < 17592186044416 := by rw [HNL.out]; omega
      clear hM7 hEn hM2 hEb hnc HM
      go_wp2_with (at_builtin; refine wpList_append_int rfl _ _ rfl w.heap.size _ (.slice pv nn.length cv) nn.length nn no rfl HM7.out.on ⟨wr.heap.size + 1, 0, none⟩ 1 rfl HNC.out HM7.out.xl2 hno (by omega) HM7.out.ext.lt ?_)
      intro g cap w8 hon8 hgrow hat8 _ _
      obtain ⟨q1, q2, q3⟩ := HM7.out.grownN hgrow
      clear t0 t1 t2 t3 HNC k0 k1 k2 k3 k4 hbx
      obtain ⟨_, _, t2, _⟩ := q2.cell
      have tf := q2.free 2
      obtain ⟨hM8, hfar⟩ := HM7.out.storedN (n' := nn ++ [no]) hgrow (by simp) hon8 (by simpa using hat8)
      have HM8 := Lib.hid hM8
      have HFAR := Lib.hid hfar
      clear HM7 hon8 hgrow hat8 q1 q2 q3 hM8 hfar
      go_wp2_with fail
      obtain hM8 := HM8.out
      obtain hfar := HFAR.out
      obtain hEn := HEN.out
      clear HM8 HFAR HEN t2 tf
      have hkeep3 : ∀ q, q < w4.heap.size → q ≠ w.heap.size + 1 + 1 → (w8.setCell ⟨w.heap.size + 1 + 1, 2, none⟩ (.slice (some ⟨g, 0, none⟩) (nn.length + 1) cap)).heap[q]? = w4.heap[q]? := fun q h1 h2 => by
        by_cases h : w.heap.size ≤ q
        · exact ((hfar q ⟨h1, h⟩ h2).trans (hEn.block (HQL.out q h1))).trans (HK.out q h1 h2)
        · exact (hM8.ext.block (by omega)).trans (HE3.out.block (by omega)).symm
      revert hM8 hkeep3
      generalize w8.setCell ⟨w.heap.size + 1 + 1, 2, none⟩ (.slice (some ⟨g, 0, none⟩) (nn.length + 1) cap) = wk
      intro hM8 hkeep3
      have HM8 := Lib.hid hM8
      have HK8 := Lib.hid hkeep3
      clear hfar hEn HK HQL hM8 hkeep3
      (try simp only [Exit.inBlock, Exit.then])
      go_wp2_with fail
      go_roundw
      case rel => exact ⟨i + 1, _, nn ++ [no], by omega, by go_num, HNN1, by unfold Hid; simp [HNL.out], HM8, HK8⟩
      case measure => simp [intOf]; omega
    · have hin2 : i = n := by omega
      subst hin2
      have hM := HM.out
      have hnl := HNL.out
      have hwsh : wr.cell? ⟨w.heap.size + 1, 0, none⟩ = some (.int .i64 (i : Int)) := (World.cell?_of_block (w := w4) (w' := wr) (a := ⟨w.heap.size + 1, 0, none⟩) (HK.out (w.heap.size + 1) (by omega) (by omega))).trans HSh.out
      have hiw : IntsAt (fun q => q = w.heap.size + 1) wr (some ⟨w.heap.size + 1, 0, none⟩) [(i : Int)] := by
        intro j hj
        have : j = 0 := by simp at hj; omega
        subst this
        exact ⟨w.heap.size + 1, 0, rfl, rfl, hwsh, by show -9223372036854775808 ≤ (i : Int) ∧ (i : Int) ≤ 9223372036854775807; omega⟩
      have hBr := HBr.out.kept (HK.out w.heap.size (by omega) (by omega))
      have hA := MkB.arr (G := fun q => q = w.heap.size + 1) hM (by omega) ⟨_, _, rfl, ⟨by simp, by simp, by simp⟩, hiw⟩ (by simp)
      obtain ⟨p9, c9, rfl, _, _⟩ := hM.on.ints
      obtain ⟨ob0, ob1, ob2, ob3⟩ := hM.box.cell
      obtain ⟨x0, x1, x2, x3⟩ := hBr.cell
      have y0 := hBr.free 0
      have y1 := hBr.free 1
      have y2 := hBr.free 2
      have y3 := hBr.free 3
      have hEM := hM.ext
      rw [hnl] at hA ob2
      have HAA := Lib.hid hA
      have HB9 := Lib.hid hBr
      have HNNi : Hid (nn = G.map GRow.no) := by
        unfold Hid
        rw [HNN.out, List.take_of_length_le (by rw [HN.out]; omega)]
      clear hM hiw hA hBr HK HQL HM hwsh hnl
      go_wp2_with fail
      obtain ⟨g1, g2, g3⟩ := HB9.out.put4 hEM (by omega) (.int .i64 1) (.slice (some ⟨w.heap.size + 1, 0, none⟩) 1 1) (.slice p9 i c9) (.slice none 0 0)
      revert g1 g2 g3
      generalize ((((wr.setCell ⟨w.heap.size, 0, none⟩ (.int .i64 1)).setCell ⟨w.heap.size, 1, none⟩ (.slice (some ⟨w.heap.size + 1, 0, none⟩) 1 1)).setCell ⟨w.heap.size, 2, none⟩ (.slice p9 i c9)).setCell ⟨w.heap.size, 3, none⟩ (.slice none 0 0)) = w9
      intro g1 g2 g3
      obtain ⟨z0, z1, z2, z3⟩ := g2.cell
      have hA9 := ArrAt.mono (G := fun b => w.heap.size ≤ b) (w' := w9) (fun b hb _ => ⟨by rcases hb with hb | hb <;> omega, g3 b (by rcases hb with hb | hb; have := hb.2; omega; omega)⟩) _ _ _ _ _ HAA.out
      rw [HNNi.out] at hA9
      refine bodyPost_ret (v := .agg #[(.int .i64 1), (.slice (some ⟨w.heap.size + 1, 0, none⟩) 1 1), (.slice p9 i c9), (.slice none 0 0)]) ?_ rfl ⟨_, _, _, _, rfl, hA9, g1⟩
      simp [results, Try.results66, go_sem, z0, z1, z2, z3]
end Go.Proofs.Ytgeppialbkijiaa

namespace Go.Proofs.Ytgeppialbkijiaa
set_option linter.unusedSimpArgs false
set_option linter.unusedVariables false
open Go.RowKit

/-- Rows that may be compared. -/
def GRow.good (m : Nat) (r : GRow) : Prop := szA r.t < m ∧ rightV r.t = 0
theorem ocmpM_right {m : Nat} {x y : Arr} (hx : rightV x = 0) (hy : rightV y = 0) : ocmpM m x y = cmpF m x y := by rw [ocmpM, if_neg (by rw [hx, hy]; simp)]
theorem cmpF_ord (m : Nat) : POrd (cmpF m) := ⟨fun x y => cmpF_neg m x y, fun x y z a b => (cmpF_t3 m x y z).1 a b⟩
theorem mrg_map {α β : Type} (c : β → β → Int) (f : α → β) : ∀ (n : Nat) (a b : List α), a.length + b.length ≤ n → (mrg (fun x y => c (f x) (f y)) a b).map f = mrg c (a.map f) (b.map f)
  | _, [], b, _ => by rw [mrg_nil_l, List.map_nil, mrg_nil_l]
  | _, a :: s, [], _ => by rw [mrg_nil_r, List.map_nil, mrg_nil_r]
  | 0, a :: s, b :: t, h => by simp at h
  | n + 1, a :: s, b :: t, h => by
    simp only [List.length_cons] at h
    rw [List.map_cons, List.map_cons, mrg, mrg]
    split
    · rw [List.map_cons, mrg_map c f n s (b :: t) (by simp only [List.length_cons]; omega), List.map_cons]
    · rw [List.map_cons, mrg_map c f n (a :: s) t (by simp only [List.length_cons]; omega), List.map_cons]
theorem msort_map {α β : Type} (c : β → β → Int) (f : α → β) : ∀ (m : Nat) (l : List α), (msort (fun x y => c (f x) (f y)) m l).map f = msort c m (l.map f)
  | 0, l => by rw [msort, msort]
  | m + 1, l => by
    rw [msort, msort, List.length_map]
    split
    · rfl
    · rw [mrg_map c f _ _ _ (Nat.le_refl _), msort_map c f m, msort_map c f m, List.map_take, List.map_drop]
/-- What the merge sort makes of the rows of a list. -/
theorem msort_pairs {c : Arr → Arr → Int} (h : POrd c) {G : List GRow} {C : List Arr} (hp : G.map GRow.pair = rowsN C C.length) : (msort (fun x y : GRow => c x.t y.t) G.length G).map GRow.pair = (grade c C).map fun i => (i, C.getD i.toNat default) := by
  have h1 := msort_map (fun x y : Int × Arr => c x.2 y.2) GRow.pair G.length G
  have hl : G.length = C.length := by have := congrArg List.length hp; simpa [rowsN_length] using this
  have h2 := msort_rows h C
  rw [← hp, ← hl] at h2
  rw [← h2]
  exact h1
theorem map_no (G : List GRow) : G.map GRow.no = (G.map GRow.pair).map (·.1) := by rw [List.map_map]; rfl
theorem map_t (G : List GRow) : G.map GRow.t = (G.map GRow.pair).map (·.2) := by rw [List.map_map]; rfl
theorem msort_no {c : Arr → Arr → Int} (h : POrd c) {G : List GRow} {C : List Arr} (hp : G.map GRow.pair = rowsN C C.length) : (msort (fun x y : GRow => c x.t y.t) G.length G).map GRow.no = grade c C := by
  rw [map_no, msort_pairs h hp, List.map_map]
  exact (List.map_congr_left fun _ _ => rfl).trans (List.map_id _)
theorem msort_t {c : Arr → Arr → Int} (h : POrd c) {G : List GRow} {C : List Arr} (hp : G.map GRow.pair = rowsN C C.length) : (msort (fun x y : GRow => c x.t y.t) G.length G).map GRow.t = sorted c C := by
  rw [map_t, msort_pairs h hp, List.map_map]
  rfl
/-- What Up and Down leave. -/
def gradeV (c : Arr → Arr → Int) (y : Arr) : Arr := if rowsE y ≠ 0 then Arr.zero else .mk 1 [((rowsC y).length : Int)] (grade c (rowsC y)) []
/-- The rows of y may be compared with fuel m. -/
def RowsOk (m : Nat) (y : Arr) : Prop := rowsE y = 0 → ∀ t ∈ rowsC y, szA t < m ∧ rightV t = 0
theorem RowsOk.good {m : Nat} {y : Arr} (h : RowsOk m y) (h0 : rowsE y = 0) {G : List GRow} (hp : G.map GRow.pair = rowsN (rowsC y) (rowsC y).length) : ∀ r ∈ G, r.good m := by
  intro r hr
  have h1 : r.pair ∈ rowsN (rowsC y) (rowsC y).length := by rw [← hp]; exact List.mem_map_of_mem hr
  unfold rowsN at h1
  obtain ⟨i, hi, e⟩ := List.mem_map.1 h1
  have hi := List.mem_range.1 hi
  have e2 : r.t = (rowsC y).getD i default := by
    have := congrArg Prod.snd e
    exact this.symm
  have := h h0 ((rowsC y).getD i default) (by simp [List.getD, hi])
  unfold GRow.good
  rw [e2]
  exact this

theorem upFn_enter (args : Array Value) (w : World) : (callFunc 68 args).run Try.prog w = .ok (.enter 68 args) w := by go_simp
set_option maxRecDepth 100000 in
set_option maxHeartbeats 2000000 in
theorem up1_any (m : Nat) (x y : GRow) (w : World) (hx : x.ok w.heap.size w) (hy : y.ok w.heap.size w) (px : x.good m) (py : y.good m) :
    Calls Try.prog 68 #[x.val, y.val] w fun e w' => e = .returned (.int .i64 (cmpF m x.t y.t)) ∧ Ext w w' := by
  obtain ⟨n1, t1, a0, a1, a2, a3⟩ := x
  obtain ⟨n2, t2, b0, b1, b2, b3⟩ := y
  have hA : ArrAt (fun b => b < w.heap.size) w t1 a0 a1 a2 a3 := hx.2
  have hB : ArrAt (fun b => b < w.heap.size) w t2 b0 b1 b2 b3 := hy.2
  have hc : ocmpM m t1 t2 = cmpF m t1 t2 := ocmpM_right px.2 py.2
  have hm : szA t1 < m := px.1
  obtain ⟨k1, p1, l1, u1, p2, l2, u2, p3, l3, u3, rfl, rfl, rfl, rfl⟩ := hA.form
  obtain ⟨k2, q1, r1, v1, q2, r2, v2, q3, r3, v3, rfl, rfl, rfl, rfl⟩ := hB.form
  have HA := Lib.hid hA
  have HB := Lib.hid hB
  have HCM := Lib.hid hc
  unfold GRow.val
  simp only
  clear hx hy px py hA hB hc
  go_enter Try.func68, Try.ntmps68
  have hE0 : Ext w ((w.alloc (.cells #[.int .i64 n1, .int .i64 k1, .slice p1 l1 u1, .slice p2 l2 u2, .slice p3 l3 u3] 96)).alloc (.cells #[.int .i64 n2, .int .i64 k2, .slice q1 r1 v1, .slice q2 r2 v2, .slice q3 r3 v3] 96)) := ((Ext.refl _).alloc _).alloc _
  have HE := Lib.hid hE0
  clear hE0
  go_wp2_with fail
  refine (ocomparem_any m _ _ t1 t2 _ _ _ _ _ _ _ _ _ (HA.out.ext HE.out) (HB.out.ext HE.out) hm).mono ?_
  rintro e w4 ⟨rfl, hE1⟩
  rw [HCM.out]
  have hE2 := HE.out.trans hE1
  clear hE1
  go_wp2_with fail
  go_ret
  exact ⟨rfl, hE2⟩
theorem downFn_enter (args : Array Value) (w : World) : (callFunc 71 args).run Try.prog w = .ok (.enter 71 args) w := by go_simp
set_option maxRecDepth 100000 in
set_option maxHeartbeats 2000000 in
theorem down1_any (m : Nat) (x y : GRow) (w : World) (hx : x.ok w.heap.size w) (hy : y.ok w.heap.size w) (px : x.good m) (py : y.good m) :
    Calls Try.prog 71 #[x.val, y.val] w fun e w' => e = .returned (.int .i64 (cmpF m y.t x.t)) ∧ Ext w w' := by
  obtain ⟨n1, t1, a0, a1, a2, a3⟩ := x
  obtain ⟨n2, t2, b0, b1, b2, b3⟩ := y
  have hA : ArrAt (fun b => b < w.heap.size) w t1 a0 a1 a2 a3 := hx.2
  have hB : ArrAt (fun b => b < w.heap.size) w t2 b0 b1 b2 b3 := hy.2
  have hc : ocmpM m t2 t1 = cmpF m t2 t1 := ocmpM_right py.2 px.2
  have hm : szA t2 < m := py.1
  obtain ⟨k1, p1, l1, u1, p2, l2, u2, p3, l3, u3, rfl, rfl, rfl, rfl⟩ := hA.form
  obtain ⟨k2, q1, r1, v1, q2, r2, v2, q3, r3, v3, rfl, rfl, rfl, rfl⟩ := hB.form
  have HA := Lib.hid hA
  have HB := Lib.hid hB
  have HCM := Lib.hid hc
  unfold GRow.val
  simp only
  clear hx hy px py hA hB hc
  go_enter Try.func71, Try.ntmps71
  have hE0 : Ext w ((w.alloc (.cells #[.int .i64 n1, .int .i64 k1, .slice p1 l1 u1, .slice p2 l2 u2, .slice p3 l3 u3] 96)).alloc (.cells #[.int .i64 n2, .int .i64 k2, .slice q1 r1 v1, .slice q2 r2 v2, .slice q3 r3 v3] 96)) := ((Ext.refl _).alloc _).alloc _
  have HE := Lib.hid hE0
  clear hE0
  go_wp2_with fail
  refine (ocomparem_any m _ _ t2 t1 _ _ _ _ _ _ _ _ _ (HB.out.ext HE.out) (HA.out.ext HE.out) hm).mono ?_
  rintro e w4 ⟨rfl, hE1⟩
  rw [HCM.out]
  have hE2 := HE.out.trans hE1
  clear hE1
  go_wp2_with fail
  go_ret
  exact ⟨rfl, hE2⟩
theorem sortFn_enter (args : Array Value) (w : World) : (callFunc 73 args).run Try.prog w = .ok (.enter 73 args) w := by go_simp
set_option maxRecDepth 100000 in
set_option maxHeartbeats 2000000 in
theorem sort1_any (m : Nat) (x y : GRow) (w : World) (hx : x.ok w.heap.size w) (hy : y.ok w.heap.size w) (px : x.good m) (py : y.good m) :
    Calls Try.prog 73 #[x.val, y.val] w fun e w' => e = .returned (.int .i64 (cmpF m x.t y.t)) ∧ Ext w w' := by
  obtain ⟨n1, t1, a0, a1, a2, a3⟩ := x
  obtain ⟨n2, t2, b0, b1, b2, b3⟩ := y
  have hA : ArrAt (fun b => b < w.heap.size) w t1 a0 a1 a2 a3 := hx.2
  have hB : ArrAt (fun b => b < w.heap.size) w t2 b0 b1 b2 b3 := hy.2
  have hc : ocmpM m t1 t2 = cmpF m t1 t2 := ocmpM_right px.2 py.2
  have hm : szA t1 < m := px.1
  obtain ⟨k1, p1, l1, u1, p2, l2, u2, p3, l3, u3, rfl, rfl, rfl, rfl⟩ := hA.form
  obtain ⟨k2, q1, r1, v1, q2, r2, v2, q3, r3, v3, rfl, rfl, rfl, rfl⟩ := hB.form
  have HA := Lib.hid hA
  have HB := Lib.hid hB
  have HCM := Lib.hid hc
  unfold GRow.val
  simp only
  clear hx hy px py hA hB hc
  go_enter Try.func73, Try.ntmps73
  have hE0 : Ext w ((w.alloc (.cells #[.int .i64 n1, .int .i64 k1, .slice p1 l1 u1, .slice p2 l2 u2, .slice p3 l3 u3] 96)).alloc (.cells #[.int .i64 n2, .int .i64 k2, .slice q1 r1 v1, .slice q2 r2 v2, .slice q3 r3 v3] 96)) := ((Ext.refl _).alloc _).alloc _
  have HE := Lib.hid hE0
  clear hE0
  go_wp2_with fail
  refine (ocomparem_any m _ _ t1 t2 _ _ _ _ _ _ _ _ _ (HA.out.ext HE.out) (HB.out.ext HE.out) hm).mono ?_
  rintro e w4 ⟨rfl, hE1⟩
  rw [HCM.out]
  have hE2 := HE.out.trans hE1
  clear hE1
  go_wp2_with fail
  go_ret
  exact ⟨rfl, hE2⟩

set_option maxRecDepth 1000000 in
set_option maxHeartbeats 8000000 in
theorem up_any (m : Nat) (F : Nat → Prop) (x : Arr) (c0 c1 c2 c3 : Value) (w : World) (hx : ArrAt F w x c0 c1 c2 c3) (hR : RowsOk m x) :
    Calls Try.prog 33 #[.agg #[c0, c1, c2, c3]] w fun e w' => ∃ d0 d1 d2 d3, e = .returned (.tuple #[.agg #[d0, d1, d2, d3], .int .i64 (rowsE x)]) ∧ ArrAt (fun b => w.heap.size ≤ b) w' (gradeV (cmpF m) x) d0 d1 d2 d3 ∧ Ext w w' := by
  have HR := Lib.hid hR
  have HX := Lib.hid hx
  have HCL := Lib.hid (rowsC_length x)
  have HV : Hid (gradeV (cmpF m) x = if rowsE x ≠ 0 then Arr.zero else .mk 1 [((rowsC x).length : Int)] (grade (cmpF m) (rowsC x)) []) := rfl
  generalize gradeV (cmpF m) x = gv at *
  obtain ⟨kx, p1, n1, m1, p2, n2, m2, p3, n3, m3, rfl, rfl, rfl, rfl⟩ := hx.form
  clear hx hR
  go_enter Try.func33, Try.ntmps33
  have hE0 : Ext w ((w.alloc (.cells #[.int .i64 kx, .slice p1 n1 m1, .slice p2 n2 m2, .slice p3 n3 m3] 26)).alloc (.cells #[.int .i64 0, .slice none 0 0, .slice none 0 0, .slice none 0 0] 26)) := ((Ext.refl _).alloc _).alloc _
  have hB := box_new (w.alloc (.cells #[.int .i64 kx, .slice p1 n1 m1, .slice p2 n2 m2, .slice p3 n3 m3] 26)) (.int .i64 0) (.slice none 0 0) (.slice none 0 0) (.slice none 0 0)
  rw [World.size_alloc] at hB
  have HE := Lib.hid hE0
  have HB := Lib.hid hB
  clear hE0 hB
  go_wp2_with fail
  refine (rows_any F x _ _ _ _ _ (HX.out.ext HE.out)).mono ?_
  rintro e w2 ⟨p, c, G, rfl, l1, l1', hrw, hok, _, hpr, _, hE1⟩
  replace HE := Lib.hid (HE.out.trans hE1)
  have HBr := Lib.hid (HB.out.ext hE1)
  have HRW := Lib.hid hrw
  have HOK := Lib.hid hok
  have HPR := Lib.hid hpr
  clear HB hE1 hrw hok hpr HX
  by_cases h1 : rowsE x = 0
  rotate_left
  · have HV2 : Hid (gv = Arr.zero) := by unfold Hid; rw [HV.out, if_pos h1]
    generalize hev : rowsE x = ev at *
    have HEV := Lib.hid hev
    clear hev
    have h1' : (ev != 0) = true := by simpa using h1
    obtain ⟨x0, x1, x2, x3⟩ := HBr.out.cell
    have y0 := HBr.out.free 0
    have y1 := HBr.out.free 1
    have y2 := HBr.out.free 2
    have y3 := HBr.out.free 3
    clear h1 HV HR HRW HOK HPR HCL
    go_wp2_with fail
    obtain ⟨g1, g2, g3⟩ := HBr.out.put4 HE.out (by omega) (.int .i64 0) (.slice none 0 0) (.slice none 0 0) (.slice none 0 0)
    revert g1 g2 g3
    generalize ((((w2.setCell ⟨w.heap.size + 1, 0, none⟩ (.int .i64 0)).setCell ⟨w.heap.size + 1, 1, none⟩ (.slice none 0 0)).setCell ⟨w.heap.size + 1, 2, none⟩ (.slice none 0 0)).setCell ⟨w.heap.size + 1, 3, none⟩ (.slice none 0 0)) = w9
    intro g1 g2 g3
    obtain ⟨z0, z1, z2, z3⟩ := g2.cell
    refine bodyPost_ret (v := .tuple #[.agg #[(.int .i64 0), (.slice none 0 0), (.slice none 0 0), (.slice none 0 0)], .int .i64 ev]) ?_ rfl ⟨_, _, _, _, by first | rfl | rw [HEV.out], by rw [HV2.out]; exact Arr.zero_at _ _, g1⟩
    simp [results, Try.results33, go_sem, z0, z1, z2, z3]
  have hgd := HR.out.good h1 (HPR.out h1)
  have hgl : G.length = (rowsC x).length := by have := congrArg List.length (HPR.out h1); simpa [rowsN_length] using this
  have hg6 : G.length ≤ 65536 := by have := HCL.out; omega
  have HSN := Lib.hid (msort_no (cmpF_ord m) (HPR.out h1))
  have HM := Lib.hid (merge_any 68 (fun x y => (cmpF m) x.t y.t) (GRow.good m) upFn_enter (fun x y w hx hy px py => up1_any m x y w hx hy px py) G.length G p c G.length w2 rfl (Nat.le_refl _) hg6 l1 l1' HRW.out (fun r hr => ⟨HOK.out r hr, hgd r hr⟩))
  have hpm : (msort (fun x y : GRow => (cmpF m) x.t y.t) G.length G).Perm G := msort_perm _ _ _
  have hpl := hpm.length_eq
  have HOK2 : Hid (∀ r ∈ msort (fun x y : GRow => (cmpF m) x.t y.t) G.length G, r.ok w2.heap.size w2) := fun r hr => HOK.out r (hpm.mem_iff.1 hr)
  have HV2 : Hid (gv = .mk 1 [(G.length : Int)] (grade (cmpF m) (rowsC x)) []) := by unfold Hid; rw [HV.out, if_neg (by rw [h1]; simp), hgl]
  generalize msort (fun x y : GRow => (cmpF m) x.t y.t) G.length G = S at *
  obtain ⟨n, hn⟩ : ∃ n, G.length = n := ⟨_, rfl⟩
  rw [hn] at HV2 HM l1 hg6 hpl ⊢
  have HPL := Lib.hid hpl
  have HE1 := Lib.hid h1
  rw [h1]
  clear hgd hgl hpm hn hpl HV HR HRW HOK HPR HCL h1
  go_wp2_with fail
  refine HM.out.mono ?_
  rintro e w3 ⟨p5, c5, rfl, l5, l5', hr5, hE5⟩
  have HE5 := Lib.hid (HE.out.trans hE5)
  have HB5 := Lib.hid (HBr.out.ext hE5)
  have HN := Lib.hid (numbers_any S p5 c5 n w3 HPL.out hg6 hr5 (fun r hr => ((HOK2.out r hr).ext hE5).up hE5.lt))
  clear HM hr5 hE5 HE HBr HOK2
  go_wp2_with fail
  refine HN.out.mono ?_
  rintro e w4 ⟨d0, d1, d2, d3, rfl, hA, hE6⟩
  have HE6 := Lib.hid (HE5.out.trans hE6)
  have HB6 := Lib.hid (HB5.out.ext hE6)
  obtain ⟨ka, a1, b1, e1, a2, b2, e2, a3, b3, e3, rfl, rfl, rfl, rfl⟩ := hA.form
  have HA := Lib.hid hA
  have HLT := Lib.hid hE6.lt
  have HL3 := Lib.hid HB5.out.lt
  obtain ⟨x0, x1, x2, x3⟩ := HB6.out.cell
  have y0 := HB6.out.free 0
  have y1 := HB6.out.free 1
  have y2 := HB6.out.free 2
  have y3 := HB6.out.free 3
  clear HN hE6 hA HE5 HB5
  go_wp2_with fail
  obtain ⟨g1, g2, g3⟩ := HB6.out.put4 HE6.out (by omega) (.int .i64 ka) (.slice a1 b1 e1) (.slice a2 b2 e2) (.slice a3 b3 e3)
  revert g1 g2 g3
  generalize ((((w4.setCell ⟨w.heap.size + 1, 0, none⟩ (.int .i64 ka)).setCell ⟨w.heap.size + 1, 1, none⟩ (.slice a1 b1 e1)).setCell ⟨w.heap.size + 1, 2, none⟩ (.slice a2 b2 e2)).setCell ⟨w.heap.size + 1, 3, none⟩ (.slice a3 b3 e3)) = w9
  intro g1 g2 g3
  obtain ⟨z0, z1, z2, z3⟩ := g2.cell
  have hA9 := ArrAt.mono (G := fun b => w.heap.size ≤ b) (w' := w9) (fun b hb _ => ⟨by have := HL3.out; omega, g3 b (by have := HL3.out; omega)⟩) _ _ _ _ _ HA.out
  rw [HSN.out, ← HV2.out] at hA9
  refine bodyPost_ret (v := .tuple #[.agg #[.int .i64 ka, .slice a1 b1 e1, .slice a2 b2 e2, .slice a3 b3 e3], .int .i64 0]) ?_ rfl ⟨_, _, _, _, by first | rfl | rw [HE1.out], hA9, g1⟩
  simp [results, Try.results33, go_sem, z0, z1, z2, z3]

set_option maxRecDepth 1000000 in
set_option maxHeartbeats 8000000 in
theorem down_any (m : Nat) (F : Nat → Prop) (x : Arr) (c0 c1 c2 c3 : Value) (w : World) (hx : ArrAt F w x c0 c1 c2 c3) (hR : RowsOk m x) :
    Calls Try.prog 35 #[.agg #[c0, c1, c2, c3]] w fun e w' => ∃ d0 d1 d2 d3, e = .returned (.tuple #[.agg #[d0, d1, d2, d3], .int .i64 (rowsE x)]) ∧ ArrAt (fun b => w.heap.size ≤ b) w' (gradeV (fun x y => cmpF m y x) x) d0 d1 d2 d3 ∧ Ext w w' := by
  have HR := Lib.hid hR
  have HX := Lib.hid hx
  have HCL := Lib.hid (rowsC_length x)
  have HV : Hid (gradeV (fun x y => cmpF m y x) x = if rowsE x ≠ 0 then Arr.zero else .mk 1 [((rowsC x).length : Int)] (grade (fun x y => cmpF m y x) (rowsC x)) []) := rfl
  generalize gradeV (fun x y => cmpF m y x) x = gv at *
  obtain ⟨kx, p1, n1, m1, p2, n2, m2, p3, n3, m3, rfl, rfl, rfl, rfl⟩ := hx.form
  clear hx hR
  go_enter Try.func35, Try.ntmps35
  have hE0 : Ext w ((w.alloc (.cells #[.int .i64 kx, .slice p1 n1 m1, .slice p2 n2 m2, .slice p3 n3 m3] 26)).alloc (.cells #[.int .i64 0, .slice none 0 0, .slice none 0 0, .slice none 0 0] 26)) := ((Ext.refl _).alloc _).alloc _
  have hB := box_new (w.alloc (.cells #[.int .i64 kx, .slice p1 n1 m1, .slice p2 n2 m2, .slice p3 n3 m3] 26)) (.int .i64 0) (.slice none 0 0) (.slice none 0 0) (.slice none 0 0)
  rw [World.size_alloc] at hB
  have HE := Lib.hid hE0
  have HB := Lib.hid hB
  clear hE0 hB
  go_wp2_with fail
  refine (rows_any F x _ _ _ _ _ (HX.out.ext HE.out)).mono ?_
  rintro e w2 ⟨p, c, G, rfl, l1, l1', hrw, hok, _, hpr, _, hE1⟩
  replace HE := Lib.hid (HE.out.trans hE1)
  have HBr := Lib.hid (HB.out.ext hE1)
  have HRW := Lib.hid hrw
  have HOK := Lib.hid hok
  have HPR := Lib.hid hpr
  clear HB hE1 hrw hok hpr HX
  by_cases h1 : rowsE x = 0
  rotate_left
  · have HV2 : Hid (gv = Arr.zero) := by unfold Hid; rw [HV.out, if_pos h1]
    generalize hev : rowsE x = ev at *
    have HEV := Lib.hid hev
    clear hev
    have h1' : (ev != 0) = true := by simpa using h1
    obtain ⟨x0, x1, x2, x3⟩ := HBr.out.cell
    have y0 := HBr.out.free 0
    have y1 := HBr.out.free 1
    have y2 := HBr.out.free 2
    have y3 := HBr.out.free 3
    clear h1 HV HR HRW HOK HPR HCL
    go_wp2_with fail
    obtain ⟨g1, g2, g3⟩ := HBr.out.put4 HE.out (by omega) (.int .i64 0) (.slice none 0 0) (.slice none 0 0) (.slice none 0 0)
    revert g1 g2 g3
    generalize ((((w2.setCell ⟨w.heap.size + 1, 0, none⟩ (.int .i64 0)).setCell ⟨w.heap.size + 1, 1, none⟩ (.slice none 0 0)).setCell ⟨w.heap.size + 1, 2, none⟩ (.slice none 0 0)).setCell ⟨w.heap.size + 1, 3, none⟩ (.slice none 0 0)) = w9
    intro g1 g2 g3
    obtain ⟨z0, z1, z2, z3⟩ := g2.cell
    refine bodyPost_ret (v := .tuple #[.agg #[(.int .i64 0), (.slice none 0 0), (.slice none 0 0), (.slice none 0 0)], .int .i64 ev]) ?_ rfl ⟨_, _, _, _, by first | rfl | rw [HEV.out], by rw [HV2.out]; exact Arr.zero_at _ _, g1⟩
    simp [results, Try.results35, go_sem, z0, z1, z2, z3]
  have hgd := HR.out.good h1 (HPR.out h1)
  have hgl : G.length = (rowsC x).length := by have := congrArg List.length (HPR.out h1); simpa [rowsN_length] using this
  have hg6 : G.length ≤ 65536 := by have := HCL.out; omega
  have HSN := Lib.hid (msort_no (cmpF_ord m).flip (HPR.out h1))
  have HM := Lib.hid (merge_any 71 (fun x y => (fun x y => cmpF m y x) x.t y.t) (GRow.good m) downFn_enter (fun x y w hx hy px py => down1_any m x y w hx hy px py) G.length G p c G.length w2 rfl (Nat.le_refl _) hg6 l1 l1' HRW.out (fun r hr => ⟨HOK.out r hr, hgd r hr⟩))
  have hpm : (msort (fun x y : GRow => (fun x y => cmpF m y x) x.t y.t) G.length G).Perm G := msort_perm _ _ _
  have hpl := hpm.length_eq
  have HOK2 : Hid (∀ r ∈ msort (fun x y : GRow => (fun x y => cmpF m y x) x.t y.t) G.length G, r.ok w2.heap.size w2) := fun r hr => HOK.out r (hpm.mem_iff.1 hr)
  have HV2 : Hid (gv = .mk 1 [(G.length : Int)] (grade (fun x y => cmpF m y x) (rowsC x)) []) := by unfold Hid; rw [HV.out, if_neg (by rw [h1]; simp), hgl]
  generalize msort (fun x y : GRow => (fun x y => cmpF m y x) x.t y.t) G.length G = S at *
  obtain ⟨n, hn⟩ : ∃ n, G.length = n := ⟨_, rfl⟩
  rw [hn] at HV2 HM l1 hg6 hpl ⊢
  have HPL := Lib.hid hpl
  have HE1 := Lib.hid h1
  rw [h1]
  clear hgd hgl hpm hn hpl HV HR HRW HOK HPR HCL h1
  go_wp2_with fail
  refine HM.out.mono ?_
  rintro e w3 ⟨p5, c5, rfl, l5, l5', hr5, hE5⟩
  have HE5 := Lib.hid (HE.out.trans hE5)
  have HB5 := Lib.hid (HBr.out.ext hE5)
  have HN := Lib.hid (numbers_any S p5 c5 n w3 HPL.out hg6 hr5 (fun r hr => ((HOK2.out r hr).ext hE5).up hE5.lt))
  clear HM hr5 hE5 HE HBr HOK2
  go_wp2_with fail
  refine HN.out.mono ?_
  rintro e w4 ⟨d0, d1, d2, d3, rfl, hA, hE6⟩
  have HE6 := Lib.hid (HE5.out.trans hE6)
  have HB6 := Lib.hid (HB5.out.ext hE6)
  obtain ⟨ka, a1, b1, e1, a2, b2, e2, a3, b3, e3, rfl, rfl, rfl, rfl⟩ := hA.form
  have HA := Lib.hid hA
  have HLT := Lib.hid hE6.lt
  have HL3 := Lib.hid HB5.out.lt
  obtain ⟨x0, x1, x2, x3⟩ := HB6.out.cell
  have y0 := HB6.out.free 0
  have y1 := HB6.out.free 1
  have y2 := HB6.out.free 2
  have y3 := HB6.out.free 3
  clear HN hE6 hA HE5 HB5
  go_wp2_with fail
  obtain ⟨g1, g2, g3⟩ := HB6.out.put4 HE6.out (by omega) (.int .i64 ka) (.slice a1 b1 e1) (.slice a2 b2 e2) (.slice a3 b3 e3)
  revert g1 g2 g3
  generalize ((((w4.setCell ⟨w.heap.size + 1, 0, none⟩ (.int .i64 ka)).setCell ⟨w.heap.size + 1, 1, none⟩ (.slice a1 b1 e1)).setCell ⟨w.heap.size + 1, 2, none⟩ (.slice a2 b2 e2)).setCell ⟨w.heap.size + 1, 3, none⟩ (.slice a3 b3 e3)) = w9
  intro g1 g2 g3
  obtain ⟨z0, z1, z2, z3⟩ := g2.cell
  have hA9 := ArrAt.mono (G := fun b => w.heap.size ≤ b) (w' := w9) (fun b hb _ => ⟨by have := HL3.out; omega, g3 b (by have := HL3.out; omega)⟩) _ _ _ _ _ HA.out
  rw [HSN.out, ← HV2.out] at hA9
  refine bodyPost_ret (v := .tuple #[.agg #[.int .i64 ka, .slice a1 b1 e1, .slice a2 b2 e2, .slice a3 b3 e3], .int .i64 0]) ?_ rfl ⟨_, _, _, _, by first | rfl | rw [HE1.out], hA9, g1⟩
  simp [results, Try.results35, go_sem, z0, z1, z2, z3]
end Go.Proofs.Ytgeppialbkijiaa
