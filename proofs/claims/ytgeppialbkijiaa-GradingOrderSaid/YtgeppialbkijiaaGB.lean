/-
  THE WALK of arraylangref24.Sort. (Printed by gen_grsort.py.)
-/
import Derived.Test.YtgeppialbkijiaaMkR
import Derived.Test.YtgeppialbkijiaaAppA
import Derived.Test.YtgeppialbkijiaaGA
import Derived.Test.YtgeppialbkijiaaOM
import Derived.Test.YtgeppialbkijiaaChain
import Derived.IntWalk
namespace Go.Proofs.Ytgeppialbkijiaa
set_option linter.unusedSimpArgs false
set_option linter.unusedVariables false
open Go.RowKit

theorem OwnR.form {B : Nat} {R X : Nat → Prop} {w : World} {v : Value} {n : Nat} {l : List Arr} (h : OwnR B R X w v n l) : ∃ p c, v = .slice p n c ∧ n ≤ c := by
  obtain ⟨_, _, cells, hr, _⟩ := h
  rcases hr.2 with ⟨rfl, h0⟩ | ⟨g, cap, cur, rfl, _, _, hnc, _⟩
  · exact ⟨none, 0, by rw [h0], by omega⟩
  · exact ⟨_, _, rfl, hnc⟩
theorem wpList_append_arrsR {ops : Array Oper} {rest : List Oper} {o : Oper} {a : Act} {w : World} {Q : Exit → Act → World → Prop} (hgd : o.guard = none) (s x : Operand)
    (ho : o.op = .call { callee := .builtin .append, args := #[s, x], argTypes := #[24, 24] })
    (F : Nat → Prop) (B : Nat) (R X : Nat → Prop) (v : Value) (n : Nat) (ys : List Arr) (p : Option Addr) (c : Nat) (xs : List Arr) (hs : a.eval s = v) (hown : OwnR B R X w v n ys) (hx : a.eval x = .slice p xs.length c) (hr : ItemsAt F w p 0 xs)
    (hF : ∀ b, F b → b < w.heap.size → ApartR R X v b) (hX : ∀ b, X b → b < w.heap.size) (hn : n + xs.length ≤ 1759218604391) (hB : B ≤ w.heap.size)
    (h : ∀ v' w', OwnR B R X w' v' (n + xs.length) (ys ++ xs) → w.grownBy w' v.ownBlock → (v'.ownBlock = v.ownBlock ∨ v'.ownBlock = some w.heap.size) → wpList Try.prog ops Q rest (a.put o.dst v') w') : wpList Try.prog ops Q (o :: rest) a w := by
  obtain ⟨i0, hi, hz0, hz1, hz2⟩ := info_parts infoA
  obtain ⟨ps, cs, hv, hcs⟩ := hown.form
  cases xs with
  | nil =>
    refine wpList_plain hgd fun K hK => ?_
    have hrun := run_append_none (P := Try.prog) w 24 o.type 26 i0 Try.underlying24 hi ps n cs hcs p c
    unfold Oper.wp execOp
    simp only [ho, resolve, invoke, builtin, Sem.run_bind, Sem.run_pure, Result.andThen_ok, List.map_toArray, List.map_cons, List.map_nil, hs, hv, hx, List.length_nil, hrun]
    rw [← hv]
    exact hK _ _ (h _ _ (by simpa using hown) ⟨rfl, rfl, rfl, Nat.le_refl _, fun _ _ _ => rfl⟩ (.inl rfl))
  | cons x0 r =>
    obtain ⟨b, off, _, _, _, _, rfl, _⟩ := ItemsAt.get _ _ 0 0 hr (by simp)
    obtain ⟨news, hn1, hn2, hn3, hn4⟩ := items_cells _ 0 hr
    obtain ⟨k1, k4, cells, k3, k5⟩ := hown
    refine wpList_append_lies w hgd s x 24 ho B 26 i0 _ 4 80 Try.underlying24 hi hz0 hz1 hz2 rfl (by decide) v n _ hs k3 ⟨b, off, none⟩ (x0 :: r).length c news hx hn1 (fun j u hj => by rw [Addr.add_lit]; have := hn2 j u hj; rwa [Nat.zero_mul, Nat.add_zero] at this) hn3 (by simp) (by unfold maxLen; omega) (by omega) hB w.heap.size rfl ?_
    intro g cap w' h1 hgrow hat hlt
    have key : ∀ q, ApartR R X v q → q < w.heap.size → ApartR R X (.slice (some ⟨g, 0, none⟩) (n + (x0 :: r).length) cap) q ∧ w'.heap[q]? = w.heap[q]? := by
      intro q ⟨b1, b2, b3⟩ hlt
      refine ⟨⟨b1, b2, ?_⟩, hgrow.block q hlt (fun e => b3 e.symm)⟩
      simp only [Value.ownBlock, ne_eq, Option.some.injEq]
      rcases hat with hat | hat
      · intro e; subst e; exact b3 hat
      · omega
    refine h _ _ ⟨by simp [k1], fun g' hg' => ?_, _, h1, ?_⟩ hgrow (hat.imp (fun e => e.symm) (fun e => by rw [← e]; rfl))
    · simp only [Value.ownBlock, Option.some.injEq] at hg'
      subst hg'
      rcases hat with hat | hat
      · exact k4 _ hat
      · exact fun hx => by have := hX _ hx; omega
    · exact CellsRead.append _ _ _ _ (CellsRead.mono key _ _ k5) (CellsRead.mono (fun q hq hlt => key q (hF q hq hlt) hlt) _ _ hn4)

theorem MkR.storedN' {w0 wB w w' : World} {R X : Nat → Prop} {b : Nat} {k : Int} {v1 v2 v2' v3 : Value} {n n' : List Int} {l : List Arr} (h : MkR w0 wB w R X b k v1 v2 v3 n l) (hg : w.grownBy w' v2.ownBlock)
    (ho : OwnI wB.heap.size (fun x => X x ∨ v3.ownBlock = some x) w' v2' n'.length n') (hat : v2'.ownBlock = v2.ownBlock ∨ v2'.ownBlock = some w.heap.size) :
    MkR w0 wB (w'.setCell ⟨b, 2, none⟩ v2') R X b k v1 v2' v3 n' l := by
  obtain ⟨h1, h2, h3⟩ := h.grownN hg
  have far : ∀ q, q ≠ b → (w'.setCell ⟨b, 2, none⟩ v2').heap[q]? = w'.heap[q]? := fun q hq => Below.heap_setCell _ _ _ _ (by simpa using hq)
  refine ⟨h1.setCell (p := ⟨b, 2, none⟩) h.le _, h.le, h2.set2 _, h.xb, fun x hx => ?_, ho.same fun q _ _ hne => ⟨far q (fun e => hne (by rw [e]; exact .inl h.xb)), hne⟩, h.hB, Nat.le_trans h.wl (by simpa [World.setCell] using hg.size), fun q hq hqb => ?_, h.rr, h.oi.same h.rr fun q hlt _ hne => ?_⟩
  · have h8 := Nat.lt_of_lt_of_le (h.xl x hx) hg.size
    simpa [World.setCell] using h8
  · exact (far q hqb).trans ((hg.block q (Nat.lt_of_lt_of_le hq h.wl) (fun e => by have := (h.on.2.2.1.lt q e.symm).1; omega)).trans (h.keep q hq hqb))
  · have hqb : q ≠ b := fun e => hne (by rw [e]; exact .inl h.xb)
    refine ⟨(far q hqb).trans (hg.block q hlt (fun e => hne (.inr e.symm))), fun hx => ?_⟩
    rcases hx with hx | hx
    · exact hne (.inl hx)
    · rcases hat with hat | hat
      · exact hne (.inr (by rw [← hat]; exact hx))
      · rw [hat] at hx
        simp only [Option.some.injEq] at hx
        omega
theorem MkR.storedI' {w0 wB w w' : World} {R X : Nat → Prop} {b : Nat} {k : Int} {v1 v2 v3 v3' : Value} {n : List Int} {l l' : List Arr} (h : MkR w0 wB w R X b k v1 v2 v3 n l) (hg : w.grownBy w' v3.ownBlock)
    (ho : OwnR wB.heap.size R (fun x => X x ∨ v2.ownBlock = some x) w' v3' l'.length l') (hat : v3'.ownBlock = v3.ownBlock ∨ v3'.ownBlock = some w.heap.size) :
    MkR w0 wB (w'.setCell ⟨b, 3, none⟩ v3') R X b k v1 v2 v3' n l' := by
  obtain ⟨h1, h2, h3⟩ := h.grownI hg
  have far : ∀ q, q ≠ b → (w'.setCell ⟨b, 3, none⟩ v3').heap[q]? = w'.heap[q]? := fun q hq => Below.heap_setCell _ _ _ _ (by simpa using hq)
  refine ⟨h1.setCell (p := ⟨b, 3, none⟩) h.le _, h.le, h2.set3 _, h.xb, fun x hx => ?_, h.on.same fun q _ hlt hne => ?_, h.hB, Nat.le_trans h.wl (by simpa [World.setCell] using hg.size), fun q hq hqb => ?_, h.rr, ho.same h.rr fun q _ _ hne => ⟨far q (fun e => hne (by rw [e]; exact .inl h.xb)), hne⟩⟩
  · have h8 := Nat.lt_of_lt_of_le (h.xl x hx) hg.size
    simpa [World.setCell] using h8
  · have hqb : q ≠ b := fun e => hne (by rw [e]; exact .inl h.xb)
    refine ⟨(far q hqb).trans (hg.block q hlt (fun e => hne (.inr e.symm))), fun hx => ?_⟩
    rcases hx with hx | hx
    · exact hne (.inl hx)
    · rcases hat with hat | hat
      · exact hne (.inr (by rw [← hat]; exact hx))
      · rw [hat] at hx
        simp only [Option.some.injEq] at hx
        omega
  · exact (far q hqb).trans ((hg.block q (Nat.lt_of_lt_of_le hq h.wl) (fun e => by
      obtain ⟨_, _, cells, hr, _⟩ := h.oi
      have := (hr.lt q e.symm).1; omega)).trans (h.keep q hq hqb))
end Go.Proofs.Ytgeppialbkijiaa

namespace Go.Proofs.Ytgeppialbkijiaa
set_option linter.unusedSimpArgs false
set_option linter.unusedVariables false
open Go.RowKit

/-- What Sort leaves. -/
def sortV (c : Arr → Arr → Int) (y : Arr) : Arr := if rowsE y ≠ 0 then Arr.zero else .mk y.k y.sh ((sorted c (rowsC y)).flatMap Arr.n) ((sorted c (rowsC y)).flatMap Arr.it)
theorem right_lens {t : Arr} (h : rightV t = 0) : t.n.length ≤ 65536 ∧ t.it.length ≤ 65536 := by
  obtain ⟨k, s, n, it⟩ := t
  obtain ⟨h1, h2, h3, h4, h5⟩ := right_parts h
  have h6 := shapeSize_hi s
  simp only [Arr.n, Arr.it]
  by_cases hk : k = 3
  · have := h5 hk
    exact ⟨by rw [this.1]; simp, by omega⟩
  · have := h4 hk
    exact ⟨by omega, by rw [this.1]; simp⟩

theorem RowsAt.farX {B bo : Nat} {w w' : World} {p : Option Addr} {L : List GRow} {k0 k1 k2 k3 : Value} (h : RowsAt B w p L) (hx : Box4 w bo k0 k1 k2 k3) (hB : ∀ b, b < B → b ≠ bo → w'.heap[b]? = w.heap[b]?) : RowsAt B w' p L := by
  intro j hj
  obtain ⟨b, off, e, hb, hc⟩ := h j hj
  refine ⟨b, off, e, hb, fun k u hu => ?_⟩
  have h4 := hc 4 _ rfl
  have hne : b ≠ bo := fun e2 => by
    subst e2
    unfold Box4 at hx
    simp [World.cell?, hx] at h4
  rw [World.cell?_of_block (hB b hb hne)]
  exact hc k u hu
theorem OwnI.rebase {B B' : Nat} {X : Nat → Prop} {w : World} {v : Value} {n : Nat} {xs : List Int} (h : OwnI B (fun _ => False) w v n xs) (hB : B' ≤ B) (hX : ∀ b, X b → b < B) : OwnI B' X w v n xs := by
  obtain ⟨k1, k2, k3, k4, k5⟩ := h
  have hl := k3.lt
  exact ⟨k1, k2, ownsRow_base k3 hB, fun g hg hx => by have := (hl g hg).1; have := hX g hx; omega, k5⟩
set_option maxRecDepth 1000000 in
set_option maxHeartbeats 8000000 in
theorem gsort_any (m : Nat) (F : Nat → Prop) (x : Arr) (c0 c1 c2 c3 : Value) (w : World) (hx : ArrAt F w x c0 c1 c2 c3) (hR : RowsOk m x) :
    Calls Try.prog 37 #[.agg #[c0, c1, c2, c3]] w fun e w' => ∃ d0 d1 d2 d3, e = .returned (.tuple #[.agg #[d0, d1, d2, d3], .int .i64 (rowsE x)]) ∧ ArrAt (fun b => w.heap.size ≤ b) w' (sortV (cmpF m) x) d0 d1 d2 d3 ∧ Ext w w' := by
  have HR := Lib.hid hR
  have HCL := Lib.hid (rowsC_length x)
  have HV : Hid (sortV (cmpF m) x = if rowsE x ≠ 0 then Arr.zero else .mk x.k x.sh ((sorted (cmpF m) (rowsC x)).flatMap Arr.n) ((sorted (cmpF m) (rowsC x)).flatMap Arr.it)) := rfl
  generalize sortV (cmpF m) x = gv at *
  obtain ⟨kx, s, nx, ix⟩ := x
  have hx' := hx
  unfold ArrAt at hx'
  obtain ⟨rfl, hkx, ⟨p1, m1, rfl, ⟨o1, o1', o1''⟩, i1⟩, ⟨p2, m2, rfl, ⟨o2, o2', o2''⟩, i2⟩, ⟨p3, m3, rfl, ⟨o3, o3', o3''⟩, i3⟩⟩ := hx'
  have HX := Lib.hid hx
  have HS := Lib.hid i1
  clear hx i1 i2 i3 hR
  go_enter Try.func37, Try.ntmps37
  have hE0 : Ext w ((w.alloc (.cells #[.int .i64 kx, .slice p1 s.length m1, .slice p2 nx.length m2, .slice p3 ix.length m3] 26)).alloc (.cells #[.int .i64 0, .slice none 0 0, .slice none 0 0, .slice none 0 0] 26)) := ((Ext.refl _).alloc _).alloc _
  have hB := box_new (w.alloc (.cells #[.int .i64 kx, .slice p1 s.length m1, .slice p2 nx.length m2, .slice p3 ix.length m3] 26)) (.int .i64 0) (.slice none 0 0) (.slice none 0 0) (.slice none 0 0)
  rw [World.size_alloc] at hB
  have hBx := (box_new w (.int .i64 kx) (.slice p1 s.length m1) (.slice p2 nx.length m2) (.slice p3 ix.length m3)).ext ((Ext.refl _).alloc (.cells #[.int .i64 0, .slice none 0 0, .slice none 0 0, .slice none 0 0] 26))
  have HE := Lib.hid hE0
  have HB := Lib.hid hB
  have HBX := Lib.hid hBx
  clear hE0 hB hBx
  go_wp2_with fail
  refine (rows_any F (.mk kx s nx ix) _ _ _ _ _ (HX.out.ext HE.out)).mono ?_
  rintro e w2 ⟨p, c, G, rfl, l1, l1', hrw, hok, _, hpr, hnw, hE1⟩
  have HNW : Hid (∀ r ∈ G, r.nw (w.heap.size + 1 + 1) w2.heap.size w2) := fun r hr => ArrAt.mono (fun b hb _ => ⟨⟨by have h9 := hb.1; simp only [World.size_alloc] at h9; omega, hb.2⟩, rfl⟩) _ _ _ _ _ (hnw r hr)
  replace HE := Lib.hid (HE.out.trans hE1)
  have HBr := Lib.hid (HB.out.ext hE1)
  have HBx := Lib.hid (HBX.out.ext hE1)
  have HRW := Lib.hid hrw
  have HOK := Lib.hid hok
  have HPR := Lib.hid hpr
  clear HB HBX hE1 hrw hok hpr HX hnw
  by_cases h1 : rowsE (.mk kx s nx ix) = 0
  rotate_left
  · have HV2 : Hid (gv = Arr.zero) := by unfold Hid; rw [HV.out, if_pos h1]
    generalize hev : rowsE (.mk kx s nx ix) = ev at *
    have HEV := Lib.hid hev
    clear hev
    have h1' : (ev != 0) = true := by simpa using h1
    obtain ⟨x0, x1, x2, x3⟩ := HBr.out.cell
    have y0 := HBr.out.free 0
    have y1 := HBr.out.free 1
    have y2 := HBr.out.free 2
    have y3 := HBr.out.free 3
    clear h1 HV HR HRW HOK HPR HCL HNW HBx
    go_wp2_with fail
    obtain ⟨g1, g2, g3⟩ := HBr.out.put4 HE.out (by omega) (.int .i64 0) (.slice none 0 0) (.slice none 0 0) (.slice none 0 0)
    revert g1 g2 g3
    generalize ((((w2.setCell ⟨w.heap.size + 1, 0, none⟩ (.int .i64 0)).setCell ⟨w.heap.size + 1, 1, none⟩ (.slice none 0 0)).setCell ⟨w.heap.size + 1, 2, none⟩ (.slice none 0 0)).setCell ⟨w.heap.size + 1, 3, none⟩ (.slice none 0 0)) = w9
    intro g1 g2 g3
    obtain ⟨z0, z1, z2, z3⟩ := g2.cell
    refine bodyPost_ret (v := .tuple #[.agg #[(.int .i64 0), (.slice none 0 0), (.slice none 0 0), (.slice none 0 0)], .int .i64 ev]) ?_ rfl ⟨_, _, _, _, by first | rfl | rw [HEV.out], by rw [HV2.out]; exact Arr.zero_at _ _, g1⟩
    simp [results, Try.results37, go_sem, z0, z1, z2, z3]
  have hgd := HR.out.good h1 (HPR.out h1)
  have hgl : G.length = (rowsC (.mk kx s nx ix)).length := by have := congrArg List.length (HPR.out h1); simpa [rowsN_length] using this
  have hg6 : G.length ≤ 65536 := by have := HCL.out; omega
  have HST := Lib.hid (msort_t (cmpF_ord m) (HPR.out h1))
  have HM := Lib.hid (fun (w6 : World) (e : Ext w2 w6) => merge_any 73 (fun x y => cmpF m x.t y.t) (GRow.good m) sortFn_enter (fun x y w hx hy px py => sort1_any m x y w hx hy px py) G.length G p c G.length w6 rfl (Nat.le_refl _) hg6 l1 l1' ((HRW.out.ext e).up e.lt) (fun r hr => ⟨((HOK.out r hr).ext e).up e.lt, hgd r hr⟩))
  have hpm : (msort (fun x y : GRow => cmpF m x.t y.t) G.length G).Perm G := msort_perm _ _ _
  have hpl := hpm.length_eq
  have HNW2 : Hid (∀ r ∈ msort (fun x y : GRow => cmpF m x.t y.t) G.length G, r.nw (w.heap.size + 1 + 1) w2.heap.size w2 ∧ r.good m) := fun r hr => ⟨HNW.out r (hpm.mem_iff.1 hr), hgd r (hpm.mem_iff.1 hr)⟩
  have HV2 : Hid (gv = .mk kx s ((sorted (cmpF m) (rowsC (.mk kx s nx ix))).flatMap Arr.n) ((sorted (cmpF m) (rowsC (.mk kx s nx ix))).flatMap Arr.it)) := by unfold Hid; rw [HV.out, if_neg (by rw [h1]; simp)]; rfl
  generalize msort (fun x y : GRow => cmpF m x.t y.t) G.length G = S at *
  rw [← HST.out] at HV2
  obtain ⟨n, hn⟩ : ∃ n, G.length = n := ⟨_, rfl⟩
  rw [hn] at HM l1 hg6 hpl ⊢
  have HPL := Lib.hid hpl
  have HE1 := Lib.hid h1
  rw [h1]
  clear hgd hgl hpm hn hpl HV HR HRW HOK HPR HCL h1 HNW HST
  go_wp2_with fail
  refine wp_region_x1 [MProp.is (.pointer (some ⟨w.heap.size, 0, none⟩)), MProp.is (.int .i64 kx), MProp.is (.pointer (some ⟨w.heap.size, 1, none⟩)), MProp.is (.slice p1 s.length m1), MProp.own w2.heap.size s, MProp.ownAgg w2.heap.size kx s, MProp.box] [0, 1, 2, 3, 4, 5, 6] [] [18, 19, 20, 21, 22, 23, 6] 7 (by kernel_rfl) (by kernel_rfl) (by kernel_rfl) rfl ?_ ?_ ?_
  · refine mem_cons_m ?_ (mem_cons_m ?_ (mem_cons_m ?_ (mem_cons_m ?_ (mem_cons_m ?_ (mem_cons_m ?_ (mem_cons_m ?_ (mem_nil_m)))))))
    · refine ⟨_, 18, rfl, by kernel_rfl, ?_⟩
      intro u w9 X hE hX hd K hK
      clear hd
      simp only [overlay, List.setIfInBounds_toArray, List.set] at hK ⊢
      go_wp2_with fail
      exact hK _ _ X (Ext.refl _) kept_m hX rfl
    · refine ⟨_, 19, rfl, by kernel_rfl, ?_⟩
      intro u w9 X hE hX hd K hK
      have d0 : u 18 = .pointer (some ⟨w.heap.size, 0, none⟩) := hd 0 (by kernel_rfl)
      clear hd
      simp only [overlay, List.setIfInBounds_toArray, List.set, d0] at hK ⊢
      have e9 : Ext w2 w9 := (Ext.refl w2).drew.trans hE
      obtain ⟨s0, s1, s2, s3⟩ := (HBx.out.ext e9).cell
      go_wp2_with fail
      exact hK _ _ X (Ext.refl _) kept_m hX rfl
    · refine ⟨_, 20, rfl, by kernel_rfl, ?_⟩
      intro u w9 X hE hX hd K hK
      clear hd
      simp only [overlay, List.setIfInBounds_toArray, List.set] at hK ⊢
      go_wp2_with fail
      exact hK _ _ X (Ext.refl _) kept_m hX rfl
    · refine ⟨_, 21, rfl, by kernel_rfl, ?_⟩
      intro u w9 X hE hX hd K hK
      have d2 : u 20 = .pointer (some ⟨w.heap.size, 1, none⟩) := hd 2 (by kernel_rfl)
      clear hd
      simp only [overlay, List.setIfInBounds_toArray, List.set, d2] at hK ⊢
      have e9 : Ext w2 w9 := (Ext.refl w2).drew.trans hE
      obtain ⟨s0, s1, s2, s3⟩ := (HBx.out.ext e9).cell
      go_wp2_with fail
      exact hK _ _ X (Ext.refl _) kept_m hX rfl
    · refine ⟨_, 22, rfl, by kernel_rfl, ?_⟩
      intro u w9 X hE hX hd K hK
      have d3 : u 21 = .slice p1 s.length m1 := hd 3 (by kernel_rfl)
      clear hd
      simp only [overlay, List.setIfInBounds_toArray, List.set, d3] at hK ⊢
      have e9 : Ext w2 w9 := (Ext.refl w2).drew.trans hE
      have hlt' : w2.heap.size ≤ w9.heap.size := hE.lt
      have hcl := clone_ints F p1 m1 s w9 (HS.out.ext (HE.out.trans e9)) (by unfold lenMax; omega)
      go_wp2_with fail
      refine hcl.mono ?_
      rintro e w8 ⟨v8, rfl, hO8, hE8⟩
      obtain ⟨p8, c8, rfl, hk8, hi8⟩ := hO8.ints
      go_wp2_with fail
      exact hK _ _ X hE8 kept_m (hX.ext hE8) ⟨p8, c8, rfl, hO8.rebase hlt' hX.hi⟩
    · refine ⟨_, 23, rfl, by kernel_rfl, ?_⟩
      intro u w9 X hE hX hd K hK
      have d1 : u 19 = .int .i64 kx := hd 1 (by kernel_rfl)
      have d4 : ∃ p c, u 22 = .slice p s.length c ∧ OwnI w2.heap.size X w9 (.slice p s.length c) s.length s := hd 4 (by kernel_rfl)
      clear hd
      simp only [overlay, List.setIfInBounds_toArray, List.set, d1] at hK ⊢
      obtain ⟨pv, cv, hv3, hO3⟩ := d4
      simp only [hv3] at hK ⊢
      go_wp2_with fail
      exact hK _ _ X (Ext.refl _) kept_m hX ⟨pv, cv, rfl, hO3⟩
    · refine ⟨_, 6, rfl, by kernel_rfl, ?_⟩
      intro u w9 X hE hX hd K hK
      clear hd
      simp only [overlay, List.setIfInBounds_toArray, List.set] at hK ⊢
      go_wp2_with fail
      exact hK _ _ (fun b => X b ∨ b = w9.heap.size) ((Ext.refl _).alloc _) added_m (hX.add hE _) ⟨_, rfl, box_new _ _ _ _ _, .inr rfl⟩
  · exact mem_nil_m
  intro u w9 X hE hX hd
  have d0 : u 18 = .pointer (some ⟨w.heap.size, 0, none⟩) := hd 0 (by decide)
  have d1 : u 19 = .int .i64 kx := hd 1 (by decide)
  have d2 : u 20 = .pointer (some ⟨w.heap.size, 1, none⟩) := hd 2 (by decide)
  have d3 : u 21 = .slice p1 s.length m1 := hd 3 (by decide)
  have d4 : ∃ p c, u 22 = .slice p s.length c ∧ OwnI w2.heap.size X w9 (.slice p s.length c) s.length s := hd 4 (by decide)
  have d5 : ∃ p c, u 23 = .agg #[.int .i64 kx, .slice p s.length c, .slice none 0 0, .slice none 0 0] ∧ OwnI w2.heap.size X w9 (.slice p s.length c) s.length s := hd 5 (by decide)
  have d6 : ∃ b, u 6 = .pointer (some ⟨b, 0, none⟩) ∧ Box4 w9 b (.int .i64 0) (.slice none 0 0) (.slice none 0 0) (.slice none 0 0) ∧ X b := hd 6 (by decide)
  clear hd
  simp only [overlay, List.setIfInBounds_toArray, List.set, d0, d1, d2, d3]
  obtain ⟨bo, hvb, hbox, hxb⟩ := d6
  obtain ⟨ps, cs, hva, hOs⟩ := d5
  have hbo := hX bo hxb
  simp only [hvb, hva]
  obtain ⟨q0, q1, q2, q3⟩ := hbox.cell
  have f0 := hbox.free 0
  have f1 := hbox.free 1
  have f2 := hbox.free 2
  have f3 := hbox.free 3
  have e9 := (Ext.refl w2).drew.trans hE
  obtain ⟨gg1, gg2, gg3⟩ := hbox.put4 e9 hbo.1 (.int .i64 kx) (.slice ps s.length cs) (.slice none 0 0) (.slice none 0 0)
  have hOs2 := hOs.same (Y := fun x => x = bo) (w' := (((w9.setCell ⟨bo, 0, none⟩ (.int .i64 kx)).setCell ⟨bo, 1, none⟩ (.slice ps s.length cs)).setCell ⟨bo, 2, none⟩ (.slice none 0 0)).setCell ⟨bo, 3, none⟩ (.slice none 0 0)) (fun q _ _ hne => ⟨gg3 q (fun e => hne (by rw [e]; exact hxb)), fun e => hne (by rw [e]; exact hxb)⟩)
  have HGG := Lib.hid (And.intro gg1 (And.intro gg2 hOs2))
  have HBL := Lib.hid (show w2.heap.size ≤ bo from hbo.1)
  clear d0 d1 d2 d3 d4 gg1 gg2 gg3 hOs2 hOs hbox hbo e9 hX hE
  generalize u 22 = z22 at *
  generalize u 23 = z23 at *
  clear hvb hva
  clear u
  go_wp2_with fail
  refine OnlyN.mk ?_
  obtain ⟨gg1, gg2, hOs⟩ := HGG.out
  clear HGG q0 q1 q2 q3 f0 f1 f2 f3
  generalize (((w9.setCell ⟨bo, 0, none⟩ (.int .i64 kx)).setCell ⟨bo, 1, none⟩ (.slice ps s.length cs)).setCell ⟨bo, 2, none⟩ (.slice none 0 0)).setCell ⟨bo, 3, none⟩ (.slice none 0 0) = w6 at *
  have HE6 := Lib.hid gg1
  have HB6 := Lib.hid gg2
  have HO6 := Lib.hid hOs
  clear gg1 gg2 hOs
  go_wp2_with fail
  refine (HM.out w6 HE6.out).mono ?_
  rintro e w7 ⟨p5, c5, rfl, l5, l5', hr5, hE5⟩
  have HE7 := Lib.hid (HE6.out.trans hE5)
  have HEw := Lib.hid (HE.out.trans HE7.out)
  have HR5 := Lib.hid hr5
  have hb7 := HB6.out.ext hE5
  have hbl : bo < w7.heap.size := hb7.lt
  have hwbo : w.heap.size + 1 < bo := by have := HBL.out; have := HBr.out.lt; omega
  have HW2 : Hid (w.heap.size + 1 < w2.heap.size) := HBr.out.lt
  have hM0 : MkR w w7 w7 (fun b => w.heap.size + 1 + 1 ≤ b) (fun x => x = bo) bo kx (.slice ps s.length cs) (.slice none 0 0) (.slice none 0 0) [] [] := MkR.fresh HEw.out (by omega) hb7 rfl (fun x hx => by rw [hx]; exact hbl) (fun b hb => by have := HBr.out.lt; have := HE7.out.lt; omega) HEw.out.lt
  have HM0 := Lib.hid hM0
  have HB7 := Lib.hid hb7
  have HBr7 := Lib.hid (HBr.out.ext HE7.out)
  have hO7 := HO6.out.ext hE5
  obtain ⟨ps', cs', hvz, hkz, hiz⟩ := hO7.ints
  simp only [Value.slice.injEq] at hvz
  obtain ⟨rfl, hz9, rfl⟩ := hvz
  have HOS := Lib.hid (hiz.mono (G := fun b => (w2.heap.size ≤ b ∧ b ≠ bo) ∧ b < w7.heap.size) (w' := w7) (fun b hb hlt => ⟨⟨hb, hlt⟩, rfl⟩))
  have HKZ := Lib.hid hkz
  clear hM0 hb7 hr5 hE5 hO7 hiz hkz HB6 HE6 HO6 HBr HM hz9
  go_wp2_with fail
  go_loopw [27] (fun iv wr => ∃ (i : Nat) (n' : List Int) (l' : List Arr) (v2 v3 : Value), iv = .int .i64 (i : Int) ∧ i ≤ n ∧ n'.length ≤ i * 65536 ∧ l'.length ≤ i * 65536 ∧ Hid (MkR w w7 wr (fun b => w.heap.size + 1 + 1 ≤ b) (fun x => x = bo) bo kx (.slice ps s.length cs) v2 v3 n' l') ∧
    Hid (n' = ((S.take i).map GRow.t).flatMap Arr.n) ∧ Hid (l' = ((S.take i).map GRow.t).flatMap Arr.it)) (fun iv _ => n - (intOf iv).toNat)
  case atStart => exact ⟨0, [], [], _, _, rfl, Nat.zero_le _, by simp, by simp, HM0.out, by simp [Hid], by simp [Hid]⟩
  case round =>
    obtain ⟨i, n', l', v2, v3, rfl, hin, hn1, hl1, HM, HGN, HGI⟩ := hrel
    clear HM0
    by_cases hlt : i < n
    · have hlt2 : i < S.length := by rw [HPL.out]; exact hlt
      have hrk : RowsAt w7.heap.size wr p5 S := HR5.out.farX HB7.out fun b hb hbb => HM.out.keep b hb hbb
      obtain ⟨bi, oi, rfl, _, k0, k1, k2, k3, k4⟩ := hrk.get hlt2
      have hsw := HNW2.out S[i] (List.getElem_mem hlt2)
      have hlen := right_lens hsw.2.2
      have HGN1 : Hid (((S.take (i + 1)).map GRow.t).flatMap Arr.n = n' ++ S[i].t.n) := by
        unfold Hid
        rw [HGN.out, List.take_add_one, List.getElem?_eq_getElem hlt2, List.map_append, List.flatMap_append]
        show _ ++ (S[i].t.n ++ []) = _
        rw [List.append_nil]
      have HGI1 : Hid (((S.take (i + 1)).map GRow.t).flatMap Arr.it = l' ++ S[i].t.it) := by
        unfold Hid
        rw [HGI.out, List.take_add_one, List.getElem?_eq_getElem hlt2, List.map_append, List.flatMap_append]
        show _ ++ (S[i].t.it ++ []) = _
        rw [List.append_nil]
      clear HGN HGI hrk
      generalize S[i] = gr at *
      obtain ⟨no, t, g0, g1, g2, g3⟩ := gr
      obtain ⟨kc, sr, xs, ys⟩ := t
      have hga : ArrAt (fun b => w.heap.size + 1 + 1 ≤ b ∧ b < w2.heap.size) w2 (.mk kc sr xs ys) g0 g1 g2 g3 := hsw.1
      unfold ArrAt at hga
      obtain ⟨rfl, _, ⟨z1, r1, rfl, _, _⟩, ⟨z2, r2, rfl, hu2, j2⟩, ⟨z3, r3, rfl, hu3, j3⟩⟩ := hga
      simp only [Arr.n, Arr.it] at k0 k1 k2 k3 k4 hlen HGN1 HGI1
      obtain ⟨hxl, hyl⟩ := hlen
      have hk2 : ∀ b, b < w2.heap.size → wr.heap[b]? = w2.heap[b]? := fun b hb => (HM.out.keep b (by have := HE7.out.lt; omega) (by have := HBL.out; omega)).trans (HE7.out.block hb)
      have hEb : Ext wr (wr.alloc (.cells #[.int .i64 no, .int .i64 kc, .slice z1 sr.length r1, .slice z2 xs.length r2, .slice z3 ys.length r3] 96)) := (Ext.refl _).alloc _
      have HXS := Lib.hid ((j2.mono (G := fun b => w.heap.size + 1 + 1 ≤ b ∧ b < w2.heap.size) (w' := wr) (fun b hb _ => ⟨hb, hk2 b hb.2⟩)).ext hEb)
      have HYS := Lib.hid ((ItemsAt.mono (G := fun b => w.heap.size + 1 + 1 ≤ b ∧ b < w2.heap.size) (w' := wr) (fun b hb _ => ⟨hb, hk2 b hb.2⟩) _ _ _ j3).ext hEb)
      have HM2 := Lib.hid (HM.out.next hEb)
      have hrx : (wr.alloc (.cells #[.int .i64 no, .int .i64 kc, .slice z1 sr.length r1, .slice z2 xs.length r2, .slice z3 ys.length r3] 96)).cell? ⟨wr.heap.size, 4, none⟩ = some (.slice z3 ys.length r3) := by simp
      have hwlt : w7.heap.size ≤ wr.heap.size := HM.out.wl
      have hbor : bo < wr.heap.size := by omega
      have h2lt : ∀ q, v2.ownBlock = some q → q < wr.heap.size ∧ w7.heap.size ≤ q := fun q hq => ⟨(HM.out.on.2.2.1.lt q hq).2, (HM.out.on.2.2.1.lt q hq).1⟩
      have H2LT := Lib.hid h2lt
      have HRX := Lib.hid hrx
      have HIL := Lib.hid hlt
      have hmul : n'.length + xs.length ≤ (i + 1) * 65536 ∧ l'.length + ys.length ≤ (i + 1) * 65536 ∧ (i + 1) * 65536 ≤ 4294967296 := by
        have := Nat.mul_le_mul_right 65536 (show i + 1 ≤ 65536 by omega)
        rw [Nat.succ_mul] at this ⊢
        omega
      obtain ⟨hm1, hm2, hm3⟩ := hmul
      clear HM hEb j2 j3 hk2 hrx h2lt hsw hxl hyl hn1 hl1
      obtain ⟨q0, q1', q2', q3'⟩ := HM2.out.box.cell
      go_wp2_with (at_builtin; refine wpList_append_ints rfl _ _ rfl (fun b => w.heap.size + 1 + 1 ≤ b ∧ b < w2.heap.size) w7.heap.size _ v2 n'.length n' z2 r2 xs rfl HM2.out.on rfl HXS.out HM2.out.xl2 (by omega) HM2.out.wl ?_)
      intro v2' w8 hO8 hgrow hat8
      have HWB : Hid ((wr.alloc (.cells #[.int .i64 no, .int .i64 kc, .slice z1 sr.length r1, .slice z2 xs.length r2, .slice z3 ys.length r3] 96)).heap.size = wr.heap.size + 1) := World.size_alloc _ _
      have hwbl : wr.heap.size < (wr.alloc (.cells #[.int .i64 no, .int .i64 kc, .slice z1 sr.length r1, .slice z2 xs.length r2, .slice z3 ys.length r3] 96)).heap.size := by rw [World.size_alloc]; omega
      generalize wr.alloc (.cells #[.int .i64 no, .int .i64 kc, .slice z1 sr.length r1, .slice z2 xs.length r2, .slice z3 ys.length r3] 96) = wb at *
      (try rw [← HWB.out] at hat8)
      clear q0 q1' q2' q3' k0 k1 k2 k3 k4 HXS
      obtain ⟨pv2, cv2, rfl, _⟩ := hO8.form
      obtain ⟨r1', r2', r3'⟩ := HM2.out.grownN hgrow
      obtain ⟨t0, t1, t2, t3'⟩ := r2'.cell
      have tf := r2'.free 2
      rw [← List.length_append] at hO8 hat8 ⊢
      rw [← List.length_append] at hm1
      generalize hnx : n' ++ xs = nx' at *
      have HGN3 := Lib.hid HGN1.out.symm
      clear hnx HGN1
      have hM8 := HM2.out.storedN' hgrow hO8 hat8
      have hbpo : wr.heap.size ≠ bo := by omega
      have hbpo' : ¬ bo = wr.heap.size := fun e => hbpo e.symm
      have hj4 : w8.cell? ⟨wr.heap.size, 4, none⟩ = some (.slice z3 ys.length r3) := (World.cell?_of_block (w := wb) (w' := w8) (a := ⟨wr.heap.size, 4, none⟩) (hgrow.block wr.heap.size hwbl (fun e => by have := (H2LT.out _ e.symm).1; omega))).trans HRX.out
      have HYS8 := Lib.hid (ItemsAt.mono (G := fun b => w.heap.size + 1 + 1 ≤ b ∧ b < w2.heap.size) (w' := w8.setCell ⟨bo, 2, none⟩ (.slice pv2 nx'.length cv2)) (fun b hb hlt => ⟨hb, (Below.heap_setCell _ _ _ _ (show b ≠ bo by have := HBL.out; have := hb.2; omega)).trans (hgrow.block b hlt (fun e => by have := (H2LT.out b e.symm).2; have := HE7.out.lt; have := hb.2; omega))⟩) _ _ _ HYS.out)
      have HF8 : Hid (∀ b, (w.heap.size + 1 + 1 ≤ b ∧ b < w2.heap.size) → b < (w8.setCell ⟨bo, 2, none⟩ (.slice pv2 nx'.length cv2)).heap.size → ApartR (fun b => w.heap.size + 1 + 1 ≤ b) (fun x => x = bo ∨ (Value.slice pv2 nx'.length cv2).ownBlock = some x) v3 b) := fun b hb _ => hM8.apart b hb.1 (.inl ⟨by have := HE7.out.lt; omega, by have := HBL.out; omega⟩)
      have HM8 := Lib.hid hM8
      clear hO8 hgrow hat8 r1' r2' r3' hM8 HM2 HYS H2LT HRX
      go_wp2_with (at_builtin; refine wpList_append_arrsR rfl _ _ rfl (fun b => w.heap.size + 1 + 1 ≤ b ∧ b < w2.heap.size) w7.heap.size (fun b => w.heap.size + 1 + 1 ≤ b) _ v3 l'.length l' z3 r3 ys rfl HM8.out.oi rfl HYS8.out HF8.out HM8.out.xl3 (by omega) HM8.out.wl ?_)
      intro v3' w9 hO9 hgrow9 hat9
      have HAT9 := Lib.hid hat9
      clear hat9 t0 t1 t2 t3' tf hj4
      obtain ⟨pv3, cv3, rfl, _⟩ := hO9.form
      obtain ⟨r1', r2', r3'⟩ := HM8.out.grownI hgrow9
      obtain ⟨_, _, _, t3⟩ := r2'.cell
      have tf := r2'.free 3
      rw [← List.length_append] at hO9 HAT9 hm2 ⊢
      generalize hly : l' ++ ys = ly at *
      have HGI3 := Lib.hid HGI1.out.symm
      clear hly HGI1
      have hM9 := HM8.out.storedI' hgrow9 hO9 (by simpa using HAT9.out)
      have HM9 := Lib.hid hM9
      clear hO9 hgrow9 r1' r2' r3' hM9 HM8 HAT9 HF8 HYS8
      go_wp2_with fail
      go_roundw
      case rel => exact ⟨i + 1, nx', ly, _, _, by go_num, by omega, hm1, hm2, HM9.out, HGN3, HGI3⟩
      case measure => simp [intOf]; omega
    · have hin2 : i = n := by omega
      subst hin2
      have hM := HM.out
      have hgn := HGN.out
      have hgi := HGI.out
      rw [List.take_of_length_le (by rw [HPL.out]; omega)] at hgn hgi
      have HV3 : Hid (gv = .mk kx s n' l') := by unfold Hid; rw [HV2.out, hgn, hgi]
      have hmul : l'.length ≤ 4294967296 := by
        have := Nat.mul_le_mul_right 65536 hg6
        omega
      obtain ⟨pa, ca, hv2, _, _⟩ := hM.on.ints
      subst hv2
      obtain ⟨pb, cb, hv3, _, _⟩ := hM.oi.items hM.rr (by omega)
      subst hv3
      have hA := MkR.arr (G := fun b => w2.heap.size ≤ b ∧ b ≠ bo) hM hkx ⟨ps, cs, rfl, HKZ.out, HOS.out.mono fun b hb hlt => ⟨hb.1, hM.keep b hb.2 hb.1.2⟩⟩ (by omega)
      have hwl := hM.wl
      have hBr := HBr7.out.kept (hM.keep (w.heap.size + 1) (by omega) (by omega))
      have HA := Lib.hid hA
      have HBR := Lib.hid hBr
      have HEM := Lib.hid hM.ext
      have HKP := Lib.hid (fun q (h1 : q < w7.heap.size) (h2 : q ≠ bo) => hM.keep q h1 h2)
      obtain ⟨q0, q1, q2, q3⟩ := hM.box.cell
      obtain ⟨x0, x1, x2, x3⟩ := hBr.cell
      have y0 := hBr.free 0
      have y1 := hBr.free 1
      have y2 := hBr.free 2
      have y3 := hBr.free 3
      clear hA hBr hM hgn hgi HGN HGI HM hmul hn1 hl1
      go_wp2_with fail
      obtain ⟨g1, g2, g3⟩ := HBR.out.put4 HEM.out (by omega) (.int .i64 kx) (.slice ps s.length cs) (.slice pa n'.length ca) (.slice pb l'.length cb)
      revert g1 g2 g3
      generalize ((((wr.setCell ⟨w.heap.size + 1, 0, none⟩ (.int .i64 kx)).setCell ⟨w.heap.size + 1, 1, none⟩ (.slice ps s.length cs)).setCell ⟨w.heap.size + 1, 2, none⟩ (.slice pa n'.length ca)).setCell ⟨w.heap.size + 1, 3, none⟩ (.slice pb l'.length cb)) = w9
      intro g1 g2 g3
      obtain ⟨z0, z1, z2, z3⟩ := g2.cell
      have hA9 := ArrAt.mono (G := fun b => w.heap.size ≤ b) (w' := w9) (fun b hb _ => ⟨by have := HW2.out; rcases hb with hb | hb <;> omega, g3 b (by have := HW2.out; rcases hb with hb | hb; have := hb.1; omega; have := HBL.out; have := hb.1; omega)⟩) _ _ _ _ _ HA.out
      rw [← HV3.out] at hA9
      refine bodyPost_ret (v := .tuple #[.agg #[.int .i64 kx, .slice ps s.length cs, .slice pa n'.length ca, .slice pb l'.length cb], .int .i64 0]) ?_ rfl ⟨_, _, _, _, by first | rfl | rw [HE1.out], hA9, g1⟩
      simp [results, Try.results37, go_sem, z0, z1, z2, z3]
end Go.Proofs.Ytgeppialbkijiaa

namespace Go.Proofs.Ytgeppialbkijiaa
set_option linter.unusedSimpArgs false
set_option linter.unusedVariables false
open Go.RowKit

def gradedC (m : Nat) (sg : Int) (l : List Arr) : Int → Int → Int := fun i j => sg * cmpF m (l.getD i.toNat default) (l.getD j.toNat default)
def gradedV (m : Nat) (sg : Int) (l : List Arr) : List Int := insAll (gradedC m sg l) l.length
theorem insAll_length (c : Int → Int → Int) (n : Nat) : (insAll c n).length = n := by rw [(insAll_perm c n).length_eq, idxs_length]
theorem insAll_mem {c : Int → Int → Int} {n : Nat} {x : Int} (h : x ∈ insAll c n) : 0 ≤ x ∧ x < n := idxs_mem.1 ((insAll_perm c n).mem_iff.1 h)
theorem OwnI.rebaseR {B B' : Nat} {w : World} {v : Value} {n : Nat} {xs : List Int} (h : OwnI B (fun _ => False) w v n xs) (hB : B' ≤ B) : OwnI B' (fun _ => False) w v n xs := by
  obtain ⟨k1, k2, k3, k4, k5⟩ := h
  exact ⟨k1, k2, ownsRow_base k3 hB, fun g hg hx => hx, k5⟩
theorem ocmpM_rightR {m : Nat} {x y : Arr} (hx : rightV x = 0) (hy : rightV y = 0) : ocmpM m x y = cmpF m x y := by rw [ocmpM, if_neg (by rw [hx, hy]; simp)]

set_option maxRecDepth 1000000 in
set_option maxHeartbeats 8000000 in
theorem graded_any (m : Nat) (F : Nat → Prop) (l : List Arr) (p : Option Addr) (c n : Nat) (sg : Int) (w : World) (hn : l.length = n) (hsg : sg = 1 ∨ sg = -1) (hl : ItemsAt F w p 0 l) (hok : ItOk n c) (h6 : n ≤ 65536) (hR : ∀ t ∈ l, szA t < m ∧ rightV t = 0) :
    Calls Try.prog 75 #[.slice p n c, .int .i64 sg] w fun e w' => ∃ v, e = .returned v ∧ OwnI w.heap.size (fun _ => False) w' v n (gradedV m sg l) ∧ Ext w w' := by
  obtain ⟨o1, o1', o1''⟩ := hok
  have HN := Lib.hid hn
  have HL := Lib.hid hl
  have HR := Lib.hid hR
  have HSG := Lib.hid hsg
  have HV : Hid (gradedV m sg l = insAll (gradedC m sg l) n) := by unfold Hid gradedV; rw [hn]
  generalize gradedV m sg l = gv at *
  clear hn hl hR hsg
  go_enter Try.func75, Try.ntmps75
  have hE0 := (Ext.refl w).alloc (.cells #[] 3)
  have hO0 := OwnI.of_row (B := w.heap.size) (X := fun _ => False) (n := 0) (xs := []) (rowI_new' w []) rfl (by omega) (Nat.le_refl _) (fun h => h) (by simp)
  change OwnI w.heap.size (fun _ => False) (w.alloc (.cells #[] 3)) _ _ _ at hO0
  have HE0 := Lib.hid hE0
  have HO0 := Lib.hid hO0
  clear hE0 hO0
  go_wp2_with fail
  generalize w.alloc (.cells #[] 3) = w1 at *
  go_loopw [5, 6] (fun ov iv wr => ∃ (i co go : Nat), ov = .slice (some ⟨go, 0, none⟩) i co ∧ iv = .int .i64 (i : Int) ∧ i ≤ n ∧ i ≤ co ∧ co ≤ 9223372036854775807 ∧ Hid (OwnI w.heap.size (fun _ => False) wr (.slice (some ⟨go, 0, none⟩) i co) i (insAll (gradedC m sg l) i)) ∧ Hid (Ext w wr)) (fun _ iv _ => n - (intOf iv).toNat)
  case atStart => exact ⟨0, _, _, rfl, rfl, Nat.zero_le _, Nat.zero_le _, by omega, HO0.out, HE0.out⟩
  case round =>
    obtain ⟨i, co, go, rfl, rfl, hin, hco, hco', HO, HE⟩ := hrel
    clear HO0 HE0
    by_cases hlt : i < n
    rotate_left
    · have hin2 : i = n := by omega
      subst hin2
      go_wp2_with fail
      go_ret
      exact ⟨_, rfl, by rw [HV.out]; exact HO.out, HE.out⟩
    have HOL : Hid ((insAll (gradedC m sg l) i).length = i) := insAll_length _ _
    have HOB : Hid (∀ x ∈ insAll (gradedC m sg l) i, 0 ≤ x ∧ x < i) := fun x hx => insAll_mem hx
    have HNX : Hid (insAll (gradedC m sg l) (i + 1) = (insAll (gradedC m sg l) i).take (insK (gradedC m sg l) i (insAll (gradedC m sg l) i) i) ++ (i : Int) :: (insAll (gradedC m sg l) i).drop (insK (gradedC m sg l) i (insAll (gradedC m sg l) i) i)) := by
      unfold Hid
      rw [insAll, insAll_length]
    have HCM : Hid (∀ a b : Nat, gradedC m sg l (a : Int) (b : Int) = sg * cmpF m (l.getD a default) (l.getD b default)) := fun a b => rfl
    generalize insAll (gradedC m sg l) i = o at *
    have hlen := HO.out
    obtain ⟨wo, rfl⟩ : ∃ wx : World, wx = wr := ⟨_, rfl⟩
    have HIo : Hid (IntsAt (fun b => w.heap.size ≤ b ∧ b < wo.heap.size) wo (some ⟨go, 0, none⟩) o) := by
      obtain ⟨p9, c9, e9, _, hi9⟩ := HO.out.ints
      simp only [Value.slice.injEq] at e9
      obtain ⟨rfl, _, _⟩ := e9
      exact hi9.mono fun b hb hlt => ⟨⟨hb.1, hlt⟩, rfl⟩
    have hgl := HO.out.2.2.1.lt go rfl
    have HTK : Hid (∀ k, k ≤ i → (o.take k).length = k) := fun k hk => by rw [List.length_take, HOL.out]; omega
    have HDK : Hid (∀ k, k ≤ i → (o.drop k).length = i - k) := fun k hk => by rw [List.length_drop, HOL.out]
    clear hlen
    go_wp2_with fail
    go_loopw [7] (fun kv wq => ∃ (k : Nat), kv = .int .i64 (k : Int) ∧ k ≤ i ∧ Hid (insK (gradedC m sg l) i o k = insK (gradedC m sg l) i o i) ∧ Hid (Ext wo wq)) (fun kv _ => (intOf kv).toNat)
    case atStart => exact ⟨i, rfl, Nat.le_refl _, rfl, Ext.refl _⟩
    case round =>
      obtain ⟨k, rfl, hki, HK, HEq⟩ := hrel
      by_cases hk0 : 0 < k
      rotate_left
      · have HKI : Hid (insK (gradedC m sg l) i o i = k) := by
          unfold Hid
          rw [← HK.out, show k = 0 by omega]; rfl
        go_wp2_with fail
        refine wp_region_g [0, 1, 2, 3, 4, 5, 6, 7, 8, 9, 10, 11, 12, 13, 14, 15] [16, 17, 18, 19] (fun w' => True) (by kernel_rfl) (by kernel_rfl) trivial ?_
        iterate 3
          refine wpHead_cons (v := ?_) rfl (by rfl) (fun w' hS => ?_) ?_
          rotate_left
          · go_simp
            try with_reducible rfl
          try simp only [Act.put, List.setIfInBounds_toArray, List.set]
        iterate 13
          refine wpHead_skip rfl (by rfl) ?_
          try simp only [Act.put, List.setIfInBounds_toArray, List.set]
        unfold wpHead
        iterate 4
          refine wpTail_cons rfl (fun K hK => ?_)
          go_wp2_with fail
          refine hK _ _ trivial ?_
          clear hK
          try simp only [Act.put, List.setIfInBounds_toArray, List.set]
        unfold wpTail
        refine OnlyN.mk ?_
        have hEd := (Ext.refl wr).drew
        have HEr := Lib.hid (HE.out.trans (HEq.out.trans hEd))
        have HOr := Lib.hid (HO.out.ext (HEq.out.trans hEd))
        have HIr := Lib.hid (HIo.out.ext (HEq.out.trans hEd))
        clear hEd HEq
        generalize wr.drew = wf at *
        obtain ⟨wr, rfl⟩ : ∃ wx : World, wx = wf := ⟨_, rfl⟩
        (try simp only [Exit.inBlock, Exit.then])
        have HNXk : Hid (insAll (gradedC m sg l) (i + 1) = o.take k ++ (i : Int) :: o.drop k) := by unfold Hid; rw [HNX.out, HKI.out]
        by_cases hki3 : k = i
        · have HNX9 : Hid (o ++ [(i : Int)] = insAll (gradedC m sg l) (i + 1)) := by
            unfold Hid
            rw [HNXk.out, hki3, List.take_of_length_le (by rw [HOL.out]; omega), List.drop_of_length_le (by rw [HOL.out]; omega)]
          have hEn : Ext wr (wr.alloc (.cells #[.int .i64 (i : Int)] 3)) := (Ext.refl _).alloc _
          have hnc : (wr.alloc (.cells #[.int .i64 (i : Int)] 3)).cell? ⟨wr.heap.size, 0, none⟩ = some (.int .i64 (i : Int)) := by simp
          have HOn := Lib.hid (HOr.out.ext hEn)
          have HEn := Lib.hid (HEr.out.trans hEn)
          have HNC := Lib.hid hnc
          clear hEn hnc
          go_wp2_with (at_builtin; refine wpList_append_int rfl _ _ rfl w.heap.size (fun _ => False) _ i o (i : Int) rfl HOn.out ⟨wr.heap.size, 0, none⟩ 1 rfl HNC.out (fun _ h => h.elim) (by omega) (by omega) HEn.out.lt ?_)
          intro g cap w8 ho8 hgr8 _ _ _
          have hE8 : Ext w w8 := HEn.out.grown hgr8 HEn.out.lt (fun q e => (HOn.out.2.2.1.lt q e).1)
          obtain ⟨p9, c9, e9, hf9⟩ := ho8.form
          cases e9
          have hc9 : cap ≤ 9223372036854775807 := by
            obtain ⟨p9, c9, e9, hs9, _⟩ := ho8.ints
            simp only [Value.slice.injEq] at e9
            obtain ⟨_, _, rfl⟩ := e9
            exact hs9.2.1
          rw [HNX9.out] at ho8
          have HO8 := Lib.hid ho8
          have HE8 := Lib.hid hE8
          clear ho8 hgr8 hE8 HOn HEn HNC
          go_wp2_with fail
          go_roundw
          case rel => exact ⟨i + 1, cap, g, rfl, by go_num, by omega, hf9, hc9, HO8, HE8⟩
          case measure => simp [intOf]; omega
        · have hki4 : k < i := by omega
          have hki5 : (k : Int) ≠ (i : Int) := by omega
          go_wp2_with fail
          refine wp_region_z1 [MProp.row wr.heap.size 0 [], MProp.is (.slice (some ⟨go, 0, none⟩) i co), MProp.is (.int .i64 (k : Int)), MProp.rdi (o.take k), MProp.chain wr.heap.size (o.take k), MProp.is (.int .i64 (i : Int)), MProp.rdi ([(i : Int)]), MProp.chain wr.heap.size (o.take k ++ [(i : Int)]), MProp.is (.slice (some ⟨go, 0, none⟩) i co), MProp.is (.int .i64 (k : Int)), MProp.rdi (o.drop k), MProp.chain wr.heap.size ((o.take k ++ [(i : Int)]) ++ o.drop k)] [0, 1, 2, 3, 5, 6, 8, 9, 10] [4, 7, 11] [47, 48, 49, 50, 52, 53, 55, 56, 57, 51, 54, 58] 12 (by kernel_rfl) (by kernel_rfl) (by kernel_rfl) (by kernel_rfl) rfl ?_ ?_ ?_ ?_
          · exact mem_cons_m (zst_row _ _ _) (mem_cons_m (zst_is _) (mem_cons_m (zst_is _) (mem_cons_m (zst_rdi _) (mem_cons_m (zst_is _) (mem_cons_m (zst_rdi _) (mem_cons_m (zst_is _) (mem_cons_m (zst_is _) (mem_cons_m (zst_rdi _) (mem_nil_m)))))))))
          · refine mem_cons_m ?_ (mem_cons_m ?_ (mem_cons_m ?_ (mem_cons_m ?_ (mem_cons_m ?_ (mem_cons_m ?_ (mem_cons_m ?_ (mem_cons_m ?_ (mem_cons_m ?_ (mem_nil_m)))))))))
            · refine ⟨_, 47, rfl, by kernel_rfl, ?_⟩
              intro u w9 X hE hX hd K hK
              clear hd
              simp only [overlay, List.setIfInBounds_toArray, List.set] at hK ⊢
              have hlt' : wr.heap.size ≤ w9.heap.size := hE.lt
              go_wp2_with fail
              exact hK _ _ X ((Ext.refl _).alloc _) kept_m (hX.ext ((Ext.refl _).alloc _)) ⟨_, rfl, rowI_new' w9 [], hlt', fun hx => by have := (hX _ hx).2; omega⟩
            · refine ⟨_, 48, rfl, by kernel_rfl, ?_⟩
              intro u w9 X hE hX hd K hK
              clear hd
              simp only [overlay, List.setIfInBounds_toArray, List.set] at hK ⊢
              go_wp2_with fail
              exact hK _ _ X (Ext.refl _) kept_m hX rfl
            · refine ⟨_, 49, rfl, by kernel_rfl, ?_⟩
              intro u w9 X hE hX hd K hK
              clear hd
              simp only [overlay, List.setIfInBounds_toArray, List.set] at hK ⊢
              go_wp2_with fail
              exact hK _ _ X (Ext.refl _) kept_m hX rfl
            · refine ⟨_, 50, rfl, by kernel_rfl, ?_⟩
              intro u w9 X hE hX hd K hK
              have d1 : u 48 = .slice (some ⟨go, 0, none⟩) i co := hd 1 (by kernel_rfl)
              have d2 : u 49 = .int .i64 (k : Int) := hd 2 (by kernel_rfl)
              clear hd
              simp only [overlay, List.setIfInBounds_toArray, List.set, d1, d2] at hK ⊢
              have e9 : Ext wr w9 := (Ext.refl wr).drew.trans hE
              go_wp2_with fail
              have hh := RdIX.old (HIr.out.take k) (c := co) (by rw [HTK.out k hki]; exact ⟨by omega, by omega, by omega⟩) e9 hX.lo
              rw [HTK.out k hki] at hh
              exact hK _ _ X (Ext.refl _) kept_m hX hh
            · refine ⟨_, 52, rfl, by kernel_rfl, ?_⟩
              intro u w9 X hE hX hd K hK
              clear hd
              simp only [overlay, List.setIfInBounds_toArray, List.set] at hK ⊢
              go_wp2_with fail
              exact hK _ _ X (Ext.refl _) kept_m hX rfl
            · refine ⟨_, 53, rfl, by kernel_rfl, ?_⟩
              intro u w9 X hE hX hd K hK
              have d5 : u 52 = .int .i64 (i : Int) := hd 5 (by kernel_rfl)
              clear hd
              simp only [overlay, List.setIfInBounds_toArray, List.set, d5] at hK ⊢
              go_wp2_with fail
              exact hK _ _ X ((Ext.refl _).alloc _) kept_m (hX.ext ((Ext.refl _).alloc _)) (rdix_one w9 i (by omega) hX.hi)
            · refine ⟨_, 55, rfl, by kernel_rfl, ?_⟩
              intro u w9 X hE hX hd K hK
              clear hd
              simp only [overlay, List.setIfInBounds_toArray, List.set] at hK ⊢
              go_wp2_with fail
              exact hK _ _ X (Ext.refl _) kept_m hX rfl
            · refine ⟨_, 56, rfl, by kernel_rfl, ?_⟩
              intro u w9 X hE hX hd K hK
              clear hd
              simp only [overlay, List.setIfInBounds_toArray, List.set] at hK ⊢
              go_wp2_with fail
              exact hK _ _ X (Ext.refl _) kept_m hX rfl
            · refine ⟨_, 57, rfl, by kernel_rfl, ?_⟩
              intro u w9 X hE hX hd K hK
              have d8 : u 55 = .slice (some ⟨go, 0, none⟩) i co := hd 8 (by kernel_rfl)
              have d9 : u 56 = .int .i64 (k : Int) := hd 9 (by kernel_rfl)
              clear hd
              simp only [overlay, List.setIfInBounds_toArray, List.set, d8, d9] at hK ⊢
              have e9 : Ext wr w9 := (Ext.refl wr).drew.trans hE
              have hkc' : (k : Int) < co := by omega
              go_wp2_with fail
              have hh := RdIX.old (HIr.out.drop k) (c := co - k) (by rw [HDK.out k hki]; exact ⟨by omega, by omega, by omega⟩) e9 hX.lo
              rw [HDK.out k hki, Nat.zero_add] at hh
              first
                | exact hK _ _ X (Ext.refl _) kept_m hX hh
                | omega
          · refine mem_cons_m ?_ (mem_cons_m ?_ (mem_cons_m ?_ (mem_nil_m)))
            · refine ⟨_, 51, rfl, by kernel_rfl, ?_⟩
              intro u w9 X hE hX hd K hK
              have d0 : ∃ g, u 47 = .slice (some ⟨g, 0, none⟩) 0 0 ∧ RowI w9 g [] ∧ wr.heap.size ≤ g ∧ ¬ X g := hd 0 (by kernel_rfl)
              have d3 : RdIX X w9 (o.take k) (u 50) := hd 3 (by kernel_rfl)
              clear hd
              simp only [overlay, List.setIfInBounds_toArray, List.set] at hK ⊢
              obtain ⟨g, hv0, hr0, hb0, hx0⟩ := d0
              obtain ⟨p3, c3, hv3, hk3, hi3⟩ := d3
              simp only [hv0, hv3] at hK ⊢
              refine wpList_chain rfl _ _ rfl wr.drew X _ 0 [] p3 c3 (o.take k) rfl (.inl ⟨rfl, rfl, g, rfl, hr0, hb0, hx0⟩) rfl hi3 hE hX (by have := HTK.out k hki; have := HDK.out k hki; (try simp only [List.length_append, List.length_cons, List.length_nil]); omega) ?_
              intro v' w' X' f0 f1 f2 f3 f4
              rw [Nat.zero_add, List.nil_append] at f4
              obtain ⟨pv, cv, rfl, _⟩ := f4.own.1.form
              exact hK _ _ X' f0 f1 f2 f3 ⟨pv, cv, rfl, f4⟩
            · refine ⟨_, 54, rfl, by kernel_rfl, ?_⟩
              intro u w9 X hE hX hd K hK
              have d4 : ∃ p c, u 51 = .slice p (o.take k).length c ∧ ChainRow wr.heap.size X w9 (.slice p (o.take k).length c) (o.take k).length (o.take k) := hd 4 (by kernel_rfl)
              have d6 : RdIX X w9 ([(i : Int)]) (u 53) := hd 6 (by kernel_rfl)
              clear hd
              simp only [overlay, List.setIfInBounds_toArray, List.set] at hK ⊢
              obtain ⟨p0, c0, hv0, hc0⟩ := d4
              obtain ⟨p3, c3, hv3, hk3, hi3⟩ := d6
              simp only [hv0, hv3] at hK ⊢
              refine wpList_chain rfl _ _ rfl wr.drew X _ (o.take k).length (o.take k) p3 c3 ([(i : Int)]) rfl hc0 rfl hi3 hE hX (by have := HTK.out k hki; have := HDK.out k hki; (try simp only [List.length_append, List.length_cons, List.length_nil]); omega) ?_
              intro v' w' X' f0 f1 f2 f3 f4
              rw [← List.length_append] at f4
              obtain ⟨pv, cv, rfl, _⟩ := f4.own.1.form
              exact hK _ _ X' f0 f1 f2 f3 ⟨pv, cv, rfl, f4⟩
            · refine ⟨_, 58, rfl, by kernel_rfl, ?_⟩
              intro u w9 X hE hX hd K hK
              have d7 : ∃ p c, u 54 = .slice p (o.take k ++ [(i : Int)]).length c ∧ ChainRow wr.heap.size X w9 (.slice p (o.take k ++ [(i : Int)]).length c) (o.take k ++ [(i : Int)]).length (o.take k ++ [(i : Int)]) := hd 7 (by kernel_rfl)
              have d10 : RdIX X w9 (o.drop k) (u 57) := hd 10 (by kernel_rfl)
              clear hd
              simp only [overlay, List.setIfInBounds_toArray, List.set] at hK ⊢
              obtain ⟨p0, c0, hv0, hc0⟩ := d7
              obtain ⟨p3, c3, hv3, hk3, hi3⟩ := d10
              simp only [hv0, hv3] at hK ⊢
              refine wpList_chain rfl _ _ rfl wr.drew X _ (o.take k ++ [(i : Int)]).length (o.take k ++ [(i : Int)]) p3 c3 (o.drop k) rfl hc0 rfl hi3 hE hX (by have := HTK.out k hki; have := HDK.out k hki; (try simp only [List.length_append, List.length_cons, List.length_nil]); omega) ?_
              intro v' w' X' f0 f1 f2 f3 f4
              rw [← List.length_append] at f4
              obtain ⟨pv, cv, rfl, _⟩ := f4.own.1.form
              exact hK _ _ X' f0 f1 f2 f3 ⟨pv, cv, rfl, f4⟩
          intro u w9 X hE hX hd hdc
          have d0 : ∃ g, u 47 = .slice (some ⟨g, 0, none⟩) 0 0 ∧ RowI w9 g [] ∧ wr.heap.size ≤ g ∧ ¬ X g := hd 0 (by decide)
          have d1 : u 48 = .slice (some ⟨go, 0, none⟩) i co := hd 1 (by decide)
          have d2 : u 49 = .int .i64 (k : Int) := hd 2 (by decide)
          have d3 : RdIX X w9 (o.take k) (u 50) := hd 3 (by decide)
          have d5 : u 52 = .int .i64 (i : Int) := hd 5 (by decide)
          have d6 : RdIX X w9 ([(i : Int)]) (u 53) := hd 6 (by decide)
          have d8 : u 55 = .slice (some ⟨go, 0, none⟩) i co := hd 8 (by decide)
          have d9 : u 56 = .int .i64 (k : Int) := hd 9 (by decide)
          have d10 : RdIX X w9 (o.drop k) (u 57) := hd 10 (by decide)
          have d11 : ∃ p c, u 58 = .slice p ((o.take k ++ [(i : Int)]) ++ o.drop k).length c ∧ ChainRow wr.heap.size X w9 (.slice p ((o.take k ++ [(i : Int)]) ++ o.drop k).length c) ((o.take k ++ [(i : Int)]) ++ o.drop k).length ((o.take k ++ [(i : Int)]) ++ o.drop k) := hdc 2 rfl
          clear hd hdc
          simp only [overlay, List.setIfInBounds_toArray, List.set, d1, d2, d5, d8, d9]
          obtain ⟨pf, cf, hvf, hcf⟩ := d11
          have hof := (ChainRow.own hcf).1
          have e9 : Ext wr w9 := (Ext.refl wr).drew.trans hE
          simp only [hvf]
          have hlf : ((o.take k ++ [(i : Int)]) ++ o.drop k).length = i + 1 := by
            rw [List.length_append, List.length_append, HTK.out k hki, HDK.out k hki]
            simp; omega
          rw [hlf] at hof ⊢
          rw [List.append_assoc, List.singleton_append, ← HNXk.out] at hof
          have hof := hof.rebaseR HEr.out.lt
          obtain ⟨gf, rfl, hf9, hc9⟩ : ∃ gf, pf = some ⟨gf, 0, none⟩ ∧ i + 1 ≤ cf ∧ cf ≤ 9223372036854775807 := by
            obtain ⟨p9, c9, e9, hs9, hi9⟩ := hof.ints
            rcases hof.2.2.1.2 with ⟨h, _⟩ | ⟨g, cap, cur, h, _, _, hnc, hcm, _⟩
            · cases h
            · cases h
              exact ⟨g, rfl, hnc, by unfold maxLen at hcm; omega⟩
          have HO8 := Lib.hid hof
          have HE8 := Lib.hid (HEr.out.trans e9)
          clear d0 d1 d2 d3 d5 d6 d8 d9 d10 hcf hof e9 hX hvf
          generalize u 47 = z47 at *
          generalize u 50 = z50 at *
          generalize u 51 = z51 at *
          generalize u 53 = z53 at *
          generalize u 54 = z54 at *
          generalize u 57 = z57 at *
          clear u
          go_wp2_with fail
          refine OnlyN.mk ?_
          (try simp only [Exit.inBlock, Exit.then])
          go_wp2_with fail
          go_roundw
          case rel => exact ⟨i + 1, cf, gf, rfl, by go_num, by omega, hf9, hc9, HO8, HE8⟩
          case measure => simp [intOf]; omega
      have hk1 : k - 1 < o.length := by rw [HOL.out]; omega
      obtain ⟨bo, oo, e1, hoc, _, _⟩ := (HIo.out.ext HEq.out).get hk1
      simp only [Option.some.injEq, Addr.mk.injEq, and_true] at e1
      obtain ⟨rfl, rfl⟩ := e1
      rw [Nat.zero_add] at hoc
      have hoa := HOB.out (o.getD (k - 1) 0) (by simp [List.getD, hk1])
      obtain ⟨a, ha⟩ : ∃ a : Nat, o.getD (k - 1) 0 = (a : Int) := ⟨(o.getD (k - 1) 0).toNat, by omega⟩
      rw [ha] at hoa hoc
      have hal : a < i := by omega
      have han : a < n := by omega
      have hil : i < l.length := by rw [HN.out]; exact hlt
      have hal2 : a < l.length := by rw [HN.out]; omega
      have hE9 := HE.out.trans HEq.out
      obtain ⟨bi, oi, x0, x1, x2, x3, rfl, g0, g1, g2, g3, hX⟩ := (HL.out.ext hE9).getD hil
      obtain ⟨bi', oi', y0, y1, y2, y3, e2, h0, h1, h2, h3, hY⟩ := (HL.out.ext hE9).getD hal2
      simp only [Option.some.injEq, Addr.mk.injEq, and_true] at e2
      obtain ⟨rfl, rfl⟩ := e2
      have hRx := HR.out (l.getD i default) (by simp [List.getD, hil])
      have hRy := HR.out (l.getD a default) (by simp [List.getD, hal2])
      have hcv := HCM.out i a
      rw [← ha] at hcv
      have hbd := cmpF_bd m (l.getD i default) (l.getD a default)
      have HIK : Hid (insK (gradedC m sg l) i o k = if sg * cmpF m (l.getD i default) (l.getD a default) < 0 then insK (gradedC m sg l) i o (k - 1) else k) := by
        unfold Hid
        obtain ⟨k', rfl⟩ : ∃ k', k = k' + 1 := ⟨k - 1, by omega⟩
        rw [insK]
        simp only [Nat.add_sub_cancel] at hcv ⊢
        rw [hcv]
      have hoc2 := ocmpM_rightR hRx.2 hRy.2 (m := m)
      have HCALL := Lib.hid (fun (w' : World) (e : Ext wr w') => rocomparem_any m F F (l.getD i default) (l.getD a default) _ _ _ _ _ _ _ _ w' (hX.ext e) (hY.ext e) hRx.1)
      rw [hoc2] at HCALL
      have hwsg : IntKind.i64.wrap (sg * cmpF m (l.getD i default) (l.getD a default)) = sg * cmpF m (l.getD i default) (l.getD a default) := by
        rcases HSG.out with h | h <;> rw [h] <;> exact IntWalk.i64_in _ (by omega)
      generalize cmpF m (l.getD i default) (l.getD a default) = cv at *
      obtain ⟨sc, hsc⟩ : ∃ sc, sg * cv = sc := ⟨_, rfl⟩
      rw [hsc] at HIK hwsg
      have hki2 : ((k : Int) - 1) = ((k - 1 : Nat) : Int) := by omega
      obtain ⟨kx, px1, lx1, cx1, px2, lx2, cx2, px3, lx3, cx3, rfl, rfl, rfl, rfl⟩ := hX.form
      obtain ⟨ky, py1, ly1, cy1, py2, ly2, cy2, py3, ly3, cy3, rfl, rfl, rfl, rfl⟩ := hY.form
      obtain ⟨k', hk'⟩ : ∃ k', k - 1 = k' := ⟨_, rfl⟩
      rw [hk'] at hoc hki2 HIK
      have hwk : IntKind.i64.wrap (k' : Int) = (k' : Int) := IntWalk.i64_in _ (by omega)
      have hkl : k' < i := by omega
      clear hRx hRy hcv hoc2 hX hY hoa ha hk1 hil hal2 hbd
      go_wp2_with fail
      have hS0 : (wr.drew.cell? ⟨bi, oi + i * 4, none⟩ = some (.int .i64 kx) ∧ wr.drew.cell? ⟨bi, oi + i * 4 + 1, none⟩ = some (.slice px1 lx1 cx1) ∧ wr.drew.cell? ⟨bi, oi + i * 4 + 2, none⟩ = some (.slice px2 lx2 cx2) ∧ wr.drew.cell? ⟨bi, oi + i * 4 + 3, none⟩ = some (.slice px3 lx3 cx3)) ∧
        (wr.drew.cell? ⟨bi, oi + a * 4, none⟩ = some (.int .i64 ky) ∧ wr.drew.cell? ⟨bi, oi + a * 4 + 1, none⟩ = some (.slice py1 ly1 cy1) ∧ wr.drew.cell? ⟨bi, oi + a * 4 + 2, none⟩ = some (.slice py2 ly2 cy2) ∧ wr.drew.cell? ⟨bi, oi + a * 4 + 3, none⟩ = some (.slice py3 ly3 cy3)) ∧
        wr.drew.cell? ⟨go, k', none⟩ = some (.int .i64 (a : Int)) := ⟨⟨g0, g1, g2, g3⟩, ⟨h0, h1, h2, h3⟩, hoc⟩
      refine wp_region_g [0, 1, 2, 3, 4, 5, 6, 7, 8, 9, 10, 11, 12, 13, 14, 15] [16, 17, 18, 19] (fun w' => (w'.cell? ⟨bi, oi + i * 4, none⟩ = some (.int .i64 kx) ∧ w'.cell? ⟨bi, oi + i * 4 + 1, none⟩ = some (.slice px1 lx1 cx1) ∧ w'.cell? ⟨bi, oi + i * 4 + 2, none⟩ = some (.slice px2 lx2 cx2) ∧ w'.cell? ⟨bi, oi + i * 4 + 3, none⟩ = some (.slice px3 lx3 cx3)) ∧
        (w'.cell? ⟨bi, oi + a * 4, none⟩ = some (.int .i64 ky) ∧ w'.cell? ⟨bi, oi + a * 4 + 1, none⟩ = some (.slice py1 ly1 cy1) ∧ w'.cell? ⟨bi, oi + a * 4 + 2, none⟩ = some (.slice py2 ly2 cy2) ∧ w'.cell? ⟨bi, oi + a * 4 + 3, none⟩ = some (.slice py3 ly3 cy3)) ∧
        w'.cell? ⟨go, k', none⟩ = some (.int .i64 (a : Int))) (by kernel_rfl) (by kernel_rfl) hS0 ?_
      clear g0 g1 g2 g3 h0 h1 h2 h3 hoc
      iterate 16
        refine wpHead_cons (v := ?_) rfl (by rfl) (fun w' hS => ?_) ?_
        rotate_left
        · obtain ⟨⟨g0, g1, g2, g3⟩, ⟨h0, h1, h2, h3⟩, hoc⟩ := hS
          go_simp
          try with_reducible rfl
        try simp only [Act.put, List.setIfInBounds_toArray, List.set]
      unfold wpHead
      refine wpTail_cons rfl (fun K hK => ?_)
      go_wp2_with fail
      refine (HCALL.out wr.drew (Ext.refl _).drew).mono ?_
      rintro e w8 ⟨rfl, hE8⟩
      have hS8 := And.intro (And.intro (hE8.cell hS0.1.1) (And.intro (hE8.cell hS0.1.2.1) (And.intro (hE8.cell hS0.1.2.2.1) (hE8.cell hS0.1.2.2.2)))) (And.intro (And.intro (hE8.cell hS0.2.1.1) (And.intro (hE8.cell hS0.2.1.2.1) (And.intro (hE8.cell hS0.2.1.2.2.1) (hE8.cell hS0.2.1.2.2.2)))) (hE8.cell hS0.2.2))
      have HEn := Lib.hid (HEq.out.trans ((Ext.refl wr).drew.trans hE8))
      clear hE8 HCALL HEq
      go_wp2_with fail
      refine hK _ _ hS8 ?_
      clear hK hS0
      try simp only [Act.put, List.setIfInBounds_toArray, List.set]
      iterate 3
        refine wpTail_cons rfl (fun K hK => ?_)
        go_wp2_with fail
        refine hK _ _ hS8 ?_
        clear hK
        try simp only [Act.put, List.setIfInBounds_toArray, List.set]
      unfold wpTail
      refine OnlyN.mk ?_
      clear hS8
      (try simp only [Exit.inBlock, Exit.then])
      by_cases hsn : sc < 0
      · have HK2 : Hid (insK (gradedC m sg l) i o k' = insK (gradedC m sg l) i o i) := by
          have h9 := HIK.out
          rw [if_pos hsn] at h9
          unfold Hid
          rw [← h9]; exact HK.out
        clear HIK HK
        go_wp2_with fail
        go_roundw
        case rel => exact ⟨k', by go_num, by omega, HK2, HEn⟩
        case measure => simp [intOf]; omega
      · have HKI : Hid (insK (gradedC m sg l) i o i = k) := by
          have h9 := HIK.out
          rw [if_neg hsn] at h9
          unfold Hid
          rw [← HK.out]; exact h9
        have HEr := Lib.hid (HE.out.trans HEn.out)
        have HOr := Lib.hid (HO.out.ext HEn.out)
        have HIr := Lib.hid (HIo.out.ext HEn.out)
        clear HIK HK HEn
        obtain ⟨wr, rfl⟩ : ∃ wx : World, wx = w8 := ⟨_, rfl⟩
        have HNXk : Hid (insAll (gradedC m sg l) (i + 1) = o.take k ++ (i : Int) :: o.drop k) := by unfold Hid; rw [HNX.out, HKI.out]
        by_cases hki3 : k = i
        · have HNX9 : Hid (o ++ [(i : Int)] = insAll (gradedC m sg l) (i + 1)) := by
            unfold Hid
            rw [HNXk.out, hki3, List.take_of_length_le (by rw [HOL.out]; omega), List.drop_of_length_le (by rw [HOL.out]; omega)]
          have hEn : Ext wr (wr.alloc (.cells #[.int .i64 (i : Int)] 3)) := (Ext.refl _).alloc _
          have hnc : (wr.alloc (.cells #[.int .i64 (i : Int)] 3)).cell? ⟨wr.heap.size, 0, none⟩ = some (.int .i64 (i : Int)) := by simp
          have HOn := Lib.hid (HOr.out.ext hEn)
          have HEn := Lib.hid (HEr.out.trans hEn)
          have HNC := Lib.hid hnc
          clear hEn hnc
          go_wp2_with (at_builtin; refine wpList_append_int rfl _ _ rfl w.heap.size (fun _ => False) _ i o (i : Int) rfl HOn.out ⟨wr.heap.size, 0, none⟩ 1 rfl HNC.out (fun _ h => h.elim) (by omega) (by omega) HEn.out.lt ?_)
          intro g cap w8 ho8 hgr8 _ _ _
          have hE8 : Ext w w8 := HEn.out.grown hgr8 HEn.out.lt (fun q e => (HOn.out.2.2.1.lt q e).1)
          obtain ⟨p9, c9, e9, hf9⟩ := ho8.form
          cases e9
          have hc9 : cap ≤ 9223372036854775807 := by
            obtain ⟨p9, c9, e9, hs9, _⟩ := ho8.ints
            simp only [Value.slice.injEq] at e9
            obtain ⟨_, _, rfl⟩ := e9
            exact hs9.2.1
          rw [HNX9.out] at ho8
          have HO8 := Lib.hid ho8
          have HE8 := Lib.hid hE8
          clear ho8 hgr8 hE8 HOn HEn HNC
          go_wp2_with fail
          go_roundw
          case rel => exact ⟨i + 1, cap, g, rfl, by go_num, by omega, hf9, hc9, HO8, HE8⟩
          case measure => simp [intOf]; omega
        · have hki4 : k < i := by omega
          have hki5 : (k : Int) ≠ (i : Int) := by omega
          go_wp2_with fail
          refine wp_region_z1 [MProp.row wr.heap.size 0 [], MProp.is (.slice (some ⟨go, 0, none⟩) i co), MProp.is (.int .i64 (k : Int)), MProp.rdi (o.take k), MProp.chain wr.heap.size (o.take k), MProp.is (.int .i64 (i : Int)), MProp.rdi ([(i : Int)]), MProp.chain wr.heap.size (o.take k ++ [(i : Int)]), MProp.is (.slice (some ⟨go, 0, none⟩) i co), MProp.is (.int .i64 (k : Int)), MProp.rdi (o.drop k), MProp.chain wr.heap.size ((o.take k ++ [(i : Int)]) ++ o.drop k)] [0, 1, 2, 3, 5, 6, 8, 9, 10] [4, 7, 11] [47, 48, 49, 50, 52, 53, 55, 56, 57, 51, 54, 58] 12 (by kernel_rfl) (by kernel_rfl) (by kernel_rfl) (by kernel_rfl) rfl ?_ ?_ ?_ ?_
          · exact mem_cons_m (zst_row _ _ _) (mem_cons_m (zst_is _) (mem_cons_m (zst_is _) (mem_cons_m (zst_rdi _) (mem_cons_m (zst_is _) (mem_cons_m (zst_rdi _) (mem_cons_m (zst_is _) (mem_cons_m (zst_is _) (mem_cons_m (zst_rdi _) (mem_nil_m)))))))))
          · refine mem_cons_m ?_ (mem_cons_m ?_ (mem_cons_m ?_ (mem_cons_m ?_ (mem_cons_m ?_ (mem_cons_m ?_ (mem_cons_m ?_ (mem_cons_m ?_ (mem_cons_m ?_ (mem_nil_m)))))))))
            · refine ⟨_, 47, rfl, by kernel_rfl, ?_⟩
              intro u w9 X hE hX hd K hK
              clear hd
              simp only [overlay, List.setIfInBounds_toArray, List.set] at hK ⊢
              have hlt' : wr.heap.size ≤ w9.heap.size := hE.lt
              go_wp2_with fail
              exact hK _ _ X ((Ext.refl _).alloc _) kept_m (hX.ext ((Ext.refl _).alloc _)) ⟨_, rfl, rowI_new' w9 [], hlt', fun hx => by have := (hX _ hx).2; omega⟩
            · refine ⟨_, 48, rfl, by kernel_rfl, ?_⟩
              intro u w9 X hE hX hd K hK
              clear hd
              simp only [overlay, List.setIfInBounds_toArray, List.set] at hK ⊢
              go_wp2_with fail
              exact hK _ _ X (Ext.refl _) kept_m hX rfl
            · refine ⟨_, 49, rfl, by kernel_rfl, ?_⟩
              intro u w9 X hE hX hd K hK
              clear hd
              simp only [overlay, List.setIfInBounds_toArray, List.set] at hK ⊢
              go_wp2_with fail
              exact hK _ _ X (Ext.refl _) kept_m hX rfl
            · refine ⟨_, 50, rfl, by kernel_rfl, ?_⟩
              intro u w9 X hE hX hd K hK
              have d1 : u 48 = .slice (some ⟨go, 0, none⟩) i co := hd 1 (by kernel_rfl)
              have d2 : u 49 = .int .i64 (k : Int) := hd 2 (by kernel_rfl)
              clear hd
              simp only [overlay, List.setIfInBounds_toArray, List.set, d1, d2] at hK ⊢
              have e9 : Ext wr w9 := (Ext.refl wr).drew.trans hE
              go_wp2_with fail
              have hh := RdIX.old (HIr.out.take k) (c := co) (by rw [HTK.out k hki]; exact ⟨by omega, by omega, by omega⟩) e9 hX.lo
              rw [HTK.out k hki] at hh
              exact hK _ _ X (Ext.refl _) kept_m hX hh
            · refine ⟨_, 52, rfl, by kernel_rfl, ?_⟩
              intro u w9 X hE hX hd K hK
              clear hd
              simp only [overlay, List.setIfInBounds_toArray, List.set] at hK ⊢
              go_wp2_with fail
              exact hK _ _ X (Ext.refl _) kept_m hX rfl
            · refine ⟨_, 53, rfl, by kernel_rfl, ?_⟩
              intro u w9 X hE hX hd K hK
              have d5 : u 52 = .int .i64 (i : Int) := hd 5 (by kernel_rfl)
              clear hd
              simp only [overlay, List.setIfInBounds_toArray, List.set, d5] at hK ⊢
              go_wp2_with fail
              exact hK _ _ X ((Ext.refl _).alloc _) kept_m (hX.ext ((Ext.refl _).alloc _)) (rdix_one w9 i (by omega) hX.hi)
            · refine ⟨_, 55, rfl, by kernel_rfl, ?_⟩
              intro u w9 X hE hX hd K hK
              clear hd
              simp only [overlay, List.setIfInBounds_toArray, List.set] at hK ⊢
              go_wp2_with fail
              exact hK _ _ X (Ext.refl _) kept_m hX rfl
            · refine ⟨_, 56, rfl, by kernel_rfl, ?_⟩
              intro u w9 X hE hX hd K hK
              clear hd
              simp only [overlay, List.setIfInBounds_toArray, List.set] at hK ⊢
              go_wp2_with fail
              exact hK _ _ X (Ext.refl _) kept_m hX rfl
            · refine ⟨_, 57, rfl, by kernel_rfl, ?_⟩
              intro u w9 X hE hX hd K hK
              have d8 : u 55 = .slice (some ⟨go, 0, none⟩) i co := hd 8 (by kernel_rfl)
              have d9 : u 56 = .int .i64 (k : Int) := hd 9 (by kernel_rfl)
              clear hd
              simp only [overlay, List.setIfInBounds_toArray, List.set, d8, d9] at hK ⊢
              have e9 : Ext wr w9 := (Ext.refl wr).drew.trans hE
              have hkc' : (k : Int) < co := by omega
              go_wp2_with fail
              have hh := RdIX.old (HIr.out.drop k) (c := co - k) (by rw [HDK.out k hki]; exact ⟨by omega, by omega, by omega⟩) e9 hX.lo
              rw [HDK.out k hki, Nat.zero_add] at hh
              first
                | exact hK _ _ X (Ext.refl _) kept_m hX hh
                | omega
          · refine mem_cons_m ?_ (mem_cons_m ?_ (mem_cons_m ?_ (mem_nil_m)))
            · refine ⟨_, 51, rfl, by kernel_rfl, ?_⟩
              intro u w9 X hE hX hd K hK
              have d0 : ∃ g, u 47 = .slice (some ⟨g, 0, none⟩) 0 0 ∧ RowI w9 g [] ∧ wr.heap.size ≤ g ∧ ¬ X g := hd 0 (by kernel_rfl)
              have d3 : RdIX X w9 (o.take k) (u 50) := hd 3 (by kernel_rfl)
              clear hd
              simp only [overlay, List.setIfInBounds_toArray, List.set] at hK ⊢
              obtain ⟨g, hv0, hr0, hb0, hx0⟩ := d0
              obtain ⟨p3, c3, hv3, hk3, hi3⟩ := d3
              simp only [hv0, hv3] at hK ⊢
              refine wpList_chain rfl _ _ rfl wr.drew X _ 0 [] p3 c3 (o.take k) rfl (.inl ⟨rfl, rfl, g, rfl, hr0, hb0, hx0⟩) rfl hi3 hE hX (by have := HTK.out k hki; have := HDK.out k hki; (try simp only [List.length_append, List.length_cons, List.length_nil]); omega) ?_
              intro v' w' X' f0 f1 f2 f3 f4
              rw [Nat.zero_add, List.nil_append] at f4
              obtain ⟨pv, cv, rfl, _⟩ := f4.own.1.form
              exact hK _ _ X' f0 f1 f2 f3 ⟨pv, cv, rfl, f4⟩
            · refine ⟨_, 54, rfl, by kernel_rfl, ?_⟩
              intro u w9 X hE hX hd K hK
              have d4 : ∃ p c, u 51 = .slice p (o.take k).length c ∧ ChainRow wr.heap.size X w9 (.slice p (o.take k).length c) (o.take k).length (o.take k) := hd 4 (by kernel_rfl)
              have d6 : RdIX X w9 ([(i : Int)]) (u 53) := hd 6 (by kernel_rfl)
              clear hd
              simp only [overlay, List.setIfInBounds_toArray, List.set] at hK ⊢
              obtain ⟨p0, c0, hv0, hc0⟩ := d4
              obtain ⟨p3, c3, hv3, hk3, hi3⟩ := d6
              simp only [hv0, hv3] at hK ⊢
              refine wpList_chain rfl _ _ rfl wr.drew X _ (o.take k).length (o.take k) p3 c3 ([(i : Int)]) rfl hc0 rfl hi3 hE hX (by have := HTK.out k hki; have := HDK.out k hki; (try simp only [List.length_append, List.length_cons, List.length_nil]); omega) ?_
              intro v' w' X' f0 f1 f2 f3 f4
              rw [← List.length_append] at f4
              obtain ⟨pv, cv, rfl, _⟩ := f4.own.1.form
              exact hK _ _ X' f0 f1 f2 f3 ⟨pv, cv, rfl, f4⟩
            · refine ⟨_, 58, rfl, by kernel_rfl, ?_⟩
              intro u w9 X hE hX hd K hK
              have d7 : ∃ p c, u 54 = .slice p (o.take k ++ [(i : Int)]).length c ∧ ChainRow wr.heap.size X w9 (.slice p (o.take k ++ [(i : Int)]).length c) (o.take k ++ [(i : Int)]).length (o.take k ++ [(i : Int)]) := hd 7 (by kernel_rfl)
              have d10 : RdIX X w9 (o.drop k) (u 57) := hd 10 (by kernel_rfl)
              clear hd
              simp only [overlay, List.setIfInBounds_toArray, List.set] at hK ⊢
              obtain ⟨p0, c0, hv0, hc0⟩ := d7
              obtain ⟨p3, c3, hv3, hk3, hi3⟩ := d10
              simp only [hv0, hv3] at hK ⊢
              refine wpList_chain rfl _ _ rfl wr.drew X _ (o.take k ++ [(i : Int)]).length (o.take k ++ [(i : Int)]) p3 c3 (o.drop k) rfl hc0 rfl hi3 hE hX (by have := HTK.out k hki; have := HDK.out k hki; (try simp only [List.length_append, List.length_cons, List.length_nil]); omega) ?_
              intro v' w' X' f0 f1 f2 f3 f4
              rw [← List.length_append] at f4
              obtain ⟨pv, cv, rfl, _⟩ := f4.own.1.form
              exact hK _ _ X' f0 f1 f2 f3 ⟨pv, cv, rfl, f4⟩
          intro u w9 X hE hX hd hdc
          have d0 : ∃ g, u 47 = .slice (some ⟨g, 0, none⟩) 0 0 ∧ RowI w9 g [] ∧ wr.heap.size ≤ g ∧ ¬ X g := hd 0 (by decide)
          have d1 : u 48 = .slice (some ⟨go, 0, none⟩) i co := hd 1 (by decide)
          have d2 : u 49 = .int .i64 (k : Int) := hd 2 (by decide)
          have d3 : RdIX X w9 (o.take k) (u 50) := hd 3 (by decide)
          have d5 : u 52 = .int .i64 (i : Int) := hd 5 (by decide)
          have d6 : RdIX X w9 ([(i : Int)]) (u 53) := hd 6 (by decide)
          have d8 : u 55 = .slice (some ⟨go, 0, none⟩) i co := hd 8 (by decide)
          have d9 : u 56 = .int .i64 (k : Int) := hd 9 (by decide)
          have d10 : RdIX X w9 (o.drop k) (u 57) := hd 10 (by decide)
          have d11 : ∃ p c, u 58 = .slice p ((o.take k ++ [(i : Int)]) ++ o.drop k).length c ∧ ChainRow wr.heap.size X w9 (.slice p ((o.take k ++ [(i : Int)]) ++ o.drop k).length c) ((o.take k ++ [(i : Int)]) ++ o.drop k).length ((o.take k ++ [(i : Int)]) ++ o.drop k) := hdc 2 rfl
          clear hd hdc
          simp only [overlay, List.setIfInBounds_toArray, List.set, d1, d2, d5, d8, d9]
          obtain ⟨pf, cf, hvf, hcf⟩ := d11
          have hof := (ChainRow.own hcf).1
          have e9 : Ext wr w9 := (Ext.refl wr).drew.trans hE
          simp only [hvf]
          have hlf : ((o.take k ++ [(i : Int)]) ++ o.drop k).length = i + 1 := by
            rw [List.length_append, List.length_append, HTK.out k hki, HDK.out k hki]
            simp; omega
          rw [hlf] at hof ⊢
          rw [List.append_assoc, List.singleton_append, ← HNXk.out] at hof
          have hof := hof.rebaseR HEr.out.lt
          obtain ⟨gf, rfl, hf9, hc9⟩ : ∃ gf, pf = some ⟨gf, 0, none⟩ ∧ i + 1 ≤ cf ∧ cf ≤ 9223372036854775807 := by
            obtain ⟨p9, c9, e9, hs9, hi9⟩ := hof.ints
            rcases hof.2.2.1.2 with ⟨h, _⟩ | ⟨g, cap, cur, h, _, _, hnc, hcm, _⟩
            · cases h
            · cases h
              exact ⟨g, rfl, hnc, by unfold maxLen at hcm; omega⟩
          have HO8 := Lib.hid hof
          have HE8 := Lib.hid (HEr.out.trans e9)
          clear d0 d1 d2 d3 d5 d6 d8 d9 d10 hcf hof e9 hX hvf
          generalize u 47 = z47 at *
          generalize u 50 = z50 at *
          generalize u 51 = z51 at *
          generalize u 53 = z53 at *
          generalize u 54 = z54 at *
          generalize u 57 = z57 at *
          clear u
          go_wp2_with fail
          refine OnlyN.mk ?_
          (try simp only [Exit.inBlock, Exit.then])
          go_wp2_with fail
          go_roundw
          case rel => exact ⟨i + 1, cf, gf, rfl, by go_num, by omega, hf9, hc9, HO8, HE8⟩
          case measure => simp [intOf]; omega
end Go.Proofs.Ytgeppialbkijiaa

namespace Go.Proofs.Ytgeppialbkijiaa
set_option linter.unusedSimpArgs false
set_option linter.unusedVariables false
open Go.RowKit

theorem gradedV_up (m : Nat) (l : List Arr) : gradedV m 1 l = grade (cmpF m) l := by
  unfold gradedV grade gradedC
  congr 1
  funext i j
  omega
theorem gradedV_down (m : Nat) (l : List Arr) : gradedV m (-1) l = grade (fun x y => cmpF m y x) l := by
  unfold gradedV grade gradedC
  congr 1
  funext i j
  have := cmpF_neg m (l.getD i.toNat default) (l.getD j.toNat default)
  show -1 * cmpF m (l.getD i.toNat default) (l.getD j.toNat default) = cmpF m (l.getD j.toNat default) (l.getD i.toNat default)
  omega
def rgradeV (m : Nat) (sg : Int) (y : Arr) : Arr := if rowsE y ≠ 0 then Arr.zero else .mk 1 [((rowsC y).length : Int)] (gradedV m sg (rowsC y)) []
theorem rgradeV_up (m : Nat) (y : Arr) : rgradeV m 1 y = gradeV (cmpF m) y := by unfold rgradeV gradeV; rw [gradedV_up]
theorem rgradeV_down (m : Nat) (y : Arr) : rgradeV m (-1) y = gradeV (fun x y => cmpF m y x) y := by unfold rgradeV gradeV; rw [gradedV_down]

set_option maxRecDepth 1000000 in
set_option maxHeartbeats 8000000 in
theorem rgrade_any (m : Nat) (F : Nat → Prop) (x : Arr) (c0 c1 c2 c3 : Value) (sg : Int) (w : World) (hx : ArrAt F w x c0 c1 c2 c3) (hR : RowsOk m x) (hsg : sg = 1 ∨ sg = -1) :
    Calls Try.prog 70 #[.agg #[c0, c1, c2, c3], .int .i64 sg] w fun e w' => ∃ d0 d1 d2 d3, e = .returned (.tuple #[.agg #[d0, d1, d2, d3], .int .i64 (rowsE x)]) ∧ ArrAt (fun b => w.heap.size ≤ b) w' (rgradeV m sg x) d0 d1 d2 d3 ∧ Ext w w' := by
  have HR := Lib.hid hR
  have HX := Lib.hid hx
  have HSG := Lib.hid hsg
  have HCL := Lib.hid (rowsC_length x)
  have HV : Hid (rgradeV m sg x = if rowsE x ≠ 0 then Arr.zero else .mk 1 [((rowsC x).length : Int)] (gradedV m sg (rowsC x)) []) := rfl
  generalize rgradeV m sg x = gv at *
  obtain ⟨kx, p1, n1, m1, p2, n2, m2, p3, n3, m3, rfl, rfl, rfl, rfl⟩ := hx.form
  clear hx hR hsg
  go_enter Try.func70, Try.ntmps70
  have hE0 : Ext w ((w.alloc (.cells #[.int .i64 kx, .slice p1 n1 m1, .slice p2 n2 m2, .slice p3 n3 m3] 26)).alloc (.cells #[.int .i64 0, .slice none 0 0, .slice none 0 0, .slice none 0 0] 26)) := ((Ext.refl _).alloc _).alloc _
  have hB := box_new (w.alloc (.cells #[.int .i64 kx, .slice p1 n1 m1, .slice p2 n2 m2, .slice p3 n3 m3] 26)) (.int .i64 0) (.slice none 0 0) (.slice none 0 0) (.slice none 0 0)
  rw [World.size_alloc] at hB
  have HE := Lib.hid hE0
  have HB := Lib.hid hB
  clear hE0 hB
  go_wp2_with fail
  refine (rrows_any F x _ _ _ _ _ (HX.out.ext HE.out)).mono ?_
  rintro e w2 ⟨p, c, l, rfl, hok, hit, _, hpr, hE1⟩
  replace HE := Lib.hid (HE.out.trans hE1)
  have HBr := Lib.hid (HB.out.ext hE1)
  have HIT := Lib.hid hit
  have HOK := Lib.hid hok
  have HPR := Lib.hid hpr
  clear HB hE1 hit hok hpr HX
  by_cases h1 : rowsE x = 0
  rotate_left
  · have HV2 : Hid (gv = Arr.zero) := by unfold Hid; rw [HV.out, if_pos h1]
    generalize hev : rowsE x = ev at *
    have HEV := Lib.hid hev
    clear hev
    have h1' : (ev != 0) = true := by simpa using h1
    obtain ⟨x0, x1, x2, x3⟩ := HBr.out.cell
    have y0 := HBr.out.free 0
    have y1 := HBr.out.free 1
    have y2 := HBr.out.free 2
    have y3 := HBr.out.free 3
    clear h1 HV HR HIT HOK HPR HCL
    go_wp2_with fail
    obtain ⟨g1, g2, g3⟩ := HBr.out.put4 HE.out (by omega) (.int .i64 0) (.slice none 0 0) (.slice none 0 0) (.slice none 0 0)
    revert g1 g2 g3
    generalize ((((w2.setCell ⟨w.heap.size + 1, 0, none⟩ (.int .i64 0)).setCell ⟨w.heap.size + 1, 1, none⟩ (.slice none 0 0)).setCell ⟨w.heap.size + 1, 2, none⟩ (.slice none 0 0)).setCell ⟨w.heap.size + 1, 3, none⟩ (.slice none 0 0)) = w9
    intro g1 g2 g3
    obtain ⟨z0, z1, z2, z3⟩ := g2.cell
    refine bodyPost_ret (v := .tuple #[.agg #[(.int .i64 0), (.slice none 0 0), (.slice none 0 0), (.slice none 0 0)], .int .i64 ev]) ?_ rfl ⟨_, _, _, _, by first | rfl | rw [HEV.out], by rw [HV2.out]; exact Arr.zero_at _ _, g1⟩
    simp [results, Try.results70, go_sem, z0, z1, z2, z3]
  have hlc := HPR.out h1
  have h6 : l.length ≤ 65536 := by rw [hlc]; exact HCL.out
  have HV2 : Hid (gv = .mk 1 [(l.length : Int)] (gradedV m sg l) []) := by unfold Hid; rw [HV.out, if_neg (by rw [h1]; simp), hlc]
  have hgd : ∀ t ∈ l, szA t < m ∧ rightV t = 0 := by rw [hlc]; exact HR.out h1
  obtain ⟨n, hn⟩ : ∃ n, l.length = n := ⟨_, rfl⟩
  rw [hn] at HV2 HOK h6 ⊢
  have hEs : Ext w2 (w2.alloc (.cells #[.int .i64 (n : Int)] 3)) := (Ext.refl _).alloc _
  have hS : (w2.alloc (.cells #[.int .i64 (n : Int)] 3)).cell? ⟨w2.heap.size, 0, none⟩ = some (.int .i64 (n : Int)) := by simp
  have HG := Lib.hid (graded_any m _ l p c n sg _ hn HSG.out (HIT.out.ext hEs) HOK.out h6 hgd)
  have HES := Lib.hid hEs
  have HS := Lib.hid hS
  have HE1 := Lib.hid h1
  have HL2 := Lib.hid HBr.out.lt
  rw [h1]
  clear hgd hn HV HR HIT HOK HPR HCL h1 hEs hS hlc
  go_wp2_with fail
  refine HG.out.mono ?_
  rintro e w4 ⟨v, rfl, hO, hE6⟩
  obtain ⟨p5, c5, hv5, hk5, hi5⟩ := hO.ints
  have hln : (gradedV m sg l).length = n := hO.1
  have HE6 := Lib.hid (HE.out.trans (HES.out.trans hE6))
  have HB6 := Lib.hid (HBr.out.ext (HES.out.trans hE6))
  have hS6 := hE6.cell HS.out
  have hA : ArrAt (fun b => w2.heap.size ≤ b) w4 (.mk 1 [(n : Int)] (gradedV m sg l) []) (.int .i64 1) (.slice (some ⟨w2.heap.size, 0, none⟩) 1 1) v (.slice none 0 0) := by
    unfold ArrAt
    refine ⟨rfl, by omega, ⟨_, _, rfl, ⟨by simp, by simp, by simp⟩, fun j hj => ?_⟩, ⟨p5, c5, hv5, hk5, hi5.mono fun b hb _ => ⟨by have := hb.1; rw [World.size_alloc] at this; omega, rfl⟩⟩, ⟨none, 0, rfl, ⟨by simp, by simp, by simp⟩, by unfold ItemsAt; trivial⟩⟩
    have : j = 0 := by simp at hj; omega
    subst this
    exact ⟨w2.heap.size, 0, rfl, Nat.le_refl _, hS6, by show -9223372036854775808 ≤ (n : Int) ∧ (n : Int) ≤ 9223372036854775807; omega⟩
  rw [hln] at hv5
  subst hv5
  have HA := Lib.hid hA
  obtain ⟨x0, x1, x2, x3⟩ := HB6.out.cell
  have y0 := HB6.out.free 0
  have y1 := HB6.out.free 1
  have y2 := HB6.out.free 2
  have y3 := HB6.out.free 3
  clear HG hE6 hA hS6 HS HES hO hk5 hi5 HBr HE hln
  go_wp2_with fail
  obtain ⟨g1, g2, g3⟩ := HB6.out.put4 HE6.out (by omega) (.int .i64 1) (.slice (some ⟨w2.heap.size, 0, none⟩) 1 1) (.slice p5 n c5) (.slice none 0 0)
  revert g1 g2 g3
  generalize ((((w4.setCell ⟨w.heap.size + 1, 0, none⟩ (.int .i64 1)).setCell ⟨w.heap.size + 1, 1, none⟩ (.slice (some ⟨w2.heap.size, 0, none⟩) 1 1)).setCell ⟨w.heap.size + 1, 2, none⟩ (.slice p5 n c5)).setCell ⟨w.heap.size + 1, 3, none⟩ (.slice none 0 0)) = w9
  intro g1 g2 g3
  obtain ⟨z0, z1, z2, z3⟩ := g2.cell
  have hA9 := ArrAt.mono (G := fun b => w.heap.size ≤ b) (w' := w9) (fun b hb _ => ⟨by have := HL2.out; omega, g3 b (by have := HL2.out; omega)⟩) _ _ _ _ _ HA.out
  rw [← HV2.out] at hA9
  refine bodyPost_ret (v := .tuple #[.agg #[.int .i64 1, .slice (some ⟨w2.heap.size, 0, none⟩) 1 1, .slice p5 n c5, .slice none 0 0], .int .i64 0]) ?_ rfl ⟨_, _, _, _, by first | rfl | rw [HE1.out], hA9, g1⟩
  simp [results, Try.results70, go_sem, z0, z1, z2, z3]

set_option maxRecDepth 100000 in
set_option maxHeartbeats 2000000 in
theorem rup_any (m : Nat) (F : Nat → Prop) (x : Arr) (c0 c1 c2 c3 : Value) (w : World) (hx : ArrAt F w x c0 c1 c2 c3) (hR : RowsOk m x) :
    Calls Try.prog 34 #[.agg #[c0, c1, c2, c3]] w fun e w' => ∃ d0 d1 d2 d3, e = .returned (.tuple #[.agg #[d0, d1, d2, d3], .int .i64 (rowsE x)]) ∧ ArrAt (fun b => w.heap.size ≤ b) w' (gradeV (cmpF m) x) d0 d1 d2 d3 ∧ Ext w w' := by
  have HR := Lib.hid hR
  have HX := Lib.hid hx
  have HV := Lib.hid (rgradeV_up m x)
  obtain ⟨kx, p1, n1, m1, p2, n2, m2, p3, n3, m3, rfl, rfl, rfl, rfl⟩ := hx.form
  clear hx hR
  go_enter Try.func34, Try.ntmps34
  have hE0 : Ext w ((w.alloc (.cells #[.int .i64 kx, .slice p1 n1 m1, .slice p2 n2 m2, .slice p3 n3 m3] 26)).alloc (.cells #[.int .i64 0, .slice none 0 0, .slice none 0 0, .slice none 0 0] 26)) := ((Ext.refl _).alloc _).alloc _
  have hB := box_new (w.alloc (.cells #[.int .i64 kx, .slice p1 n1 m1, .slice p2 n2 m2, .slice p3 n3 m3] 26)) (.int .i64 0) (.slice none 0 0) (.slice none 0 0) (.slice none 0 0)
  rw [World.size_alloc] at hB
  have HE := Lib.hid hE0
  have HB := Lib.hid hB
  clear hE0 hB
  go_wp2_with fail
  refine (rgrade_any m F x _ _ _ _ (1) _ (HX.out.ext HE.out) HR.out (by simp)).mono ?_
  rintro e w4 ⟨d0, d1, d2, d3, rfl, hA, hE6⟩
  have HE6 := Lib.hid (HE.out.trans hE6)
  have HB6 := Lib.hid (HB.out.ext hE6)
  obtain ⟨ka, a1, b1, e1, a2, b2, e2, a3, b3, e3, rfl, rfl, rfl, rfl⟩ := hA.form
  have hA2 := ArrAt.mono (G := fun b => w.heap.size + 1 < b) (w' := w4) (fun b hb _ => ⟨by simp only [World.size_alloc] at hb; omega, rfl⟩) _ _ _ _ _ hA
  have HA := Lib.hid hA2
  obtain ⟨x0, x1, x2, x3⟩ := HB6.out.cell
  have y0 := HB6.out.free 0
  have y1 := HB6.out.free 1
  have y2 := HB6.out.free 2
  have y3 := HB6.out.free 3
  clear HB hE6 hA hA2 HE
  go_wp2_with fail
  obtain ⟨g1, g2, g3⟩ := HB6.out.put4 HE6.out (by omega) (.int .i64 ka) (.slice a1 b1 e1) (.slice a2 b2 e2) (.slice a3 b3 e3)
  revert g1 g2 g3
  generalize ((((w4.setCell ⟨w.heap.size + 1, 0, none⟩ (.int .i64 ka)).setCell ⟨w.heap.size + 1, 1, none⟩ (.slice a1 b1 e1)).setCell ⟨w.heap.size + 1, 2, none⟩ (.slice a2 b2 e2)).setCell ⟨w.heap.size + 1, 3, none⟩ (.slice a3 b3 e3)) = w9
  intro g1 g2 g3
  obtain ⟨z0, z1, z2, z3⟩ := g2.cell
  have hA9 := ArrAt.mono (G := fun b => w.heap.size ≤ b) (w' := w9) (fun b hb _ => ⟨by omega, g3 b (by omega)⟩) _ _ _ _ _ HA.out
  rw [HV.out] at hA9
  refine bodyPost_ret (v := .tuple #[.agg #[.int .i64 ka, .slice a1 b1 e1, .slice a2 b2 e2, .slice a3 b3 e3], .int .i64 (rowsE x)]) ?_ rfl ⟨_, _, _, _, rfl, hA9, g1⟩
  simp [results, Try.results34, go_sem, z0, z1, z2, z3]

set_option maxRecDepth 100000 in
set_option maxHeartbeats 2000000 in
theorem rdown_any (m : Nat) (F : Nat → Prop) (x : Arr) (c0 c1 c2 c3 : Value) (w : World) (hx : ArrAt F w x c0 c1 c2 c3) (hR : RowsOk m x) :
    Calls Try.prog 36 #[.agg #[c0, c1, c2, c3]] w fun e w' => ∃ d0 d1 d2 d3, e = .returned (.tuple #[.agg #[d0, d1, d2, d3], .int .i64 (rowsE x)]) ∧ ArrAt (fun b => w.heap.size ≤ b) w' (gradeV (fun x y => cmpF m y x) x) d0 d1 d2 d3 ∧ Ext w w' := by
  have HR := Lib.hid hR
  have HX := Lib.hid hx
  have HV := Lib.hid (rgradeV_down m x)
  obtain ⟨kx, p1, n1, m1, p2, n2, m2, p3, n3, m3, rfl, rfl, rfl, rfl⟩ := hx.form
  clear hx hR
  go_enter Try.func36, Try.ntmps36
  have hE0 : Ext w ((w.alloc (.cells #[.int .i64 kx, .slice p1 n1 m1, .slice p2 n2 m2, .slice p3 n3 m3] 26)).alloc (.cells #[.int .i64 0, .slice none 0 0, .slice none 0 0, .slice none 0 0] 26)) := ((Ext.refl _).alloc _).alloc _
  have hB := box_new (w.alloc (.cells #[.int .i64 kx, .slice p1 n1 m1, .slice p2 n2 m2, .slice p3 n3 m3] 26)) (.int .i64 0) (.slice none 0 0) (.slice none 0 0) (.slice none 0 0)
  rw [World.size_alloc] at hB
  have HE := Lib.hid hE0
  have HB := Lib.hid hB
  clear hE0 hB
  go_wp2_with fail
  refine (rgrade_any m F x _ _ _ _ (-1) _ (HX.out.ext HE.out) HR.out (by simp)).mono ?_
  rintro e w4 ⟨d0, d1, d2, d3, rfl, hA, hE6⟩
  have HE6 := Lib.hid (HE.out.trans hE6)
  have HB6 := Lib.hid (HB.out.ext hE6)
  obtain ⟨ka, a1, b1, e1, a2, b2, e2, a3, b3, e3, rfl, rfl, rfl, rfl⟩ := hA.form
  have hA2 := ArrAt.mono (G := fun b => w.heap.size + 1 < b) (w' := w4) (fun b hb _ => ⟨by simp only [World.size_alloc] at hb; omega, rfl⟩) _ _ _ _ _ hA
  have HA := Lib.hid hA2
  obtain ⟨x0, x1, x2, x3⟩ := HB6.out.cell
  have y0 := HB6.out.free 0
  have y1 := HB6.out.free 1
  have y2 := HB6.out.free 2
  have y3 := HB6.out.free 3
  clear HB hE6 hA hA2 HE
  go_wp2_with fail
  obtain ⟨g1, g2, g3⟩ := HB6.out.put4 HE6.out (by omega) (.int .i64 ka) (.slice a1 b1 e1) (.slice a2 b2 e2) (.slice a3 b3 e3)
  revert g1 g2 g3
  generalize ((((w4.setCell ⟨w.heap.size + 1, 0, none⟩ (.int .i64 ka)).setCell ⟨w.heap.size + 1, 1, none⟩ (.slice a1 b1 e1)).setCell ⟨w.heap.size + 1, 2, none⟩ (.slice a2 b2 e2)).setCell ⟨w.heap.size + 1, 3, none⟩ (.slice a3 b3 e3)) = w9
  intro g1 g2 g3
  obtain ⟨z0, z1, z2, z3⟩ := g2.cell
  have hA9 := ArrAt.mono (G := fun b => w.heap.size ≤ b) (w' := w9) (fun b hb _ => ⟨by omega, g3 b (by omega)⟩) _ _ _ _ _ HA.out
  rw [HV.out] at hA9
  refine bodyPost_ret (v := .tuple #[.agg #[.int .i64 ka, .slice a1 b1 e1, .slice a2 b2 e2, .slice a3 b3 e3], .int .i64 (rowsE x)]) ?_ rfl ⟨_, _, _, _, rfl, hA9, g1⟩
  simp [results, Try.results36, go_sem, z0, z1, z2, z3]
end Go.Proofs.Ytgeppialbkijiaa

namespace Go.Proofs.Ytgeppialbkijiaa
set_option linter.unusedSimpArgs false
set_option linter.unusedVariables false
open Go.RowKit

theorem grade_getD {c : Arr → Arr → Int} {l : List Arr} {i : Nat} (hi : i < l.length) : (sorted c l).getD i default = l.getD ((grade c l).getD i 0).toNat default := by
  unfold sorted
  have : i < (grade c l).length := by rw [grade_length]; exact hi
  simp [List.getD, this]
set_option maxRecDepth 1000000 in
set_option maxHeartbeats 8000000 in
theorem rgsort_any (m : Nat) (F : Nat → Prop) (x : Arr) (c0 c1 c2 c3 : Value) (w : World) (hx : ArrAt F w x c0 c1 c2 c3) (hR : RowsOk m x) :
    Calls Try.prog 38 #[.agg #[c0, c1, c2, c3]] w fun e w' => ∃ d0 d1 d2 d3, e = .returned (.tuple #[.agg #[d0, d1, d2, d3], .int .i64 (rowsE x)]) ∧ ArrAt (fun b => w.heap.size ≤ b) w' (sortV (cmpF m) x) d0 d1 d2 d3 ∧ Ext w w' := by
  have HR := Lib.hid hR
  have HCL := Lib.hid (rowsC_length x)
  have HV : Hid (sortV (cmpF m) x = if rowsE x ≠ 0 then Arr.zero else .mk x.k x.sh ((sorted (cmpF m) (rowsC x)).flatMap Arr.n) ((sorted (cmpF m) (rowsC x)).flatMap Arr.it)) := rfl
  generalize sortV (cmpF m) x = gv at *
  obtain ⟨kx, s, nx, ix⟩ := x
  have hx' := hx
  unfold ArrAt at hx'
  obtain ⟨rfl, hkx, ⟨p1, m1, rfl, ⟨o1, o1', o1''⟩, i1⟩, ⟨p2, m2, rfl, ⟨o2, o2', o2''⟩, i2⟩, ⟨p3, m3, rfl, ⟨o3, o3', o3''⟩, i3⟩⟩ := hx'
  have HX := Lib.hid hx
  have HS := Lib.hid i1
  clear hx i1 i2 i3 hR
  go_enter Try.func38, Try.ntmps38
  have hE0 : Ext w ((w.alloc (.cells #[.int .i64 kx, .slice p1 s.length m1, .slice p2 nx.length m2, .slice p3 ix.length m3] 26)).alloc (.cells #[.int .i64 0, .slice none 0 0, .slice none 0 0, .slice none 0 0] 26)) := ((Ext.refl _).alloc _).alloc _
  have hB := box_new (w.alloc (.cells #[.int .i64 kx, .slice p1 s.length m1, .slice p2 nx.length m2, .slice p3 ix.length m3] 26)) (.int .i64 0) (.slice none 0 0) (.slice none 0 0) (.slice none 0 0)
  rw [World.size_alloc] at hB
  have hBx := (box_new w (.int .i64 kx) (.slice p1 s.length m1) (.slice p2 nx.length m2) (.slice p3 ix.length m3)).ext ((Ext.refl _).alloc (.cells #[.int .i64 0, .slice none 0 0, .slice none 0 0, .slice none 0 0] 26))
  have HE := Lib.hid hE0
  have HB := Lib.hid hB
  have HBX := Lib.hid hBx
  clear hE0 hB hBx
  go_wp2_with fail
  refine (rrows_any F (.mk kx s nx ix) _ _ _ _ _ (HX.out.ext HE.out)).mono ?_
  rintro e w2 ⟨p, c, l, rfl, hok, hit, _, hpr, hE1⟩
  have HIT : Hid (ItemsAt (fun b => w.heap.size + 1 + 1 ≤ b ∧ b < w2.heap.size) w2 p 0 l) := ItemsAt.mono (fun b hb hlt => ⟨⟨by simp only [World.size_alloc] at hb; omega, hlt⟩, rfl⟩) _ _ _ hit
  replace HE := Lib.hid (HE.out.trans hE1)
  have HBr := Lib.hid (HB.out.ext hE1)
  have HBx := Lib.hid (HBX.out.ext hE1)
  have HOK := Lib.hid hok
  have HPR := Lib.hid hpr
  clear HB HBX hE1 hit hok hpr HX
  by_cases h1 : rowsE (.mk kx s nx ix) = 0
  rotate_left
  · have HV2 : Hid (gv = Arr.zero) := by unfold Hid; rw [HV.out, if_pos h1]
    generalize hev : rowsE (.mk kx s nx ix) = ev at *
    have HEV := Lib.hid hev
    clear hev
    have h1' : (ev != 0) = true := by simpa using h1
    obtain ⟨x0, x1, x2, x3⟩ := HBr.out.cell
    have y0 := HBr.out.free 0
    have y1 := HBr.out.free 1
    have y2 := HBr.out.free 2
    have y3 := HBr.out.free 3
    clear h1 HV HR HIT HOK HPR HCL HBx
    go_wp2_with fail
    obtain ⟨g1, g2, g3⟩ := HBr.out.put4 HE.out (by omega) (.int .i64 0) (.slice none 0 0) (.slice none 0 0) (.slice none 0 0)
    revert g1 g2 g3
    generalize ((((w2.setCell ⟨w.heap.size + 1, 0, none⟩ (.int .i64 0)).setCell ⟨w.heap.size + 1, 1, none⟩ (.slice none 0 0)).setCell ⟨w.heap.size + 1, 2, none⟩ (.slice none 0 0)).setCell ⟨w.heap.size + 1, 3, none⟩ (.slice none 0 0)) = w9
    intro g1 g2 g3
    obtain ⟨z0, z1, z2, z3⟩ := g2.cell
    refine bodyPost_ret (v := .tuple #[.agg #[(.int .i64 0), (.slice none 0 0), (.slice none 0 0), (.slice none 0 0)], .int .i64 ev]) ?_ rfl ⟨_, _, _, _, by first | rfl | rw [HEV.out], by rw [HV2.out]; exact Arr.zero_at _ _, g1⟩
    simp [results, Try.results38, go_sem, z0, z1, z2, z3]
  have hlc := HPR.out h1
  have h6 : l.length ≤ 65536 := by rw [hlc]; exact HCL.out
  have HV2 : Hid (gv = .mk kx s ((sorted (cmpF m) l).flatMap Arr.n) ((sorted (cmpF m) l).flatMap Arr.it)) := by unfold Hid; rw [HV.out, if_neg (by rw [h1]; simp), hlc]; rfl
  have hgd : ∀ t ∈ l, szA t < m ∧ rightV t = 0 := by rw [hlc]; exact HR.out h1
  obtain ⟨n, hn⟩ : ∃ n, l.length = n := ⟨_, rfl⟩
  rw [hn] at HOK h6 ⊢
  have HN := Lib.hid hn
  have HGD := Lib.hid hgd
  have HG := Lib.hid (fun (w6 : World) (e : Ext w2 w6) => graded_any m _ l p c n 1 w6 hn (.inl rfl) (HIT.out.ext e) HOK.out h6 hgd)
  have hok3 := HOK.out
  obtain ⟨l1, l1', l1''⟩ := hok3
  have HE1 := Lib.hid h1
  rw [h1]
  clear hgd hn HV HR HOK HPR HCL h1 hlc
  go_wp2_with fail
  refine wp_region_x1 [MProp.is (.pointer (some ⟨w.heap.size, 0, none⟩)), MProp.is (.int .i64 kx), MProp.row w2.heap.size 0 [], MProp.is (.pointer (some ⟨w.heap.size, 1, none⟩)), MProp.is (.slice p1 s.length m1), MProp.own w2.heap.size s, MProp.ownAgg w2.heap.size kx s, MProp.box] [0, 1, 2, 3, 4, 5, 6, 7] [] [18, 19, 20, 21, 22, 23, 24, 6] 8 (by kernel_rfl) (by kernel_rfl) (by kernel_rfl) rfl ?_ ?_ ?_
  · refine mem_cons_m ?_ (mem_cons_m ?_ (mem_cons_m ?_ (mem_cons_m ?_ (mem_cons_m ?_ (mem_cons_m ?_ (mem_cons_m ?_ (mem_cons_m ?_ (mem_nil_m))))))))
    · refine ⟨_, 18, rfl, by kernel_rfl, ?_⟩
      intro u w9 X hE hX hd K hK
      clear hd
      simp only [overlay, List.setIfInBounds_toArray, List.set] at hK ⊢
      go_wp2_with fail
      exact hK _ _ X (Ext.refl _) kept_m hX rfl
    · refine ⟨_, 19, rfl, by kernel_rfl, ?_⟩
      intro u w9 X hE hX hd K hK
      have d0 : u 18 = .pointer (some ⟨w.heap.size, 0, none⟩) := hd 0 (by kernel_rfl)
      clear hd
      simp only [overlay, List.setIfInBounds_toArray, List.set, d0] at hK ⊢
      have e9 : Ext w2 w9 := (Ext.refl w2).drew.trans hE
      obtain ⟨s0, s1, s2, s3⟩ := (HBx.out.ext e9).cell
      go_wp2_with fail
      exact hK _ _ X (Ext.refl _) kept_m hX rfl
    · refine ⟨_, 20, rfl, by kernel_rfl, ?_⟩
      intro u w9 X hE hX hd K hK
      clear hd
      simp only [overlay, List.setIfInBounds_toArray, List.set] at hK ⊢
      have hlt' : w2.heap.size ≤ w9.heap.size := hE.lt
      go_wp2_with fail
      exact hK _ _ X ((Ext.refl _).alloc _) kept_m (hX.ext ((Ext.refl _).alloc _)) ⟨_, rfl, rowI_new' w9 [], hlt', fun hx => by have := (hX _ hx).2; omega⟩
    · refine ⟨_, 21, rfl, by kernel_rfl, ?_⟩
      intro u w9 X hE hX hd K hK
      clear hd
      simp only [overlay, List.setIfInBounds_toArray, List.set] at hK ⊢
      go_wp2_with fail
      exact hK _ _ X (Ext.refl _) kept_m hX rfl
    · refine ⟨_, 22, rfl, by kernel_rfl, ?_⟩
      intro u w9 X hE hX hd K hK
      have d3 : u 21 = .pointer (some ⟨w.heap.size, 1, none⟩) := hd 3 (by kernel_rfl)
      clear hd
      simp only [overlay, List.setIfInBounds_toArray, List.set, d3] at hK ⊢
      have e9 : Ext w2 w9 := (Ext.refl w2).drew.trans hE
      obtain ⟨s0, s1, s2, s3⟩ := (HBx.out.ext e9).cell
      go_wp2_with fail
      exact hK _ _ X (Ext.refl _) kept_m hX rfl
    · refine ⟨_, 23, rfl, by kernel_rfl, ?_⟩
      intro u w9 X hE hX hd K hK
      have d2 : ∃ g, u 20 = .slice (some ⟨g, 0, none⟩) 0 0 ∧ RowI w9 g [] ∧ w2.heap.size ≤ g ∧ ¬ X g := hd 2 (by kernel_rfl)
      have d4 : u 22 = .slice p1 s.length m1 := hd 4 (by kernel_rfl)
      clear hd
      simp only [overlay, List.setIfInBounds_toArray, List.set, d4] at hK ⊢
      have e9 : Ext w2 w9 := (Ext.refl w2).drew.trans hE
      have hlt' : w2.heap.size ≤ w9.heap.size := hE.lt
      obtain ⟨g9, hv9, hr2, hb2, hx2⟩ := d2
      simp only [hv9] at hK ⊢
      refine wpList_append_zero rfl _ _ rfl F w2.heap.size X g9 p1 m1 s rfl hr2 hb2 hx2 rfl (HS.out.ext (HE.out.trans e9)) (fun b hb => (hX b hb).2) (by omega) hlt' ?_
      intro v' w' hO hE'
      obtain ⟨pv, cv, rfl, hcv⟩ := hO.form
      exact hK _ _ X hE' kept_m (hX.ext hE') ⟨pv, cv, rfl, hO⟩
    · refine ⟨_, 24, rfl, by kernel_rfl, ?_⟩
      intro u w9 X hE hX hd K hK
      have d1 : u 19 = .int .i64 kx := hd 1 (by kernel_rfl)
      have d5 : ∃ p c, u 23 = .slice p s.length c ∧ OwnI w2.heap.size X w9 (.slice p s.length c) s.length s := hd 5 (by kernel_rfl)
      clear hd
      simp only [overlay, List.setIfInBounds_toArray, List.set, d1] at hK ⊢
      obtain ⟨pv, cv, hv3, hO3⟩ := d5
      simp only [hv3] at hK ⊢
      go_wp2_with fail
      exact hK _ _ X (Ext.refl _) kept_m hX ⟨pv, cv, rfl, hO3⟩
    · refine ⟨_, 6, rfl, by kernel_rfl, ?_⟩
      intro u w9 X hE hX hd K hK
      clear hd
      simp only [overlay, List.setIfInBounds_toArray, List.set] at hK ⊢
      go_wp2_with fail
      exact hK _ _ (fun b => X b ∨ b = w9.heap.size) ((Ext.refl _).alloc _) added_m (hX.add hE _) ⟨_, rfl, box_new _ _ _ _ _, .inr rfl⟩
  · exact mem_nil_m
  intro u w9 X hE hX hd
  have d0 : u 18 = .pointer (some ⟨w.heap.size, 0, none⟩) := hd 0 (by decide)
  have d1 : u 19 = .int .i64 kx := hd 1 (by decide)
  have d2 : ∃ g, u 20 = .slice (some ⟨g, 0, none⟩) 0 0 ∧ RowI w9 g [] ∧ w2.heap.size ≤ g ∧ ¬ X g := hd 2 (by decide)
  have d3 : u 21 = .pointer (some ⟨w.heap.size, 1, none⟩) := hd 3 (by decide)
  have d4 : u 22 = .slice p1 s.length m1 := hd 4 (by decide)
  have d5 : ∃ p c, u 23 = .slice p s.length c ∧ OwnI w2.heap.size X w9 (.slice p s.length c) s.length s := hd 5 (by decide)
  have d6 : ∃ p c, u 24 = .agg #[.int .i64 kx, .slice p s.length c, .slice none 0 0, .slice none 0 0] ∧ OwnI w2.heap.size X w9 (.slice p s.length c) s.length s := hd 6 (by decide)
  have d7 : ∃ b, u 6 = .pointer (some ⟨b, 0, none⟩) ∧ Box4 w9 b (.int .i64 0) (.slice none 0 0) (.slice none 0 0) (.slice none 0 0) ∧ X b := hd 7 (by decide)
  clear hd
  simp only [overlay, List.setIfInBounds_toArray, List.set, d0, d1, d3, d4]
  obtain ⟨bo, hvb, hbox, hxb⟩ := d7
  obtain ⟨ps, cs, hva, hOs⟩ := d6
  have hbo := hX bo hxb
  simp only [hvb, hva]
  obtain ⟨q0, q1, q2, q3⟩ := hbox.cell
  have f0 := hbox.free 0
  have f1 := hbox.free 1
  have f2 := hbox.free 2
  have f3 := hbox.free 3
  have e9 := (Ext.refl w2).drew.trans hE
  obtain ⟨gg1, gg2, gg3⟩ := hbox.put4 e9 hbo.1 (.int .i64 kx) (.slice ps s.length cs) (.slice none 0 0) (.slice none 0 0)
  have hOs2 := hOs.same (Y := fun x => x = bo) (w' := (((w9.setCell ⟨bo, 0, none⟩ (.int .i64 kx)).setCell ⟨bo, 1, none⟩ (.slice ps s.length cs)).setCell ⟨bo, 2, none⟩ (.slice none 0 0)).setCell ⟨bo, 3, none⟩ (.slice none 0 0)) (fun q _ _ hne => ⟨gg3 q (fun e => hne (by rw [e]; exact hxb)), fun e => hne (by rw [e]; exact hxb)⟩)
  have HGG := Lib.hid (And.intro gg1 (And.intro gg2 hOs2))
  have HBL := Lib.hid (show w2.heap.size ≤ bo from hbo.1)
  clear d0 d1 d2 d3 d4 d5 gg1 gg2 gg3 hOs2 hOs hbox hbo e9 hX hE
  generalize u 20 = z20 at *
  generalize u 23 = z23 at *
  generalize u 24 = z24 at *
  clear hvb hva
  clear u
  go_wp2_with fail
  refine OnlyN.mk ?_
  obtain ⟨gg1, gg2, hOs⟩ := HGG.out
  clear HGG q0 q1 q2 q3 f0 f1 f2 f3
  generalize (((w9.setCell ⟨bo, 0, none⟩ (.int .i64 kx)).setCell ⟨bo, 1, none⟩ (.slice ps s.length cs)).setCell ⟨bo, 2, none⟩ (.slice none 0 0)).setCell ⟨bo, 3, none⟩ (.slice none 0 0) = w6 at *
  have HE6 := Lib.hid gg1
  have HB6 := Lib.hid gg2
  have HO6 := Lib.hid hOs
  clear gg1 gg2 hOs
  go_wp2_with fail
  refine (HG.out w6 HE6.out).mono ?_
  rintro e w7 ⟨vo, rfl, hOo, hE5⟩
  rw [gradedV_up] at hOo
  have hgm : ∀ x ∈ grade (cmpF m) l, 0 ≤ x ∧ x < n := fun x hx => by have := grade_mem hx; rw [HN.out] at this; exact this
  have HGL : Hid ((grade (cmpF m) l).length = n) := hOo.1
  have HSG : Hid (∀ i, i < n → (sorted (cmpF m) l).getD i default = l.getD ((grade (cmpF m) l).getD i 0).toNat default) := fun i hi => grade_getD (by rw [HN.out]; exact hi)
  have HSL : Hid ((sorted (cmpF m) l).length = n) := by unfold Hid; rw [(sorted_perm _ _).length_eq]; exact HN.out
  have HGM := Lib.hid hgm
  obtain ⟨p5, c5, hv5, ⟨l5, l5', l5''⟩, hi5⟩ := hOo.ints
  rw [HGL.out] at hv5 l5 l5''
  subst hv5
  have HI5 : Hid (IntsAt (fun b => w6.heap.size ≤ b ∧ b < w7.heap.size) w7 p5 (grade (cmpF m) l)) := hi5.mono fun b hb hlt => ⟨⟨hb.1, hlt⟩, rfl⟩
  generalize grade (cmpF m) l = og at *
  generalize sorted (cmpF m) l = SL at *
  have HB6L := Lib.hid HB6.out.lt
  clear hOo hi5 hgm
  have HE7 := Lib.hid (HE6.out.trans hE5)
  have HEw := Lib.hid (HE.out.trans HE7.out)
  have hb7 := HB6.out.ext hE5
  have hbl : bo < w7.heap.size := hb7.lt
  have hwbo : w.heap.size + 1 < bo := by have := HBL.out; have := HBr.out.lt; omega
  have HW2 : Hid (w.heap.size + 1 < w2.heap.size) := HBr.out.lt
  have hM0 : MkR w w7 w7 (fun b => w.heap.size + 1 + 1 ≤ b) (fun x => x = bo) bo kx (.slice ps s.length cs) (.slice none 0 0) (.slice none 0 0) [] [] := MkR.fresh HEw.out (by omega) hb7 rfl (fun x hx => by rw [hx]; exact hbl) (fun b hb => by have := HBr.out.lt; have := HE7.out.lt; omega) HEw.out.lt
  have HM0 := Lib.hid hM0
  have HB7 := Lib.hid hb7
  have HBr7 := Lib.hid (HBr.out.ext HE7.out)
  have hO7 := HO6.out.ext hE5
  obtain ⟨ps', cs', hvz, hkz, hiz⟩ := hO7.ints
  simp only [Value.slice.injEq] at hvz
  obtain ⟨rfl, hz9, rfl⟩ := hvz
  have HOS := Lib.hid (hiz.mono (G := fun b => (w2.heap.size ≤ b ∧ b ≠ bo) ∧ b < w7.heap.size) (w' := w7) (fun b hb hlt => ⟨⟨hb, hlt⟩, rfl⟩))
  have HKZ := Lib.hid hkz
  clear hM0 hb7 hE5 hO7 hiz hkz HB6 HE6 HO6 HBr HG hz9
  go_wp2_with fail
  go_loopw [8] (fun iv wr => ∃ (i : Nat) (n' : List Int) (l' : List Arr) (v2 v3 : Value), iv = .int .i64 (i : Int) ∧ i ≤ n ∧ n'.length ≤ i * 65536 ∧ l'.length ≤ i * 65536 ∧ Hid (MkR w w7 wr (fun b => w.heap.size + 1 + 1 ≤ b) (fun x => x = bo) bo kx (.slice ps s.length cs) v2 v3 n' l') ∧
    Hid (n' = (SL.take i).flatMap Arr.n) ∧ Hid (l' = (SL.take i).flatMap Arr.it)) (fun iv _ => n - (intOf iv).toNat)
  case atStart => exact ⟨0, [], [], _, _, rfl, Nat.zero_le _, by simp, by simp, HM0.out, by simp [Hid], by simp [Hid]⟩
  case round =>
    obtain ⟨i, n', l', v2, v3, rfl, hin, hn1, hl1, HM, HGN, HGI⟩ := hrel
    clear HM0
    by_cases hlt : i < n
    · have hlt2 : i < og.length := by rw [HGL.out]; exact hlt
      have hlt3 : i < SL.length := by rw [HSL.out]; exact hlt
      have hk7 : ∀ b, b < w7.heap.size → b ≠ bo → wr.heap[b]? = w7.heap[b]? := fun b h1 h2 => HM.out.keep b h1 h2
      obtain ⟨b5, o5, hp5, hc5, _, _⟩ := (HI5.out.mono (G := fun _ => True) (w' := wr) (fun b hb _ => ⟨trivial, hk7 b hb.2 (by have := HB6L.out; omega)⟩)).get hlt2
      have hf5 : b5 < w7.heap.size ∧ w6.heap.size ≤ b5 := by
        obtain ⟨b5', o5', e, hb, _⟩ := HI5.out i hlt2
        rw [hp5] at e
        cases e
        exact ⟨hb.2, hb.1⟩
      have hgo := HGM.out (og.getD i 0) (by simp [List.getD, hlt2])
      have hsl := HSG.out i hlt
      obtain ⟨a, ha⟩ : ∃ a : Nat, og.getD i 0 = (a : Int) := ⟨(og.getD i 0).toNat, by omega⟩
      rw [ha] at hc5 hgo hsl
      rw [Int.toNat_natCast] at hsl
      have han : a < n := by omega
      have hal : a < l.length := by rw [HN.out]; exact han
      have hk2 : ∀ b, b < w2.heap.size → wr.heap[b]? = w2.heap[b]? := fun b hb => (hk7 b (by have := HE7.out.lt; omega) (by have := HBL.out; omega)).trans (HE7.out.block hb)
      obtain ⟨bi, oi, g0, g1, g2, g3, hpi, k0, k1, k2, k3, hga⟩ := HIT.out.getD hal
      have hbi : bi < w2.heap.size := World.block_lt_of_cell? w2 _ k0
      have hrt := (HGD.out (l.getD a default) (by simp [List.getD, hal])).2
      have hlen := right_lens hrt
      have hst : SL[i] = l.getD a default := by rw [← hsl]; simp [List.getD, hlt3]
      have HGN1 : Hid ((SL.take (i + 1)).flatMap Arr.n = n' ++ (l.getD a default).n) := by
        unfold Hid
        rw [HGN.out, List.take_add_one, List.getElem?_eq_getElem hlt3, List.flatMap_append, hst]
        show _ ++ ((l.getD a default).n ++ []) = _
        rw [List.append_nil]
      have HGI1 : Hid ((SL.take (i + 1)).flatMap Arr.it = l' ++ (l.getD a default).it) := by
        unfold Hid
        rw [HGI.out, List.take_add_one, List.getElem?_eq_getElem hlt3, List.flatMap_append, hst]
        show _ ++ ((l.getD a default).it ++ []) = _
        rw [List.append_nil]
      clear HGN HGI hst hsl hrt hgo ha
      generalize l.getD a default = t at *
      obtain ⟨kc, sr, xs, ys⟩ := t
      unfold ArrAt at hga
      obtain ⟨rfl, _, ⟨z1, r1, rfl, _, _⟩, ⟨z2, r2, rfl, hu2, j2⟩, ⟨z3, r3, rfl, hu3, j3⟩⟩ := hga
      simp only [Arr.n, Arr.it] at hlen HGN1 HGI1
      obtain ⟨hxl, hyl⟩ := hlen
      subst hpi
      subst hp5
      have hd : Ext wr wr.drew := (Ext.refl _).drew
      have HXS := Lib.hid ((j2.mono (G := fun b => w.heap.size + 1 + 1 ≤ b ∧ b < w2.heap.size) (w' := wr) (fun b hb _ => ⟨hb, hk2 b hb.2⟩)).ext hd)
      have HYS := Lib.hid ((ItemsAt.mono (G := fun b => w.heap.size + 1 + 1 ≤ b ∧ b < w2.heap.size) (w' := wr) (fun b hb _ => ⟨hb, hk2 b hb.2⟩) _ _ _ j3).ext hd)
      have hx2 : wr.drew.cell? ⟨bi, oi + a * 4 + 2, none⟩ = some (.slice z2 xs.length r2) := (World.cell?_of_block (w := w2) (w' := wr) (a := ⟨bi, oi + a * 4 + 2, none⟩) (hk2 bi hbi)).trans k2
      have hx3 : wr.drew.cell? ⟨bi, oi + a * 4 + 3, none⟩ = some (.slice z3 ys.length r3) := (World.cell?_of_block (w := w2) (w' := wr) (a := ⟨bi, oi + a * 4 + 3, none⟩) (hk2 bi hbi)).trans k3
      have HM2 := Lib.hid (HM.out.next hd)
      have HC5 : Hid (wr.drew.cell? ⟨b5, o5 + i, none⟩ = some (.int .i64 (a : Int))) := hc5
      have HX2 := Lib.hid hx2
      have HX3 := Lib.hid hx3
      have hwlt : w7.heap.size ≤ wr.heap.size := HM.out.wl
      have h2lt : ∀ q, v2.ownBlock = some q → q < wr.heap.size ∧ w7.heap.size ≤ q := fun q hq => ⟨(HM.out.on.2.2.1.lt q hq).2, (HM.out.on.2.2.1.lt q hq).1⟩
      have H2LT := Lib.hid h2lt
      have HF5 := Lib.hid hf5
      have HBI := Lib.hid (show bi < w7.heap.size ∧ bi ≠ bo from ⟨by have := HE7.out.lt; omega, by have := HBL.out; omega⟩)
      have H5O := Lib.hid (show b5 ≠ bo by have := HB6L.out; omega)
      have hmul : n'.length + xs.length ≤ (i + 1) * 65536 ∧ l'.length + ys.length ≤ (i + 1) * 65536 ∧ (i + 1) * 65536 ≤ 4294967296 := by
        have := Nat.mul_le_mul_right 65536 (show i + 1 ≤ 65536 by omega)
        rw [Nat.succ_mul] at this ⊢
        omega
      obtain ⟨hm1, hm2, hm3⟩ := hmul
      clear HM j2 j3 hk2 hk7 h2lt hxl hyl hn1 hl1 hd hx2 hx3 hc5 hf5 k0 k1 k2 k3 hbi hal hlt2 hlt3
      go_wp2_with fail
      have hS0 : wr.drew.cell? ⟨bo, 2, none⟩ = some v2 ∧ wr.drew.cell? ⟨b5, o5 + i, none⟩ = some (.int .i64 (a : Int)) ∧ wr.drew.cell? ⟨bi, oi + a * 4 + 2, none⟩ = some (.slice z2 xs.length r2) := ⟨HM2.out.box.cell.2.2.1, HC5.out, HX2.out⟩
      refine wp_region_g [0, 1, 2, 3, 4, 5, 6, 7, 8, 9] [10, 11, 12] (fun w' => w'.cell? ⟨bo, 2, none⟩ = some v2 ∧ w'.cell? ⟨b5, o5 + i, none⟩ = some (.int .i64 (a : Int)) ∧ w'.cell? ⟨bi, oi + a * 4 + 2, none⟩ = some (.slice z2 xs.length r2)) (by kernel_rfl) (by kernel_rfl) hS0 ?_
      iterate 10
        refine wpHead_cons (v := ?_) rfl (by rfl) (fun w' hS => ?_) ?_
        rotate_left
        · obtain ⟨e0, e1, e2⟩ := hS
          go_simp
          try with_reducible rfl
        try simp only [Act.put, List.setIfInBounds_toArray, List.set]
      unfold wpHead
      refine wpTail_cons rfl (fun K hK => ?_)
      refine wpList_append_ints rfl _ _ rfl (fun b => w.heap.size + 1 + 1 ≤ b ∧ b < w2.heap.size) w7.heap.size _ v2 n'.length n' z2 r2 xs rfl HM2.out.on rfl HXS.out HM2.out.xl2 (by omega) HM2.out.wl ?_
      intro v2' w8 hO8 hgrow hat8
      have hS8 : w8.cell? ⟨bo, 2, none⟩ = some v2 ∧ w8.cell? ⟨b5, o5 + i, none⟩ = some (.int .i64 (a : Int)) ∧ w8.cell? ⟨bi, oi + a * 4 + 2, none⟩ = some (.slice z2 xs.length r2) ∧ w8.cell? ⟨bi, oi + a * 4 + 3, none⟩ = some (.slice z3 ys.length r3) := by
        have far : ∀ q, q < w7.heap.size → w8.heap[q]? = wr.drew.heap[q]? := fun q hq => hgrow.block q (Nat.lt_of_lt_of_le hq hwlt) (fun e => by have := (H2LT.out q e.symm).2; omega)
        refine ⟨(HM2.out.grownN hgrow).2.1.cell.2.2.1, (World.cell?_of_block (far b5 HF5.out.1)).trans HC5.out, (World.cell?_of_block (far bi HBI.out.1)).trans HX2.out, (World.cell?_of_block (far bi HBI.out.1)).trans HX3.out⟩
      refine hK _ _ ⟨hS8.1, hS8.2.1, hS8.2.2.1⟩ ?_
      clear hK
      try simp only [Act.put, List.setIfInBounds_toArray, List.set]
      refine wpTail_free2 rfl rfl (by kernel_rfl) ?_
      obtain ⟨pv2, cv2, rfl, _⟩ := hO8.form
      obtain ⟨r1', r2', r3'⟩ := HM2.out.grownN hgrow
      obtain ⟨_, _, t2, _⟩ := r2'.cell
      have tf := r2'.free 2
      rw [← List.length_append] at hO8 hat8 ⊢
      rw [← List.length_append] at hm1
      generalize hnx : n' ++ xs = nx' at *
      have HGN3 := Lib.hid HGN1.out.symm
      clear hnx HGN1
      have hM8 := HM2.out.storedN' hgrow hO8 hat8
      have hsc : ∀ (q k : Nat) (u : Value), q ≠ bo → w8.cell? ⟨q, k, none⟩ = some u → (w8.setCell ⟨bo, 2, none⟩ (.slice pv2 nx'.length cv2)).cell? ⟨q, k, none⟩ = some u := fun q k u hq hu => (World.cell?_of_block (w := w8) (a := ⟨q, k, none⟩) (Below.heap_setCell _ _ _ _ (show q ≠ bo from hq))).trans hu
      have hY5 := hsc b5 (o5 + i) _ H5O.out hS8.2.1
      have hY3 := hsc bi (oi + a * 4 + 3) _ HBI.out.2 hS8.2.2.2
      have HYS8 := Lib.hid (ItemsAt.mono (G := fun b => w.heap.size + 1 + 1 ≤ b ∧ b < w2.heap.size) (w' := w8.setCell ⟨bo, 2, none⟩ (.slice pv2 nx'.length cv2)) (fun b hb hlt => ⟨hb, (Below.heap_setCell _ _ _ _ (show b ≠ bo by have := HBL.out; have := hb.2; omega)).trans (hgrow.block b hlt (fun e => by have := (H2LT.out b e.symm).2; have := HE7.out.lt; have := hb.2; omega))⟩) _ _ _ HYS.out)
      have HM8 := Lib.hid hM8
      have HY5 := Lib.hid hY5
      have HY3 := Lib.hid hY3
      clear hO8 hgrow hat8 r1' r2' r3' hM8 HM2 HYS H2LT HXS HX2 HX3 HC5 hS0 hS8 hsc hY5 hY3
      go_wp2_with fail
      refine OnlyN.mk ?_
      (try simp only [Exit.inBlock, Exit.then])
      generalize w8.setCell ⟨bo, 2, none⟩ (.slice pv2 nx'.length cv2) = wk at *
      clear tf t2
      have hd : Ext wk wk.drew := (Ext.refl _).drew
      have HM9 := Lib.hid (HM8.out.next hd)
      have HYS9 := Lib.hid (HYS8.out.ext hd)
      have HF8 : Hid (∀ b, (w.heap.size + 1 + 1 ≤ b ∧ b < w2.heap.size) → b < wk.drew.heap.size → ApartR (fun b => w.heap.size + 1 + 1 ≤ b) (fun x => x = bo ∨ (Value.slice pv2 nx'.length cv2).ownBlock = some x) v3 b) := fun b hb _ => HM9.out.apart b hb.1 (.inl ⟨by have := HE7.out.lt; omega, by have := HBL.out; omega⟩)
      have hwlk : w7.heap.size ≤ wk.heap.size := HM8.out.wl
      have H3LT : Hid (∀ q, v3.ownBlock = some q → q < wk.heap.size ∧ w7.heap.size ≤ q) := fun q hq => by
        obtain ⟨_, _, cells, hr, _⟩ := HM8.out.oi
        exact ⟨(hr.lt q hq).2, (hr.lt q hq).1⟩
      clear HM8 HYS8 hd
      go_wp2_with fail
      have hS0 : wk.drew.cell? ⟨bo, 3, none⟩ = some v3 ∧ wk.drew.cell? ⟨b5, o5 + i, none⟩ = some (.int .i64 (a : Int)) ∧ wk.drew.cell? ⟨bi, oi + a * 4 + 3, none⟩ = some (.slice z3 ys.length r3) := ⟨HM9.out.box.cell.2.2.2, HY5.out, HY3.out⟩
      refine wp_region_g [0, 1, 2, 3, 4, 5, 6, 7, 8, 9] [10, 11, 12] (fun w' => w'.cell? ⟨bo, 3, none⟩ = some v3 ∧ w'.cell? ⟨b5, o5 + i, none⟩ = some (.int .i64 (a : Int)) ∧ w'.cell? ⟨bi, oi + a * 4 + 3, none⟩ = some (.slice z3 ys.length r3)) (by kernel_rfl) (by kernel_rfl) hS0 ?_
      iterate 10
        refine wpHead_cons (v := ?_) rfl (by rfl) (fun w' hS => ?_) ?_
        rotate_left
        · obtain ⟨e0, e1, e2⟩ := hS
          go_simp
          try with_reducible rfl
        try simp only [Act.put, List.setIfInBounds_toArray, List.set]
      unfold wpHead
      refine wpTail_cons rfl (fun K hK => ?_)
      refine wpList_append_arrsR rfl _ _ rfl (fun b => w.heap.size + 1 + 1 ≤ b ∧ b < w2.heap.size) w7.heap.size (fun b => w.heap.size + 1 + 1 ≤ b) _ v3 l'.length l' z3 r3 ys rfl HM9.out.oi rfl HYS9.out HF8.out HM9.out.xl3 (by omega) HM9.out.wl ?_
      intro v3' w9 hO9 hgrow9 hat9
      have far : ∀ q, q < w7.heap.size → w9.heap[q]? = wk.drew.heap[q]? := fun q hq => hgrow9.block q (Nat.lt_of_lt_of_le hq hwlk) (fun e => by have := (H3LT.out q e.symm).2; omega)
      refine hK _ _ ⟨(HM9.out.grownI hgrow9).2.1.cell.2.2.2, (World.cell?_of_block (far b5 HF5.out.1)).trans HY5.out, (World.cell?_of_block (far bi HBI.out.1)).trans HY3.out⟩ ?_
      clear hK far
      try simp only [Act.put, List.setIfInBounds_toArray, List.set]
      refine wpTail_free2 rfl rfl (by kernel_rfl) ?_
      obtain ⟨pv3, cv3, rfl, _⟩ := hO9.form
      obtain ⟨r1', r2', r3'⟩ := HM9.out.grownI hgrow9
      obtain ⟨_, _, _, t3⟩ := r2'.cell
      have tf := r2'.free 3
      rw [← List.length_append] at hO9 hat9 hm2 ⊢
      generalize hly : l' ++ ys = ly at *
      have HGI3 := Lib.hid HGI1.out.symm
      clear hly HGI1
      have hM10 := HM9.out.storedI' hgrow9 hO9 hat9
      have HM10 := Lib.hid hM10
      clear hO9 hgrow9 hat9 r1' r2' r3' hM10 HM9 HF8 HYS9 hS0 H3LT HY5 HY3
      go_wp2_with fail
      refine OnlyN.mk ?_
      (try simp only [Exit.inBlock, Exit.then])
      go_wp2_with fail
      go_roundw
      case rel => exact ⟨i + 1, nx', ly, _, _, by go_num, by omega, hm1, hm2, HM10.out, HGN3, HGI3⟩
      case measure => simp [intOf]; omega
    · have hin2 : i = n := by omega
      subst hin2
      have hM := HM.out
      have hgn := HGN.out
      have hgi := HGI.out
      rw [List.take_of_length_le (by rw [HSL.out]; omega)] at hgn hgi
      have HV3 : Hid (gv = .mk kx s n' l') := by unfold Hid; rw [HV2.out, hgn, hgi]
      have hmul : l'.length ≤ 4294967296 := by
        have := Nat.mul_le_mul_right 65536 h6
        omega
      obtain ⟨pa, ca, hv2, _, _⟩ := hM.on.ints
      subst hv2
      obtain ⟨pb, cb, hv3, _, _⟩ := hM.oi.items hM.rr (by omega)
      subst hv3
      have hA := MkR.arr (G := fun b => w2.heap.size ≤ b ∧ b ≠ bo) hM hkx ⟨ps, cs, rfl, HKZ.out, HOS.out.mono fun b hb hlt => ⟨hb.1, hM.keep b hb.2 hb.1.2⟩⟩ (by omega)
      have hwl := hM.wl
      have hBr := HBr7.out.kept (hM.keep (w.heap.size + 1) (by omega) (by omega))
      have HA := Lib.hid hA
      have HBR := Lib.hid hBr
      have HEM := Lib.hid hM.ext
      have HKP := Lib.hid (fun q (h1 : q < w7.heap.size) (h2 : q ≠ bo) => hM.keep q h1 h2)
      obtain ⟨q0, q1, q2, q3⟩ := hM.box.cell
      obtain ⟨x0, x1, x2, x3⟩ := hBr.cell
      have y0 := hBr.free 0
      have y1 := hBr.free 1
      have y2 := hBr.free 2
      have y3 := hBr.free 3
      clear hA hBr hM hgn hgi HGN HGI HM hmul hn1 hl1
      go_wp2_with fail
      obtain ⟨g1, g2, g3⟩ := HBR.out.put4 HEM.out (by omega) (.int .i64 kx) (.slice ps s.length cs) (.slice pa n'.length ca) (.slice pb l'.length cb)
      revert g1 g2 g3
      generalize ((((wr.setCell ⟨w.heap.size + 1, 0, none⟩ (.int .i64 kx)).setCell ⟨w.heap.size + 1, 1, none⟩ (.slice ps s.length cs)).setCell ⟨w.heap.size + 1, 2, none⟩ (.slice pa n'.length ca)).setCell ⟨w.heap.size + 1, 3, none⟩ (.slice pb l'.length cb)) = w9
      intro g1 g2 g3
      obtain ⟨z0, z1, z2, z3⟩ := g2.cell
      have hA9 := ArrAt.mono (G := fun b => w.heap.size ≤ b) (w' := w9) (fun b hb _ => ⟨by have := HW2.out; rcases hb with hb | hb <;> omega, g3 b (by have := HW2.out; rcases hb with hb | hb; have := hb.1; omega; have := HBL.out; have := hb.1; omega)⟩) _ _ _ _ _ HA.out
      rw [← HV3.out] at hA9
      refine bodyPost_ret (v := .tuple #[.agg #[.int .i64 kx, .slice ps s.length cs, .slice pa n'.length ca, .slice pb l'.length cb], .int .i64 0]) ?_ rfl ⟨_, _, _, _, by first | rfl | rw [HE1.out], hA9, g1⟩
      simp [results, Try.results38, go_sem, z0, z1, z2, z3]
end Go.Proofs.Ytgeppialbkijiaa
