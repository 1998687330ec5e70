/-
  THE WALK of law04.CellJoins: it returns true, and turns nothing that was there. (Printed by gen_celljoins.py.)
-/
import Derived.Test.YtmpjnjhiklaofaaRPM
import Derived.Test.YtmpjnjhiklaofaaCJoin
import Derived.Test.YtmpjnjhiklaofaaBackP
import Derived.Test.YtmpjnjhiklaofaaCellAwk
namespace Go.Proofs.Ytmpjnjhiklaofaa
set_option linter.unusedSimpArgs false
set_option linter.unusedVariables false
open Go.RowKit

theorem joinV_wrong {frame : List Int} {l : List Arr} {like : Arr} {n : Int} (h : wrongV frame l like = n) (hn : n ≠ 0) : joinV frame l like = (Arr.zero, n) := by
  unfold joinV
  rw [if_pos (by rw [h]; exact hn), h]
theorem wrongV_frame {frame : List Int} {l : List Arr} {like : Arr} (h : shapeRight frame = false ∨ (l.length : Int) ≠ shapeSize frame) : wrongV frame l like = 1 := by
  unfold wrongV
  rw [if_pos (by rcases h with h | h; exact .inl h; exact .inr (.inl h))]
theorem wrongV_cell {frame : List Int} {l : List Arr} {like : Arr} {x : Arr} (hx : x ∈ l) (h : rightV x ≠ 0) : wrongV frame l like = 1 := by
  unfold wrongV
  split
  · rfl
  · rw [if_pos]
    rw [List.all_eq_false]
    exact ⟨x, hx, by simpa using h⟩
theorem wrongV_kind {frame : List Int} {l : List Arr} {like x : Arr} (h1 : shapeRight frame = true) (h2 : shapeSize frame = (l.length : Int)) (h0 : l ≠ []) (h3 : ∀ x ∈ l, rightV x = 0) (hx : x ∈ l) (hk : x.k ≠ (l.headD default).k) : wrongV frame l like = 14 := by
  unfold wrongV
  have ha : l.all (fun x => rightV x == 0) = true := List.all_eq_true.2 fun y hy => by simpa using h3 y hy
  rw [if_neg, if_neg, if_pos]
  · rw [List.all_eq_false]
    exact ⟨x, hx, by simpa using hk⟩
  · rw [ha]; simp
  · rintro (h | h | h)
    · rw [h1] at h; cases h
    · exact h h2.symm
    · exact h0 h.1
theorem wrongV_ok {frame : List Int} {l : List Arr} {like : Arr} (h1 : shapeRight frame = true) (h2 : shapeSize frame = (l.length : Int)) (h0 : l ≠ []) (h3 : ∀ x ∈ l, rightV x = 0) (h4 : ∀ x ∈ l, x.k = (l.headD default).k) : wrongV frame l like = 0 := by
  unfold wrongV
  have ha : l.all (fun x => rightV x == 0) = true := List.all_eq_true.2 fun y hy => by simpa using h3 y hy
  have hb : l.all (fun x => x.k == (l.headD default).k) = true := List.all_eq_true.2 fun y hy => by simpa using h4 y hy
  rw [if_neg, if_neg, if_neg]
  · rw [hb]; simp
  · rw [ha]; simp
  · rintro (h | h | h)
    · rw [h1] at h; cases h
    · exact h h2.symm
    · exact h0 h.1
theorem joinV_ok {frame : List Int} {l : List Arr} {like : Arr} (h : wrongV frame l like = 0) (h0 : l ≠ []) : joinV frame l like = if shapeRight (frame ++ commonV l) = false then (Arr.zero, 21) else if rightV (joinedV frame l) = 0 then (joinedV frame l, 0) else (Arr.zero, 21) := by
  unfold joinV
  rw [if_neg (by rw [h]; simp), if_neg h0]
theorem wrongV_like {frame : List Int} {l : List Arr} {like : Arr} (hl : l = []) (h : rightV like ≠ 0) : wrongV frame l like = 1 := by
  unfold wrongV
  rw [if_pos (.inr (.inr ⟨hl, h⟩))]
theorem right_none {x : Arr} {t : List Int} (h : rightV x = 0) (ht : shapeRight t = true) (hz : shapeSize t = 0) : rightV (.mk x.k t [] []) = 0 := by
  obtain ⟨k, s, n, it⟩ := x
  have := part_right h 0 0 t ht (by rw [hz]; rfl) (fun _ => by omega) (fun _ => by omega)
  unfold partV at this
  simpa [Arr.k] using this
theorem joinV_none {frame : List Int} {l : List Arr} {like : Arr} (h1 : shapeRight frame = true) (h2 : shapeSize frame = 0) (h3 : l = []) (h4 : rightV like = 0) :
    joinV frame l like = (if rightV (.mk like.k (frame ++ like.sh) [] []) = 0 then .mk like.k (frame ++ like.sh) [] [] else Arr.zero, if rightV (.mk like.k (frame ++ like.sh) [] []) = 0 then 0 else 21) := by
  subst h3
  have hw : wrongV frame [] like = 0 := by
    unfold wrongV
    rw [if_neg, if_neg, if_neg]
    · simp
    · simp
    · rintro (h | h | h)
      · rw [h1] at h; cases h
      · exact h (by rw [h2]; rfl)
      · exact h.2 h4
  unfold joinV
  rw [if_neg (by rw [hw]; simp), if_pos rfl]
  by_cases hs : shapeRight (frame ++ like.sh) = true
  · have hz : shapeSize (frame ++ like.sh) = 0 := by
      have hg := shapeRight_go hs
      have := (size_split hg.1 hg.2 frame.length).1
      rw [List.take_left, h2, Int.zero_mul] at this
      exact this
    have hr := right_none h4 hs hz
    rw [if_pos hs, if_pos hr, if_pos hr]
  · have hr : ¬ rightV (.mk like.k (frame ++ like.sh) [] []) = 0 := fun h => hs (by have := right_parts h; unfold shapeRight; rw [this.2.2.1, Bool.and_true]; simpa using this.2.1)
    rw [if_neg hs, if_neg hr, if_neg hr]
theorem lead_prodA : ∀ (n : Nat) (s : List Int), prodA 1 (List.replicate n 1 ++ s) = prodA 1 s
  | 0, s => by simp
  | n + 1, s => by
    rw [List.replicate_succ, List.cons_append, prodA, if_neg (by decide), Int.one_mul]
    exact lead_prodA n s
theorem cell_count {k : Int} {s n : List Int} {it : List Arr} (h : rightV (.mk k s n it) = 0) : (if k = 3 then it.length else n.length) = (prodA 1 s).toNat ∧ (if k = 3 then it.length else n.length) ≤ 65536 := by
  obtain ⟨h1, h2, h3, h4, h5⟩ := right_parts h
  have h6 := size_prodA h3 h2
  have h7 := prodA_le s 1 (by omega) (by omega) h3
  by_cases hk : k = 3
  · rw [if_pos hk]; have := (h5 hk).2; omega
  · rw [if_neg hk]; have := (h4 hk).2; omega
theorem put_padV {k : Int} {s nx n o : List Int} {ix it : List Arr} {j : Nat} (hj : o.length = j) (hr : shapeRight o = true) (hf : FrOk (leadV s j) o) :
    (if k = 3 then n else n ++ rputV (fun i => nx.getD i 0) (padN k) (leadV s j) o 0) = n ++ (padV (.mk k s nx ix) o).n ∧ (if k = 3 then it ++ rputV (fun i => ix.getD i default) padI (leadV s j) o 0 else it) = it ++ (padV (.mk k s nx ix) o).it := by
  subst hj
  simp only [padV, Arr.n, Arr.it]
  rw [rput_eq _ _ _ _ hr hf, rput_eq _ _ _ _ hr hf]
  constructor <;> split <;> simp
theorem rj_next {w0 wr w9 w10 w11 : World} {bo ns : Nat} {k : Int} {v1 v2 v3 v4 v5 : Value} {n n' sh : List Int} {l l' : List Arr} (hM : MkB w0 wr (fun x => x = bo ∨ v1.ownBlock = some x) bo k v1 v2 v3 n l)
    (hS : OwnI w0.heap.size (fun x => x = bo) wr v1 ns sh) (e9 : Ext wr w9) (hkp : Kp w0 (fun x => x = bo ∨ v1.ownBlock = some x ∨ (wr.heap.size ≤ x ∧ x < w9.heap.size)) w9 w10)
    (hO1 : OwnI w0.heap.size (fun x => (x = bo ∨ v1.ownBlock = some x ∨ (wr.heap.size ≤ x ∧ x < w9.heap.size)) ∨ v5.ownBlock = some x) w10 v4 n'.length n')
    (hO2 : OwnA w0.heap.size (fun x => (x = bo ∨ v1.ownBlock = some x ∨ (wr.heap.size ≤ x ∧ x < w9.heap.size)) ∨ v4.ownBlock = some x) w10 v5 l'.length l')
    (gg1 : Ext w0 w11) (gg2 : Box4 w11 bo (.int .i64 k) v1 v4 v5) (gg3 : ∀ q, q ≠ bo → w11.heap[q]? = w10.heap[q]?) :
    MkB w0 w11 (fun x => x = bo ∨ v1.ownBlock = some x) bo k v1 v4 v5 n' l' ∧ OwnI w0.heap.size (fun x => x = bo) w11 v1 ns sh := by
  have hS9 := hS.ext e9
  have hS11 : OwnI w0.heap.size (fun x => x = bo) w11 v1 ns sh := hS9.same fun g hg _ hx => ⟨(gg3 g hx).trans (hkp.2 g (.inl (.inr (.inl hg)))), hx⟩
  refine ⟨⟨gg1, hM.le, gg2, .inl rfl, fun x hx => ?_, hO1.same fun g hg _ hx => ⟨gg3 g fun e => hx (.inl (.inl e)), fun h => hx ?_⟩, hO2.same fun g _ _ hx => ⟨gg3 g fun e => hx (.inl (.inl e)), fun h => hx ?_⟩⟩, hS11⟩
  · rcases hx with rfl | hx
    · exact gg2.lt
    · exact (hS11.2.2.1.lt x hx).2
  · rcases h with (h | h) | h
    · exact .inl (.inl h)
    · exact .inl (.inr (.inl h))
    · exact .inr h
  · rcases h with (h | h) | h
    · exact .inl (.inl h)
    · exact .inl (.inr (.inl h))
    · exact .inr h
def MProp.rdn (B : Nat) (l : List Int) : MProp := ⟨fun _ w v => ∃ p c, v = .slice p l.length c ∧ SlOk l.length c ∧ IntsAt (fun b => B ≤ b ∧ b < w.heap.size) w p l, fun _ _ _ _ _ e _ h => by
  obtain ⟨p, c, h1, h2, h3⟩ := h
  exact ⟨p, c, h1, h2, h3.mono fun b hb hlt => ⟨⟨hb.1, Nat.lt_of_lt_of_le hlt e.lt⟩, e.block hlt⟩⟩⟩
set_option maxRecDepth 1000000 in
set_option maxHeartbeats 8000000 in
theorem rjoin_any (F G H : Nat → Prop) (frame : List Int) (pf : Option Addr) (cf : Nat) (l : List Arr) (pl : Option Addr) (cl : Nat) (like : Arr) (d0 d1 d2 d3 : Value) (w : World) (hf : IntsAt F w pf frame) (hfo : SlOk frame.length cf) (hl : ItemsAt G w pl 0 l) (hlo : ItOk l.length cl) (hk : ArrAt H w like d0 d1 d2 d3) :
    Calls Try.prog 48 #[.slice pf frame.length cf, .slice pl l.length cl, .agg #[d0, d1, d2, d3]] w fun e w' => ∃ e0 e1 e2 e3, e = .returned (.tuple #[.agg #[e0, e1, e2, e3], .int .i64 (joinV frame l like).2]) ∧ ArrAt (fun _ => True) w' (joinV frame l like).1 e0 e1 e2 e3 ∧ Ext w w' := by
  obtain ⟨o1, o1', o1''⟩ := hfo
  obtain ⟨l1, l1', l1''⟩ := hlo
  obtain ⟨rt, re, hj⟩ : ∃ rt re, joinV frame l like = (rt, re) := ⟨_, _, rfl⟩
  rw [hj]
  have HJV := Lib.hid hj
  have HF := Lib.hid hf
  have HL := Lib.hid (ItemsAt.mono (G := fun b => b < w.heap.size) (w' := w) (fun b _ hlt => ⟨hlt, rfl⟩) _ _ _ hl)
  have HK := Lib.hid hk
  obtain ⟨kk, k1, kl1, kc1, k2, kl2, kc2, k3, kl3, kc3, rfl, rfl, rfl, rfl⟩ := hk.form
  clear hj hf hl hk
  have hE0 : Ext w ((w.alloc (.cells #[.int .i64 kk, .slice k1 kl1 kc1, .slice k2 kl2 kc2, .slice k3 kl3 kc3] 26)).alloc (.cells #[.int .i64 0, .slice none 0 0, .slice none 0 0, .slice none 0 0] 26)) := ((Ext.refl _).alloc _).alloc _
  have hB := (box_new w (.int .i64 kk) (.slice k1 kl1 kc1) (.slice k2 kl2 kc2) (.slice k3 kl3 kc3)).ext ((Ext.refl _).alloc (.cells #[.int .i64 0, .slice none 0 0, .slice none 0 0, .slice none 0 0] 26))
  have hR := box_new (w.alloc (.cells #[.int .i64 kk, .slice k1 kl1 kc1, .slice k2 kl2 kc2, .slice k3 kl3 kc3] 26)) (.int .i64 0) (.slice none 0 0) (.slice none 0 0) (.slice none 0 0)
  rw [World.size_alloc] at hR
  have HE := Lib.hid hE0
  have HBk := Lib.hid hB
  have HBr := Lib.hid hR
  clear hE0 hB hR
  go_enter Try.func48, Try.ntmps48
  go_wp2_with fail
  generalize (w.alloc (.cells #[.int .i64 kk, .slice k1 kl1 kc1, .slice k2 kl2 kc2, .slice k3 kl3 kc3] 26)).alloc (.cells #[.int .i64 0, .slice none 0 0, .slice none 0 0, .slice none 0 0] 26) = w1 at *
  have hrg := r2right_any F pf cf frame w1 (HF.out.ext HE.out) (by unfold lenMax; omega)
  refine hrg.mono ?_
  rintro e w1' ⟨rfl, rfl⟩
  clear hrg
  by_cases hsr : shapeRight frame = true
  rotate_left
  · have hsf : shapeRight frame = false := by simpa using hsr
    have HSF := Lib.hid hsf
    rw [hsf]
    clear hsr hsf
    have hjv : rt = Arr.zero ∧ re = 1 := by have h := HJV.out; rw [joinV_wrong (wrongV_frame (.inl HSF.out)) (by omega)] at h; exact ⟨(Prod.mk.inj h).1.symm, (Prod.mk.inj h).2.symm⟩
    obtain ⟨rfl, rfl⟩ := hjv
    clear HJV
    have hbr9 := HBr.out
    obtain ⟨x0, x1, x2, x3⟩ := hbr9.cell
    have y0 := hbr9.free 0
    have y1 := hbr9.free 1
    have y2 := hbr9.free 2
    have y3 := hbr9.free 3
    obtain ⟨gg3, gg4, gg5⟩ := hbr9.put4 HE.out (by omega) (.int .i64 0) (.slice none 0 0) (.slice none 0 0) (.slice none 0 0)
    have HG := Lib.hid (And.intro gg3 gg4)
    clear gg3 gg4 gg5 hbr9
    go_wp2_with fail
    obtain ⟨gg3, gg4⟩ := HG.out
    clear HG
    generalize ((((w1.setCell ⟨w.heap.size + 1, 0, none⟩ (.int .i64 0)).setCell ⟨w.heap.size + 1, 1, none⟩ (.slice none 0 0)).setCell ⟨w.heap.size + 1, 2, none⟩ (.slice none 0 0)).setCell ⟨w.heap.size + 1, 3, none⟩ (.slice none 0 0)) = wz at *
    obtain ⟨z0, z1, z2, z3⟩ := gg4.cell
    refine bodyPost_ret (v := .tuple #[.agg #[.int .i64 0, .slice none 0 0, .slice none 0 0, .slice none 0 0], .int .i64 1]) ?_ rfl ⟨.int .i64 0, .slice none 0 0, .slice none 0 0, .slice none 0 0, rfl, Arr.zero_at _ _, gg3⟩
    simp [results, Try.results48, go_sem, z0, z1, z2, z3]
  have HSR := Lib.hid hsr
  rw [hsr]
  clear hsr
  go_wp2_with fail
  refine (r2size_any F pf cf frame w1 (HF.out.ext HE.out) (by unfold lenMax; omega)).mono ?_
  rintro e w1' ⟨rfl, rfl⟩
  by_cases hsz : shapeSize frame = (l.length : Int)
  rotate_left
  · have HSZ := Lib.hid hsz
    have hsz' : (shapeSize frame != (l.length : Int)) = true := by simpa using hsz
    have HWF : Hid (wrongV frame l like = 1) := Lib.hid (wrongV_frame (.inr (fun e => hsz e.symm)))
    generalize shapeSize frame = sz at *
    clear hsz HSZ
    have hjv : rt = Arr.zero ∧ re = 1 := by have h := HJV.out; rw [joinV_wrong HWF.out (by omega)] at h; exact ⟨(Prod.mk.inj h).1.symm, (Prod.mk.inj h).2.symm⟩
    obtain ⟨rfl, rfl⟩ := hjv
    clear HJV
    have hbr9 := HBr.out
    obtain ⟨x0, x1, x2, x3⟩ := hbr9.cell
    have y0 := hbr9.free 0
    have y1 := hbr9.free 1
    have y2 := hbr9.free 2
    have y3 := hbr9.free 3
    obtain ⟨gg3, gg4, gg5⟩ := hbr9.put4 HE.out (by omega) (.int .i64 0) (.slice none 0 0) (.slice none 0 0) (.slice none 0 0)
    have HG := Lib.hid (And.intro gg3 gg4)
    clear gg3 gg4 gg5 hbr9
    go_wp2_with fail
    obtain ⟨gg3, gg4⟩ := HG.out
    clear HG
    generalize ((((w1.setCell ⟨w.heap.size + 1, 0, none⟩ (.int .i64 0)).setCell ⟨w.heap.size + 1, 1, none⟩ (.slice none 0 0)).setCell ⟨w.heap.size + 1, 2, none⟩ (.slice none 0 0)).setCell ⟨w.heap.size + 1, 3, none⟩ (.slice none 0 0)) = wz at *
    obtain ⟨z0, z1, z2, z3⟩ := gg4.cell
    refine bodyPost_ret (v := .tuple #[.agg #[.int .i64 0, .slice none 0 0, .slice none 0 0, .slice none 0 0], .int .i64 1]) ?_ rfl ⟨.int .i64 0, .slice none 0 0, .slice none 0 0, .slice none 0 0, rfl, Arr.zero_at _ _, gg3⟩
    simp [results, Try.results48, go_sem, z0, z1, z2, z3]
  have HSZ := Lib.hid hsz
  rw [hsz]
  clear hsz
  go_wp2_with fail
  go_loopw [8, 9] (fun mv iv wr => ∃ (i m : Nat), mv = .int .i64 (m : Int) ∧ iv = .int .i64 (i : Int) ∧ i ≤ l.length ∧ m ≤ 8 ∧ Ext w1 wr ∧ Hid (rankMax m (l.drop i) = rankMax 0 l) ∧ Hid (∀ x ∈ l.take i, rightV x = 0)) (fun _ iv _ => l.length - (intOf iv).toNat)
  case atStart => exact ⟨0, 0, rfl, rfl, Nat.zero_le _, by omega, Ext.refl _, Lib.hid (by rw [List.drop_zero]), Lib.hid (by simp)⟩
  case round =>
  obtain ⟨i, m, rfl, rfl, hil, hm8, hE, HRi, HTi⟩ := hrel
  obtain ⟨wo, rfl⟩ : ∃ wx : World, wx = wr := ⟨_, rfl⟩
  by_cases hlt : i < l.length
  · obtain ⟨b, off, c0, c1, c2, c3, rfl, _, g0, g1, g2, g3, hx⟩ := ItemsAt.get l _ 0 i (HL.out.ext (HE.out.trans hE)) hlt
    rw [Nat.zero_add] at g0 g1 g2 g3
    have hxm : l[i] ∈ l := List.getElem_mem hlt
    obtain ⟨ps, cs, rfl, _, _⟩ := hx.shape
    obtain ⟨xk, q1, x1, y1, q2, x2, y2, q3, x3, y3, rfl, hq1, rfl, rfl⟩ := hx.form
    clear hq1
    have HX := Lib.hid hx
    have HXM := Lib.hid hxm
    have hrk : rightV l[i] = 0 → (l[i]).sh.length ≤ 8 := fun h => (right_parts (k := (l[i]).k) (s := (l[i]).sh) (n := (l[i]).n) (it := (l[i]).it) (by cases hq : l[i]; rw [hq] at h; exact h)).2.1
    have HRK := Lib.hid hrk
    have hst := HRi.out
    rw [List.drop_eq_getElem_cons hlt, rankMax] at hst
    have HST := Lib.hid hst
    have hta : rightV l[i] = 0 → ∀ x ∈ l.take (i + 1), rightV x = 0 := fun h x hx => by
      rw [List.take_succ_eq_append_getElem hlt] at hx
      rcases List.mem_append.1 hx with hx | hx
      · exact HTi.out x hx
      · rw [List.mem_singleton] at hx; rw [hx]; exact h
    have HTA := Lib.hid hta
    clear hx hxm hrk hst HRi HTi hta
    have hbrr := HBr.out.ext hE
    go_wp2_with fail
    refine (rright6_any _ _ _ _ _ _ wo HX.out).mono ?_
    rintro e w3 ⟨rfl, hE3⟩
    by_cases hr : rightV l[i] = 0
    rotate_left
    · have hr1 : (rightV l[i] != 0) = true := by simpa using hr
      have HWF : Hid (wrongV frame l like = 1) := Lib.hid (wrongV_cell HXM.out hr)
      replace HBr := Lib.hid (hbrr.ext hE3)
      have HE3 := Lib.hid ((HE.out.trans hE).trans hE3)
      generalize rightV l[i] = rr at *
      clear hr hE hE3 hbrr g0 g1 g2 g3 HTA HRK
      have hjv : rt = Arr.zero ∧ re = 1 := by have h := HJV.out; rw [joinV_wrong HWF.out (by omega)] at h; exact ⟨(Prod.mk.inj h).1.symm, (Prod.mk.inj h).2.symm⟩
      obtain ⟨rfl, rfl⟩ := hjv
      clear HJV
      have hbr9 := HBr.out
      obtain ⟨x0, x1, x2, x3⟩ := hbr9.cell
      have y0 := hbr9.free 0
      have y1 := hbr9.free 1
      have y2 := hbr9.free 2
      have y3 := hbr9.free 3
      obtain ⟨gg3, gg4, gg5⟩ := hbr9.put4 HE3.out (by omega) (.int .i64 0) (.slice none 0 0) (.slice none 0 0) (.slice none 0 0)
      have HG := Lib.hid (And.intro gg3 gg4)
      clear gg3 gg4 gg5 hbr9
      go_wp2_with fail
      obtain ⟨gg3, gg4⟩ := HG.out
      clear HG
      generalize ((((w3.setCell ⟨w.heap.size + 1, 0, none⟩ (.int .i64 0)).setCell ⟨w.heap.size + 1, 1, none⟩ (.slice none 0 0)).setCell ⟨w.heap.size + 1, 2, none⟩ (.slice none 0 0)).setCell ⟨w.heap.size + 1, 3, none⟩ (.slice none 0 0)) = wz at *
      obtain ⟨z0, z1, z2, z3⟩ := gg4.cell
      refine bodyPost_ret (v := .tuple #[.agg #[.int .i64 0, .slice none 0 0, .slice none 0 0, .slice none 0 0], .int .i64 1]) ?_ rfl ⟨.int .i64 0, .slice none 0 0, .slice none 0 0, .slice none 0 0, rfl, Arr.zero_at _ _, gg3⟩
      simp [results, Try.results48, go_sem, z0, z1, z2, z3]
    have h8 := HRK.out hr
    have HTN := Lib.hid (HTA.out hr)
    have hr1 : (rightV l[i] != 0) = false := by simpa using hr
    generalize rightV l[i] = rr at *
    replace g0 := hE3.cell g0
    replace g1 := hE3.cell g1
    replace g2 := hE3.cell g2
    replace g3 := hE3.cell g3
    have hE4 := hE.trans hE3
    generalize (l[i]).sh.length = sl at *
    clear hr hE hE3 hbrr HRK HTA HXM HX
    by_cases hms : m < sl
    · have HRn : Hid (rankMax sl (l.drop (i + 1)) = rankMax 0 l) := Lib.hid (by have := HST.out; rwa [if_pos hms] at this)
      clear HST
      go_wp2_with fail
      go_roundw
      case rel => exact ⟨i + 1, sl, rfl, by go_num, by omega, h8, hE4, HRn, HTN⟩
      case measure => simp [intOf]; omega
    · have HRn : Hid (rankMax m (l.drop (i + 1)) = rankMax 0 l) := Lib.hid (by have := HST.out; rwa [if_neg hms] at this)
      clear HST
      go_wp2_with fail
      go_roundw
      case rel => exact ⟨i + 1, m, rfl, by go_num, by omega, hm8, hE4, HRn, HTN⟩
      case measure => simp [intOf]; omega
  · have hie : i = l.length := by omega
    subst hie
    have hmR : m = rankMax 0 l := by have := HRi.out; rwa [List.drop_of_length_le (Nat.le_refl _), rankMax] at this
    have HMR := Lib.hid hmR
    have hall : ∀ x ∈ l, rightV x = 0 := by have := HTi.out; rwa [List.take_of_length_le (Nat.le_refl _)] at this
    have HALL := Lib.hid hall
    have HEo := Lib.hid (HE.out.trans hE)
    have HBro := Lib.hid (HBr.out.ext hE)
    have HBko := Lib.hid (HBk.out.ext hE)
    clear hmR hall HRi HTi hE HE HBr HBk hlt hil
    by_cases hl0 : l.length = 0
    · have hlz : (l.length : Int) = 0 := by omega
      have hln : l = [] := List.eq_nil_of_length_eq_zero hl0
      have HLN := Lib.hid hln
      clear hln hl0
      obtain ⟨s0, s1, s2, s3⟩ := HBko.out.cell
      go_wp2_with fail
      refine (rright6_any _ _ _ _ _ _ wo (HK.out.ext HEo.out)).mono ?_
      rintro e w3 ⟨rfl, hE3⟩
      by_cases hr : rightV like = 0
      rotate_left
      · have hr1 : (rightV like != 0) = true := by simpa using hr
        have HWF : Hid (wrongV frame l like = 1) := Lib.hid (wrongV_like HLN.out hr)
        have HBr := Lib.hid (HBro.out.ext hE3)
        have HE3 := Lib.hid (HEo.out.trans hE3)
        generalize rightV like = rr at *
        clear hr hE3 s0 s1 s2 s3
        have hjv : rt = Arr.zero ∧ re = 1 := by have h := HJV.out; rw [joinV_wrong HWF.out (by omega)] at h; exact ⟨(Prod.mk.inj h).1.symm, (Prod.mk.inj h).2.symm⟩
        obtain ⟨rfl, rfl⟩ := hjv
        clear HJV
        have hbr9 := HBr.out
        obtain ⟨x0, x1, x2, x3⟩ := hbr9.cell
        have y0 := hbr9.free 0
        have y1 := hbr9.free 1
        have y2 := hbr9.free 2
        have y3 := hbr9.free 3
        obtain ⟨gg3, gg4, gg5⟩ := hbr9.put4 HE3.out (by omega) (.int .i64 0) (.slice none 0 0) (.slice none 0 0) (.slice none 0 0)
        have HG := Lib.hid (And.intro gg3 gg4)
        clear gg3 gg4 gg5 hbr9
        go_wp2_with fail
        obtain ⟨gg3, gg4⟩ := HG.out
        clear HG
        generalize ((((w3.setCell ⟨w.heap.size + 1, 0, none⟩ (.int .i64 0)).setCell ⟨w.heap.size + 1, 1, none⟩ (.slice none 0 0)).setCell ⟨w.heap.size + 1, 2, none⟩ (.slice none 0 0)).setCell ⟨w.heap.size + 1, 3, none⟩ (.slice none 0 0)) = wz at *
        obtain ⟨z0, z1, z2, z3⟩ := gg4.cell
        refine bodyPost_ret (v := .tuple #[.agg #[.int .i64 0, .slice none 0 0, .slice none 0 0, .slice none 0 0], .int .i64 1]) ?_ rfl ⟨.int .i64 0, .slice none 0 0, .slice none 0 0, .slice none 0 0, rfl, Arr.zero_at _ _, gg3⟩
        simp [results, Try.results48, go_sem, z0, z1, z2, z3]
      have hr1 : (rightV like != 0) = false := by simpa using hr
      have HRL := Lib.hid hr
      have hjv : joinV frame l like = (if rightV (.mk like.k (frame ++ like.sh) [] []) = 0 then .mk like.k (frame ++ like.sh) [] [] else Arr.zero, if rightV (.mk like.k (frame ++ like.sh) [] []) = 0 then 0 else 21) := joinV_none HSR.out (by rw [HSZ.out, hlz]) HLN.out hr
      rw [HJV.out] at hjv
      obtain ⟨hrt, hre⟩ := Prod.mk.inj hjv
      have HRT := Lib.hid hrt
      have HRE := Lib.hid hre
      have hlk : kk = like.k ∧ -9223372036854775808 ≤ kk ∧ kk ≤ 9223372036854775807 := by
        have h := HK.out
        cases hq : like
        rw [hq] at h
        unfold ArrAt at h
        simp only [Value.int.injEq, true_and] at h
        refine ⟨h.1, ?_⟩
        rw [h.1]
        exact h.2.1
      obtain ⟨ps, cs, hps, hpk, hpi⟩ := HK.out.shape
      simp only [Value.slice.injEq] at hps
      obtain ⟨rfl, rfl, rfl⟩ := hps
      have hf8 : frame.length ≤ 8 := by have := (shapeRight_go HSR.out).2; exact this
      have hs8 : (like.sh).length ≤ 8 := by
        have h := hr
        cases hq : like
        rw [hq] at h
        exact (right_parts h).2.1
      have HKB := Lib.hid hlk
      have HSI := Lib.hid ((hpi.ext HEo.out).ext hE3)
      have HFI := Lib.hid ((HF.out.ext HEo.out).ext hE3)
      have HPK := Lib.hid hpk
      replace s0 := hE3.cell s0
      replace s1 := hE3.cell s1
      replace s2 := hE3.cell s2
      replace s3 := hE3.cell s3
      have HBr := Lib.hid (HBro.out.ext hE3)
      have HE3 := Lib.hid (HEo.out.trans hE3)
      generalize rightV like = rr at *
      generalize like.sh = lsh at *
      have hss : ∀ w' : World, Ext w3 w' → w'.cell? ⟨w.heap.size, 0, none⟩ = some (.int .i64 kk) ∧ w'.cell? ⟨w.heap.size, 1, none⟩ = some (.slice k1 lsh.length kc1) := fun w' e => ⟨e.cell s0, e.cell s1⟩
      have HSS := Lib.hid hss
      clear hjv hrt hre hlk hpi hpk hr hE3 hlz HRL hss
      go_wp2_with fail
      refine wp_region_g0 [0, 1, 3, 5, 6] 9 #[true, true, false, true, false, true, true, false, false, false, false, false, false, false] (fun w' => w'.cell? ⟨w.heap.size, 0, none⟩ = some (.int .i64 kk) ∧ w'.cell? ⟨w.heap.size, 1, none⟩ = some (.slice k1 lsh.length kc1)) (by kernel_rfl) (by kernel_rfl) (HSS.out _ ((Ext.refl _).drew)) ?_
      iterate 5
        refine wpHead_cons (v := ?_) rfl (by rfl) (fun w' hS => ?_) ?_
        rotate_left
        · obtain ⟨g0, g1⟩ := hS
          go_simp
          try with_reducible rfl
        try simp only [Act.put, List.setIfInBounds_toArray, List.set]
      unfold wpHead
      have hW : Ext w3 w3.drew := (Ext.refl _).drew
      have hfl := HBr.out.lt
      clear s0 s1 s2 s3
      generalize w3.drew = wv0 at hW ⊢
      refine wpAnyG_one (i := 2) (by kernel_rfl) ⟨_, rfl, fun K hK => ?_⟩
      go_wp2_with fail
      have hE1 : Ext w3 (wv0.alloc (.cells #[] 3)) := hW.alloc _
      refine hK _ _ (HSS.out _ hE1) ?_
      try simp only [Act.put, List.setIfInBounds_toArray, List.set]
      clear hK
      have hr0 := rowI_new' wv0 []
      have hb0 := hW.lt
      have hX0 : XIn (fun _ => False) w3 (wv0.alloc (.cells #[] 3)) := fun _ h => h.elim
      change RowI (wv0.alloc (.cells #[] 3)) wv0.heap.size [] at hr0
      generalize wv0.heap.size = g0 at *
      generalize wv0.alloc (.cells #[] 3) = wv1 at *
      refine wpAnyG_one (i := 4) (by kernel_rfl) ⟨_, rfl, fun K hK => ?_⟩
      have hi3 : IntsAt (fun b => b < wv1.heap.size ∧ ¬ False) wv1 pf frame := HFI.out.mono fun b hb hlt => ⟨⟨Nat.lt_of_lt_of_le hlt hE1.lt, fun h => h⟩, hE1.block hlt⟩
      refine wpList_chain rfl _ _ rfl w3 (fun _ => False) _ 0 [] pf cf frame rfl (.inl ⟨rfl, rfl, g0, rfl, hr0, hb0, fun h => h⟩) rfl hi3 hE1 hX0 (by omega) ?_
      intro v' w' X' f0 f1 f2 f3 f4
      rw [Nat.zero_add, List.nil_append] at f4
      obtain ⟨pv, cv, rfl, _⟩ := f4.own.1.form
      refine hK _ _ (HSS.out _ f0) ?_
      try simp only [Act.put, List.setIfInBounds_toArray, List.set]
      clear hK hi3 f1 f2
      refine wpAnyG_one (i := 7) (by kernel_rfl) ⟨_, rfl, fun K hK => ?_⟩
      have hi4 : IntsAt (fun b => b < w'.heap.size ∧ ¬ X' b) w' k1 lsh := HSI.out.mono fun b hb hlt => ⟨⟨Nat.lt_of_lt_of_le hlt f0.lt, fun hx => by have := f3.lo b hx; omega⟩, f0.block hlt⟩
      refine wpList_chain rfl _ _ rfl w3 X' _ frame.length frame k1 kc1 lsh rfl f4 rfl hi4 f0 f3 (by omega) ?_
      intro v'' w4 X4 f5 f6 f7 f8 f9
      rw [← List.length_append] at f9
      obtain ⟨pv2, cv2, rfl, _⟩ := f9.own.1.form
      refine hK _ _ (HSS.out _ f5) ?_
      try simp only [Act.put, List.setIfInBounds_toArray, List.set]
      clear hK hi4 f0 f3 f4 f6 f7 f8
      have hsl : (frame ++ lsh).length ≤ 16 := by rw [List.length_append]; omega
      obtain ⟨p9, c9, he9, hk9, hi9⟩ := f9.own.1.ints
      cases he9
      have harr : ArrAt (fun b => b ≠ w.heap.size + 1) w4 (.mk like.k (frame ++ lsh) [] []) (.int .i64 kk) (.slice pv2 (frame ++ lsh).length cv2) (.slice none 0 0) (.slice none 0 0) := by
        unfold ArrAt
        refine ⟨by rw [HKB.out.1], ?_, ⟨_, _, rfl, hk9, hi9.mono fun b hb _ => ⟨?_, rfl⟩⟩, nilI _ _, nilA _ _⟩
        · rw [← HKB.out.1]; exact HKB.out.2
        · have := hb.1; omega
      have hchk := rchecked_any _ _ _ _ _ _ _ harr
      rw [← HRT.out, ← HRE.out] at hchk
      have HCHK := Lib.hid hchk
      have HF5 := Lib.hid f5
      have HBR := Lib.hid (HBr.out.ext f5)
      have HEr := Lib.hid (HE3.out.trans f5)
      clear harr hchk hi9 hk9 f9 f5 hsl
      generalize (frame ++ lsh).length = sl at *
      refine wpAnyG_one (i := 8) (by kernel_rfl) ⟨_, rfl, fun K hK => ?_⟩
      go_wp2_with fail
      refine hK _ _ (HSS.out _ HF5.out) ?_
      try simp only [Act.put, List.setIfInBounds_toArray, List.set]
      clear hK
      refine wpAnyG_one (i := 9) (by kernel_rfl) ⟨_, rfl, fun K hK => ?_⟩
      go_wp2_with fail
      refine HCHK.out.mono ?_
      rintro e w5 ⟨d0, d1, d2, d3, rfl, hC, hE5⟩
      have HF6 := Lib.hid (HF5.out.trans hE5)
      go_wp2_with fail
      refine hK _ _ (HSS.out _ HF6.out) ?_
      try simp only [Act.put, List.setIfInBounds_toArray, List.set]
      clear hK
      obtain ⟨dk, dp1, dl1, dc1, dp2, dl2, dc2, dp3, dl3, dc3, rfl, rfl, rfl, rfl⟩ := hC.form
      have hbr9 := HBR.out.ext hE5
      obtain ⟨x0, x1, x2, x3⟩ := hbr9.cell
      have y0 := hbr9.free 0
      have y1 := hbr9.free 1
      have y2 := hbr9.free 2
      have y3 := hbr9.free 3
      obtain ⟨gg3, gg4, gg5⟩ := hbr9.put4 (HEr.out.trans hE5) (by omega) (.int .i64 dk) (.slice dp1 dl1 dc1) (.slice dp2 dl2 dc2) (.slice dp3 dl3 dc3)
      have hss := HSS.out _ HF6.out
      have hS1 : ((((w5.setCell ⟨w.heap.size + 1, 0, none⟩ (.int .i64 dk)).setCell ⟨w.heap.size + 1, 1, none⟩ (.slice dp1 dl1 dc1)).setCell ⟨w.heap.size + 1, 2, none⟩ (.slice dp2 dl2 dc2)).setCell ⟨w.heap.size + 1, 3, none⟩ (.slice dp3 dl3 dc3)).cell? ⟨w.heap.size, 0, none⟩ = some (.int .i64 kk) := (World.cell?_of_block (a := ⟨w.heap.size, 0, none⟩) (gg5 w.heap.size (by omega))).trans hss.1
      have hS2 : ((((w5.setCell ⟨w.heap.size + 1, 0, none⟩ (.int .i64 dk)).setCell ⟨w.heap.size + 1, 1, none⟩ (.slice dp1 dl1 dc1)).setCell ⟨w.heap.size + 1, 2, none⟩ (.slice dp2 dl2 dc2)).setCell ⟨w.heap.size + 1, 3, none⟩ (.slice dp3 dl3 dc3)).cell? ⟨w.heap.size, 1, none⟩ = some (.slice k1 lsh.length kc1) := (World.cell?_of_block (a := ⟨w.heap.size, 1, none⟩) (gg5 w.heap.size (by omega))).trans hss.2
      have HG := Lib.hid (And.intro gg3 (And.intro gg4 (And.intro (ArrAt.mono (G := fun _ => True) (w' := ((((w5.setCell ⟨w.heap.size + 1, 0, none⟩ (.int .i64 dk)).setCell ⟨w.heap.size + 1, 1, none⟩ (.slice dp1 dl1 dc1)).setCell ⟨w.heap.size + 1, 2, none⟩ (.slice dp2 dl2 dc2)).setCell ⟨w.heap.size + 1, 3, none⟩ (.slice dp3 dl3 dc3))) (fun b hb _ => ⟨trivial, gg5 b hb⟩) _ _ _ _ _ hC) (And.intro hS1 hS2))))
      clear gg3 gg4 gg5 hbr9 hC hss hS1 hS2
      refine wpAnyG_two (i := 10) (j := 11) (by kernel_rfl) ⟨_, rfl, fun K hK => ?_⟩ ⟨_, rfl, fun K hK => ?_⟩
      · skip
        go_wp2_with fail
        refine hK _ _ (HSS.out _ HF6.out) ?_
        try simp only [Act.put, List.setIfInBounds_toArray, List.set]
        clear hK
        refine wpAnyG_one (i := 11) (by kernel_rfl) ⟨_, rfl, fun K hK => ?_⟩
        go_wp2_with fail
        refine hK _ _ (HSS.out _ HF6.out) ?_
        try simp only [Act.put, List.setIfInBounds_toArray, List.set]
        clear hK
        refine wpAnyG_one (i := 12) (by kernel_rfl) ⟨_, rfl, fun K hK => ?_⟩
        go_wp2_with fail
        refine hK _ _ HG.out.2.2.2 ?_
        try simp only [Act.put, List.setIfInBounds_toArray, List.set]
        clear hK
        refine wpAnyG_one (i := 13) (by kernel_rfl) ⟨_, rfl, fun K hK => ?_⟩
        go_wp2_with fail
        refine hK _ _ HG.out.2.2.2 ?_
        try simp only [Act.put, List.setIfInBounds_toArray, List.set]
        clear hK
        refine wpAnyG_done (by kernel_rfl) ?_ _
        refine OnlyN.mk ?_
        go_wp2_with fail
        obtain ⟨gg3, gg4, gg6, _⟩ := HG.out
        clear HG
        generalize ((((w5.setCell ⟨w.heap.size + 1, 0, none⟩ (.int .i64 dk)).setCell ⟨w.heap.size + 1, 1, none⟩ (.slice dp1 dl1 dc1)).setCell ⟨w.heap.size + 1, 2, none⟩ (.slice dp2 dl2 dc2)).setCell ⟨w.heap.size + 1, 3, none⟩ (.slice dp3 dl3 dc3)) = wz at *
        obtain ⟨z0, z1, z2, z3⟩ := gg4.cell
        refine bodyPost_ret (v := .tuple #[.agg #[.int .i64 dk, .slice dp1 dl1 dc1, .slice dp2 dl2 dc2, .slice dp3 dl3 dc3], .int .i64 re]) ?_ rfl ⟨_, _, _, _, rfl, gg6, gg3⟩
        simp [results, Try.results48, go_sem, z0, z1, z2, z3]
      · skip
        go_wp2_with fail
        refine hK _ _ (HSS.out _ HF6.out) ?_
        try simp only [Act.put, List.setIfInBounds_toArray, List.set]
        clear hK
        refine wpAnyG_one (i := 10) (by kernel_rfl) ⟨_, rfl, fun K hK => ?_⟩
        go_wp2_with fail
        refine hK _ _ (HSS.out _ HF6.out) ?_
        try simp only [Act.put, List.setIfInBounds_toArray, List.set]
        clear hK
        refine wpAnyG_one (i := 12) (by kernel_rfl) ⟨_, rfl, fun K hK => ?_⟩
        go_wp2_with fail
        refine hK _ _ HG.out.2.2.2 ?_
        try simp only [Act.put, List.setIfInBounds_toArray, List.set]
        clear hK
        refine wpAnyG_one (i := 13) (by kernel_rfl) ⟨_, rfl, fun K hK => ?_⟩
        go_wp2_with fail
        refine hK _ _ HG.out.2.2.2 ?_
        try simp only [Act.put, List.setIfInBounds_toArray, List.set]
        clear hK
        refine wpAnyG_done (by kernel_rfl) ?_ _
        refine OnlyN.mk ?_
        go_wp2_with fail
        obtain ⟨gg3, gg4, gg6, _⟩ := HG.out
        clear HG
        generalize ((((w5.setCell ⟨w.heap.size + 1, 0, none⟩ (.int .i64 dk)).setCell ⟨w.heap.size + 1, 1, none⟩ (.slice dp1 dl1 dc1)).setCell ⟨w.heap.size + 1, 2, none⟩ (.slice dp2 dl2 dc2)).setCell ⟨w.heap.size + 1, 3, none⟩ (.slice dp3 dl3 dc3)) = wz at *
        obtain ⟨z0, z1, z2, z3⟩ := gg4.cell
        refine bodyPost_ret (v := .tuple #[.agg #[.int .i64 dk, .slice dp1 dl1 dc1, .slice dp2 dl2 dc2, .slice dp3 dl3 dc3], .int .i64 re]) ?_ rfl ⟨_, _, _, _, rfl, gg6, gg3⟩
        simp [results, Try.results48, go_sem, z0, z1, z2, z3]
    have hl0' : ¬ ((l.length : Int) = 0) := by omega
    go_wp2_with fail
    refine (rlead_any (fun _ => False) none 0 [] m wo (fun i hi => by simp at hi) ⟨by simp, by omega, by simp⟩ (by omega)).mono ?_
    rintro e w4 ⟨v4, rfl, hO, hE4⟩
    have hlm : (leadV [] m).length = m := by simp [leadV]
    rw [hlm] at hO
    obtain ⟨pc, cc, rfl, _⟩ := hO.form
    have HO := Lib.hid hO
    have HE4 := Lib.hid hE4
    clear hO hE4 hlm
    go_wp2_with fail
    go_loopw [11] (fun jv wr => ∃ (j : Nat) (o : List Int), jv = .int .i64 (j : Int) ∧ j ≤ m ∧ OwnI wo.heap.size (fun _ => False) wr (.slice pc m cc) m o ∧ Ext wo wr ∧ Hid (∀ k, k < j → o.getD k 0 = 0)) (fun jv _ => m - (intOf jv).toNat)
    case atStart => exact ⟨0, _, rfl, Nat.zero_le _, HO.out, HE4.out, Lib.hid (fun k hk => by omega)⟩
    case round =>
    obtain ⟨j, o, rfl, hjm, hO, hE, HZ⟩ := hrel
    clear HO HE4
    by_cases hjl : j < m
    · obtain ⟨g, rfl, hgB, hgl, hc, hf, hset⟩ := hO.at' hjl
      have h2 := hset 0 (by omega)
      have h3 : Ext wo (wr.setCell ⟨g, j, none⟩ (.int .i64 0)) := hE.setCell (p := ⟨g, j, none⟩) hgB _
      have hol := hO.1
      have hz : ∀ k, k < j + 1 → (o.set j 0).getD k 0 = 0 := fun k hk => by
        by_cases hkj : k = j
        · rw [hkj, List.getD, List.getElem?_set_self (by omega)]; rfl
        · have := HZ.out k (by omega)
          rw [List.getD, List.getElem?_set_ne (fun e => hkj e.symm)]; exact this
      have HZ2 := Lib.hid hz
      have H2 := Lib.hid h2
      have H3 := Lib.hid h3
      clear h2 h3 hz HZ hset hE hO hol
      go_wp2_with fail
      go_roundw
      case rel => exact ⟨j + 1, _, by go_num, by omega, H2.out, H3.out, HZ2⟩
      case measure => simp [intOf]; omega
    have hjm2 : j = m := by omega
    subst hjm2
    have ho : o = List.replicate j 0 := by
      apply list_ext_getD (by rw [hO.1]; simp)
      intro k hk
      rw [HZ.out k (by have := hO.1; omega), List.getD, List.getElem?_replicate]
      split <;> rfl
    subst ho
    obtain ⟨wp, rfl⟩ : ∃ wx : World, wx = wr := ⟨_, rfl⟩
    have HO := Lib.hid hO
    have HE5 := Lib.hid hE
    have HCG : Hid (commonGo j (List.replicate j 0) (l.drop 0) = commonV l) := Lib.hid (by rw [List.drop_zero, commonV, ← HMR.out])
    clear hO hE HZ hjl hjm
    go_wp2_with fail
    go_loopw [12] (fun iv wr => ∃ (i : Nat) (o : List Int), iv = .int .i64 (i : Int) ∧ i ≤ l.length ∧ OwnI wo.heap.size (fun _ => False) wr (.slice pc j cc) j o ∧ Ext wo wr ∧ Hid (commonGo j o (l.drop i) = commonV l) ∧ Hid (∀ x ∈ l.take i, x.k = (l.headD default).k)) (fun iv _ => l.length - (intOf iv).toNat)
    case atStart => exact ⟨0, _, rfl, Nat.zero_le _, HO.out, HE5.out, HCG, Lib.hid (by simp)⟩
    case round =>
    obtain ⟨i, o, rfl, hil, hO, hE, HCi, HKi⟩ := hrel
    obtain ⟨wq, rfl⟩ : ∃ wx : World, wx = wr := ⟨_, rfl⟩
    clear HO HE5 HCG
    have HO := Lib.hid hO
    have HE6 := Lib.hid hE
    have hEw := HEo.out.trans hE
    by_cases hlt : i < l.length
    rotate_left
    · have hie : i = l.length := by omega
      subst hie
      clear hlt hil
      have hcm : o = commonV l := by have := HCi.out; rwa [List.drop_of_length_le (Nat.le_refl _), commonGo] at this
      have HCM := Lib.hid hcm
      have hallk : ∀ x ∈ l, x.k = (l.headD default).k := by have := HKi.out; rwa [List.take_of_length_le (Nat.le_refl _)] at this
      have HALK := Lib.hid hallk
      have HWOK := Lib.hid (wrongV_ok (like := like) HSR.out HSZ.out (by intro e; rw [e] at hl0; exact hl0 rfl) HALL.out hallk)
      obtain ⟨pc', cc', hvc, hkc, hic⟩ := hO.ints
      have hol := hO.1
      have hj8 : j ≤ 8 := hm8
      simp only [Value.slice.injEq] at hvc
      obtain ⟨rfl, hjo, rfl⟩ := hvc
      have HJO := Lib.hid hjo
      clear hjo
      have HIC := Lib.hid hic
      have HKC := Lib.hid hkc
      have HEW := Lib.hid hEw
      obtain ⟨b', off', e0, e1, e2, e3, rfl, _, f0, f1, f2, f3, hx0⟩ := ItemsAt.get l _ 0 0 (HL.out.ext hEw) (by omega)
      simp only [Nat.zero_add, Nat.zero_mul, Nat.add_zero] at f0
      have hk0 : e0 = .int .i64 (l[0]).k := by
        cases hq : l[0]
        rw [hq] at hx0
        unfold ArrAt at hx0
        exact hx0.1
      subst hk0
      have hh0 : (l.headD default).k = (l[0]).k := by cases l with | nil => simp at hl0 | cons a r => rfl
      rw [← hh0] at f0
      have hf8 : frame.length ≤ 8 := by have := (shapeRight_go HSR.out).2; exact this
      obtain ⟨sh, hsh⟩ : ∃ sh, sh = frame ++ o := ⟨_, rfl⟩
      have HSH := Lib.hid hsh
      have HJD : Hid (joinedV frame l = .mk (l.headD default).k (frame ++ commonV l) (l.flatMap fun x => (padV x (commonV l)).n) (l.flatMap fun x => (padV x (commonV l)).it)) := rfl
      have hkb : (l.headD default).k = 1 ∨ (l.headD default).k = 2 ∨ (l.headD default).k = 3 := by
        have h := HALL.out l[0] (List.getElem_mem (by omega))
        rw [hh0]
        cases hq : l[0]
        rw [hq] at h
        exact (right_parts h).1
      have HKB := Lib.hid hkb
      clear hkb
      generalize (l.headD default).k = kh at *
      clear hcm hallk hic hkc hEw hE hsh hh0 hx0 f1 f2 f3 HCi HKi
      go_wp2_with fail
      refine wp_region_z1 [MProp.is (.slice (some ⟨b', off', none⟩) l.length cl), MProp.is (.pointer (some ⟨b', off', none⟩)), MProp.is (.pointer (some ⟨b', off', none⟩)), MProp.is (.int .i64 kh), MProp.row wq.heap.size 0 [], MProp.rdi (frame), MProp.chain wq.heap.size (frame), MProp.rdi (o), MProp.chain wq.heap.size (sh), MProp.chainAgg wq.heap.size kh sh, MProp.boxo wq.heap.size] [0, 1, 2, 3, 4, 5, 7, 10] [6, 8, 9] [119, 120, 121, 122, 123, 124, 126, 15, 125, 127, 128] 11 (by kernel_rfl) (by kernel_rfl) (by kernel_rfl) (by kernel_rfl) rfl ?_ ?_ ?_ ?_
      · exact mem_cons_m (zst_is _) (mem_cons_m (zst_is _) (mem_cons_m (zst_is _) (mem_cons_m (zst_is _) (mem_cons_m (zst_row _ _ _) (mem_cons_m (zst_rdi _) (mem_cons_m (zst_rdi _) (mem_cons_m (zst_boxo _) (mem_nil_m))))))))
      · refine mem_cons_m ?_ (mem_cons_m ?_ (mem_cons_m ?_ (mem_cons_m ?_ (mem_cons_m ?_ (mem_cons_m ?_ (mem_cons_m ?_ (mem_cons_m ?_ (mem_nil_m))))))))
        · refine ⟨_, 119, rfl, by kernel_rfl, ?_⟩
          intro u w9 X hE hX hd K hK
          clear hd
          simp only [overlay, List.setIfInBounds_toArray, List.set] at hK ⊢
          go_wp2_with fail
          exact hK _ _ X (Ext.refl _) kept_m hX rfl
        · refine ⟨_, 120, rfl, by kernel_rfl, ?_⟩
          intro u w9 X hE hX hd K hK
          have d0 : u 119 = .slice (some ⟨b', off', none⟩) l.length cl := hd 0 (by kernel_rfl)
          clear hd
          simp only [overlay, List.setIfInBounds_toArray, List.set, d0] at hK ⊢
          go_wp2_with fail
          exact hK _ _ X (Ext.refl _) kept_m hX rfl
        · refine ⟨_, 121, rfl, by kernel_rfl, ?_⟩
          intro u w9 X hE hX hd K hK
          have d1 : u 120 = .pointer (some ⟨b', off', none⟩) := hd 1 (by kernel_rfl)
          clear hd
          simp only [overlay, List.setIfInBounds_toArray, List.set, d1] at hK ⊢
          go_wp2_with fail
          exact hK _ _ X (Ext.refl _) kept_m hX rfl
        · refine ⟨_, 122, rfl, by kernel_rfl, ?_⟩
          intro u w9 X hE hX hd K hK
          have d2 : u 121 = .pointer (some ⟨b', off', none⟩) := hd 2 (by kernel_rfl)
          clear hd
          simp only [overlay, List.setIfInBounds_toArray, List.set, d2] at hK ⊢
          have e9 : Ext wq w9 := (Ext.refl wq).drew.trans hE
          have a0 := e9.cell f0
          go_wp2_with fail
          exact hK _ _ X (Ext.refl _) kept_m hX rfl
        · refine ⟨_, 123, rfl, by kernel_rfl, ?_⟩
          intro u w9 X hE hX hd K hK
          clear hd
          simp only [overlay, List.setIfInBounds_toArray, List.set] at hK ⊢
          have hlt' : wq.heap.size ≤ w9.heap.size := hE.lt
          go_wp2_with fail
          exact hK _ _ X ((Ext.refl _).alloc _) kept_m (hX.ext ((Ext.refl _).alloc _)) ⟨_, rfl, rowI_new' w9 [], hlt', fun hx => by have := (hX _ hx).2; omega⟩
        · refine ⟨_, 124, rfl, by kernel_rfl, ?_⟩
          intro u w9 X hE hX hd K hK
          clear hd
          simp only [overlay, List.setIfInBounds_toArray, List.set] at hK ⊢
          have e9 : Ext wq w9 := (Ext.refl wq).drew.trans hE
          go_wp2_with fail
          exact hK _ _ X (Ext.refl _) kept_m hX (RdIX.old (HF.out.ext HEW.out) ⟨o1, o1', o1''⟩ e9 hX.lo)
        · refine ⟨_, 126, rfl, by kernel_rfl, ?_⟩
          intro u w9 X hE hX hd K hK
          clear hd
          simp only [overlay, List.setIfInBounds_toArray, List.set] at hK ⊢
          have e9 : Ext wq w9 := (Ext.refl wq).drew.trans hE
          have hro := RdIX.old HIC.out HKC.out e9 hX.lo
          rw [← HJO.out] at hro
          go_wp2_with fail
          exact hK _ _ X (Ext.refl _) kept_m hX hro
        · refine ⟨_, 15, rfl, by kernel_rfl, ?_⟩
          intro u w9 X hE hX hd K hK
          clear hd
          simp only [overlay, List.setIfInBounds_toArray, List.set] at hK ⊢
          have hlt' : wq.heap.size ≤ w9.heap.size := hE.lt
          go_wp2_with fail
          exact hK _ _ X ((Ext.refl _).alloc _) kept_m (hX.ext ((Ext.refl _).alloc _)) ⟨_, rfl, box_new _ _ _ _ _, hlt', fun hx => by have := (hX _ hx).2; omega⟩
      · refine mem_cons_m ?_ (mem_cons_m ?_ (mem_cons_m ?_ (mem_nil_m)))
        · refine ⟨_, 125, rfl, by kernel_rfl, ?_⟩
          intro u w9 X hE hX hd K hK
          have d4 : ∃ g, u 123 = .slice (some ⟨g, 0, none⟩) 0 0 ∧ RowI w9 g [] ∧ wq.heap.size ≤ g ∧ ¬ X g := hd 4 (by kernel_rfl)
          have d5 : RdIX X w9 (frame) (u 124) := hd 5 (by kernel_rfl)
          clear hd
          simp only [overlay, List.setIfInBounds_toArray, List.set] at hK ⊢
          obtain ⟨g, hv0, hr0, hb0, hx0⟩ := d4
          obtain ⟨p3, c3, hv3, hk3, hi3⟩ := d5
          simp only [hv0, hv3] at hK ⊢
          refine wpList_chain rfl _ _ rfl wq.drew X _ 0 [] p3 c3 (frame) rfl (.inl ⟨rfl, rfl, g, rfl, hr0, hb0, hx0⟩) rfl hi3 hE hX (by omega) ?_
          intro v' w' X' f0 f1 f2 f3 f4
          rw [Nat.zero_add, List.nil_append] at f4
          obtain ⟨pv, cv, rfl, _⟩ := f4.own.1.form
          exact hK _ _ X' f0 f1 f2 f3 ⟨pv, cv, rfl, f4⟩
        · refine ⟨_, 127, rfl, by kernel_rfl, ?_⟩
          intro u w9 X hE hX hd K hK
          have d6 : ∃ p c, u 125 = .slice p (frame).length c ∧ ChainRow wq.heap.size X w9 (.slice p (frame).length c) (frame).length (frame) := hd 6 (by kernel_rfl)
          have d7 : RdIX X w9 (o) (u 126) := hd 7 (by kernel_rfl)
          clear hd
          simp only [overlay, List.setIfInBounds_toArray, List.set] at hK ⊢
          obtain ⟨p0, c0, hv0, hc0⟩ := d6
          obtain ⟨p3, c3, hv3, hk3, hi3⟩ := d7
          simp only [hv0, hv3] at hK ⊢
          refine wpList_chain rfl _ _ rfl wq.drew X _ frame.length (frame) p3 c3 (o) rfl hc0 rfl hi3 hE hX (by omega) ?_
          intro v' w' X' f0 f1 f2 f3 f4
          rw [← List.length_append, ← HSH.out] at f4
          obtain ⟨pv, cv, rfl, _⟩ := f4.own.1.form
          exact hK _ _ X' f0 f1 f2 f3 ⟨pv, cv, rfl, f4⟩
        · refine ⟨_, 128, rfl, by kernel_rfl, ?_⟩
          intro u w9 X hE hX hd K hK
          have d3 : u 122 = .int .i64 kh := hd 3 (by kernel_rfl)
          have d8 : ∃ p c, u 127 = .slice p (sh).length c ∧ ChainRow wq.heap.size X w9 (.slice p (sh).length c) (sh).length (sh) := hd 8 (by kernel_rfl)
          clear hd
          simp only [overlay, List.setIfInBounds_toArray, List.set, d3] at hK ⊢
          obtain ⟨p0, c0, hv0, hc0⟩ := d8
          simp only [hv0] at hK ⊢
          go_wp2_with fail
          exact hK _ _ X hE (Chg.of_ext (Ext.refl _)) kept_m hX ⟨p0, c0, rfl, hc0⟩
      intro u w9 X hE hX hd hdc
      have d0 : u 119 = .slice (some ⟨b', off', none⟩) l.length cl := hd 0 (by decide)
      have d1 : u 120 = .pointer (some ⟨b', off', none⟩) := hd 1 (by decide)
      have d2 : u 121 = .pointer (some ⟨b', off', none⟩) := hd 2 (by decide)
      have d3 : u 122 = .int .i64 kh := hd 3 (by decide)
      have d4 : ∃ g, u 123 = .slice (some ⟨g, 0, none⟩) 0 0 ∧ RowI w9 g [] ∧ wq.heap.size ≤ g ∧ ¬ X g := hd 4 (by decide)
      have d5 : RdIX X w9 (frame) (u 124) := hd 5 (by decide)
      have d7 : RdIX X w9 (o) (u 126) := hd 7 (by decide)
      have d10 : ∃ b, u 15 = .pointer (some ⟨b, 0, none⟩) ∧ Box4 w9 b (.int .i64 0) (.slice none 0 0) (.slice none 0 0) (.slice none 0 0) ∧ wq.heap.size ≤ b ∧ ¬ X b := hd 10 (by decide)
      have d9 : ∃ p c, u 128 = .agg #[.int .i64 kh, .slice p sh.length c, .slice none 0 0, .slice none 0 0] ∧ ChainRow wq.heap.size X w9 (.slice p sh.length c) sh.length sh := hdc 2 rfl
      clear hd hdc
      simp only [overlay, List.setIfInBounds_toArray, List.set, d0, d1, d2, d3]
      have e9 : Ext wq w9 := (Ext.refl wq).drew.trans hE
      clear HJO hO f0
      obtain ⟨bo, hvb, hbox, hbB, hbx⟩ := d10
      obtain ⟨p8, c8, hva, hch⟩ := d9
      have hOo := hch.apart hbox hbx
      simp only [hvb, hva]
      clear d0 d1 d2 d3 d4 d5 d7 hvb hva hch
      obtain ⟨s0, s1, s2, s3⟩ := hbox.cell
      have y0 := hbox.free 0
      have y1 := hbox.free 1
      have y2 := hbox.free 2
      have y3 := hbox.free 3
      obtain ⟨gg1, gg2, gg3⟩ := hbox.put4 e9 hbB (.int .i64 kh) (.slice p8 sh.length c8) (.slice none 0 0) (.slice none 0 0)
      have hO2 := hOo.same (w' := ((((w9.setCell ⟨bo, 0, none⟩ (.int .i64 kh)).setCell ⟨bo, 1, none⟩ (.slice p8 sh.length c8)).setCell ⟨bo, 2, none⟩ (.slice none 0 0)).setCell ⟨bo, 3, none⟩ (.slice none 0 0))) (Y := fun q => q = bo) (fun g hg hlt hne => ⟨gg3 g hne, hne⟩)
      have HGG := Lib.hid (And.intro gg1 (And.intro gg2 hO2))
      clear gg1 gg2 gg3 hOo hO2 hbox hbx hX hE
      generalize u 123 = tz123 at *
      generalize u 124 = tz124 at *
      generalize u 125 = tz125 at *
      generalize u 126 = tz126 at *
      generalize u 127 = tz127 at *
      clear u
      go_wp2_with fail
      refine OnlyN.mk ?_
      obtain ⟨gg1, gg2, hOs⟩ := HGG.out
      clear HGG s0 s1 s2 s3 y0 y1 y2 y3 e9
      generalize ((((w9.setCell ⟨bo, 0, none⟩ (.int .i64 kh)).setCell ⟨bo, 1, none⟩ (.slice p8 sh.length c8)).setCell ⟨bo, 2, none⟩ (.slice none 0 0)).setCell ⟨bo, 3, none⟩ (.slice none 0 0)) = wc at *
      obtain ⟨p8', c8', he8, ⟨z1, z2, z3⟩, hi8⟩ := hOs.ints
      cases he8
      have HOS := Lib.hid hOs
      have HBo := Lib.hid gg2
      have HEc := Lib.hid gg1
      obtain ⟨s0, s1, s2, s3⟩ := gg2.cell
      have hshl : sh.length ≤ 16 := by rw [HSH.out, List.length_append, hol]; omega
      clear gg1 gg2 hOs
      go_wp2_with fail
      refine (r2right_any _ p8 c8 sh wc hi8 (by unfold lenMax; omega)).mono ?_
      rintro e wc' ⟨rfl, rfl⟩
      clear hi8 s0 s1 s2 s3
      have HWO : Hid (wrongV frame l like = 0) := Lib.hid HWOK.out
      have hjo2 := joinV_ok HWO.out (by intro e; rw [e] at hl0; exact hl0 rfl)
      rw [← HCM.out, ← HSH.out] at hjo2
      have HJ2 := Lib.hid hjo2
      clear hjo2
      by_cases hsr : shapeRight sh = true
      rotate_left
      · have hsf : shapeRight sh = false := by simpa using hsr
        have HSF := Lib.hid hsf
        rw [hsf]
        have HBr := Lib.hid (HBro.out.ext (HE6.out.trans HEc.out))
        have HE9 := Lib.hid (HEW.out.trans HEc.out)
        clear hsr hsf
        have hjv : rt = Arr.zero ∧ re = 21 := by have h := HJV.out; rw [HJ2.out, if_pos HSF.out] at h; exact ⟨(Prod.mk.inj h).1.symm, (Prod.mk.inj h).2.symm⟩
        obtain ⟨rfl, rfl⟩ := hjv
        clear HJV
        have hbr9 := HBr.out
        obtain ⟨x0, x1, x2, x3⟩ := hbr9.cell
        have y0 := hbr9.free 0
        have y1 := hbr9.free 1
        have y2 := hbr9.free 2
        have y3 := hbr9.free 3
        obtain ⟨gg3, gg4, gg5⟩ := hbr9.put4 HE9.out (by omega) (.int .i64 0) (.slice none 0 0) (.slice none 0 0) (.slice none 0 0)
        have HG := Lib.hid (And.intro gg3 gg4)
        clear gg3 gg4 gg5 hbr9
        go_wp2_with fail
        obtain ⟨gg3, gg4⟩ := HG.out
        clear HG
        generalize ((((wc.setCell ⟨w.heap.size + 1, 0, none⟩ (.int .i64 0)).setCell ⟨w.heap.size + 1, 1, none⟩ (.slice none 0 0)).setCell ⟨w.heap.size + 1, 2, none⟩ (.slice none 0 0)).setCell ⟨w.heap.size + 1, 3, none⟩ (.slice none 0 0)) = wz at *
        obtain ⟨z0, z1, z2, z3⟩ := gg4.cell
        refine bodyPost_ret (v := .tuple #[.agg #[.int .i64 0, .slice none 0 0, .slice none 0 0, .slice none 0 0], .int .i64 21]) ?_ rfl ⟨.int .i64 0, .slice none 0 0, .slice none 0 0, .slice none 0 0, rfl, Arr.zero_at _ _, gg3⟩
        simp [results, Try.results48, go_sem, z0, z1, z2, z3]
      have HSR2 := Lib.hid hsr
      rw [hsr]
      clear hsr
      have hzb : l.length * (shapeSize o).toNat ≤ 65536 := join_bound HSR.out HSZ.out.symm (by rw [← HSH.out]; exact HSR2.out)
      have hro : shapeRight o = true := (shapeRight_app (a := frame) (b := o) (by rw [← HSH.out]; exact HSR2.out)).1
      have HRO := Lib.hid hro
      obtain ⟨zc, hzc⟩ : ∃ zc, (shapeSize o).toNat = zc := ⟨_, rfl⟩
      have HZC := Lib.hid hzc
      rw [hzc] at hzb
      clear hro hzc z1 z2 z3
      have hM0 : MkB wq wc (fun x => x = bo ∨ (Value.slice p8 sh.length c8).ownBlock = some x) bo kh (.slice p8 sh.length c8) (.slice none 0 0) (.slice none 0 0) [] [] := MkB.fresh HEc.out hbB HBo.out (.inl rfl) (fun x hx => by
        rcases hx with rfl | hx
        · exact HBo.out.lt
        · exact (HOS.out.2.2.1.lt x hx).2)
      have HM0 := Lib.hid hM0
      clear hM0
      go_wp2_with fail
      go_loopw [16] (fun iv wr => ∃ (i : Nat) (v2 v3 : Value) (n : List Int) (it : List Arr), iv = .int .i64 (i : Int) ∧ i ≤ l.length ∧ n.length ≤ i * zc ∧ it.length ≤ i * zc ∧ MkB wq wr (fun x => x = bo ∨ (Value.slice p8 sh.length c8).ownBlock = some x) bo kh (.slice p8 sh.length c8) v2 v3 n it ∧ OwnI wq.heap.size (fun q => q = bo) wr (.slice p8 sh.length c8) sh.length sh ∧ Hid (n = (l.take i).flatMap fun x => (padV x o).n) ∧ Hid (it = (l.take i).flatMap fun x => (padV x o).it)) (fun iv _ => l.length - (intOf iv).toNat)
      case atStart => exact ⟨0, _, _, [], [], rfl, Nat.zero_le _, by simp, by simp, HM0.out, HOS.out, Lib.hid (by simp), Lib.hid (by simp)⟩
      case round =>
      obtain ⟨i, v2, v3, n, it, rfl, hil, hnl, hll, hM, hS, HGN, HGI⟩ := hrel
      clear HM0 HOS HBo HEc
      obtain ⟨pv2, cv2, rfl, _⟩ := hM.on.form
      have hiz : i * zc ≤ 65536 := Nat.le_trans (Nat.mul_le_mul_right zc hil) hzb
      obtain ⟨pv3, cv3, rfl, _, _⟩ := hM.oi.items (by omega)
      obtain ⟨s0, s1, s2, s3⟩ := hM.box.cell
      have HM := Lib.hid hM
      have HS := Lib.hid hS
      by_cases hlt : i < l.length
      rotate_left
      · have hie : i = l.length := by omega
        subst hie
        clear hlt hil
        have hn : n = l.flatMap fun x => (padV x o).n := by have := HGN.out; rwa [List.take_of_length_le (Nat.le_refl _)] at this
        have hi : it = l.flatMap fun x => (padV x o).it := by have := HGI.out; rwa [List.take_of_length_le (Nat.le_refl _)] at this
        have hJ : joinedV frame l = .mk kh sh n it := by rw [HJD.out, ← HCM.out, ← HSH.out, hn, hi]
        have hjv : rt = (if rightV (.mk kh sh n it) = 0 then .mk kh sh n it else Arr.zero) ∧ re = (if rightV (.mk kh sh n it) = 0 then 0 else 21) := by
          have h := HJV.out
          rw [HJ2.out, if_neg (by rw [HSR2.out]; simp), hJ] at h
          by_cases hz : rightV (.mk kh sh n it) = 0
          · rw [if_pos hz] at h; rw [if_pos hz, if_pos hz]; exact ⟨(Prod.mk.inj h).1.symm, (Prod.mk.inj h).2.symm⟩
          · rw [if_neg hz] at h; rw [if_neg hz, if_neg hz]; exact ⟨(Prod.mk.inj h).1.symm, (Prod.mk.inj h).2.symm⟩
        have hbl := (HBro.out.ext HE6.out).lt
        obtain ⟨p9, c9, he9, hk9, hi9⟩ := hS.ints
        have harr0 := hM.arr (by rcases HKB.out with h | h | h <;> rw [h] <;> omega) ⟨p9, c9, he9, hk9, hi9⟩ (by omega)
        have harr := ArrAt.mono (G := fun b => b ≠ w.heap.size + 1) (w' := wr) (fun b hb _ => ⟨by
          rcases hb with hb | hb
          · omega
          · have := hb.1; omega, rfl⟩) _ _ _ _ _ harr0
        have hchk := rchecked_any _ _ _ _ _ _ _ harr
        rw [← hjv.1, ← hjv.2] at hchk
        have HCHK := Lib.hid hchk
        have HBR := Lib.hid (HBro.out.ext (HE6.out.trans hM.ext))
        have HEr := Lib.hid (HEW.out.trans hM.ext)
        clear hn hi hJ hjv hbl he9 hk9 hi9 harr0 harr hchk hM hS
        go_wp2_with fail
        refine HCHK.out.mono ?_
        rintro e w5 ⟨d0, d1, d2, d3, rfl, hC, hE5⟩
        obtain ⟨dk, dp1, dl1, dc1, dp2, dl2, dc2, dp3, dl3, dc3, rfl, rfl, rfl, rfl⟩ := hC.form
        have hbr9 := HBR.out.ext hE5
        obtain ⟨x0, x1, x2, x3⟩ := hbr9.cell
        have y0 := hbr9.free 0
        have y1 := hbr9.free 1
        have y2 := hbr9.free 2
        have y3 := hbr9.free 3
        obtain ⟨gg3, gg4, gg5⟩ := hbr9.put4 (HEr.out.trans hE5) (by omega) (.int .i64 dk) (.slice dp1 dl1 dc1) (.slice dp2 dl2 dc2) (.slice dp3 dl3 dc3)
        have HG := Lib.hid (And.intro gg3 (And.intro gg4 (ArrAt.mono (G := fun _ => True) (w' := ((((w5.setCell ⟨w.heap.size + 1, 0, none⟩ (.int .i64 dk)).setCell ⟨w.heap.size + 1, 1, none⟩ (.slice dp1 dl1 dc1)).setCell ⟨w.heap.size + 1, 2, none⟩ (.slice dp2 dl2 dc2)).setCell ⟨w.heap.size + 1, 3, none⟩ (.slice dp3 dl3 dc3))) (fun b hb _ => ⟨trivial, gg5 b hb⟩) _ _ _ _ _ hC)))
        clear gg3 gg4 gg5 hbr9 hC
        dsimp only
        go_wp2_with fail
        obtain ⟨gg3, gg4, gg6⟩ := HG.out
        clear HG
        generalize ((((w5.setCell ⟨w.heap.size + 1, 0, none⟩ (.int .i64 dk)).setCell ⟨w.heap.size + 1, 1, none⟩ (.slice dp1 dl1 dc1)).setCell ⟨w.heap.size + 1, 2, none⟩ (.slice dp2 dl2 dc2)).setCell ⟨w.heap.size + 1, 3, none⟩ (.slice dp3 dl3 dc3)) = wz at *
        obtain ⟨z0, z1, z2, z3⟩ := gg4.cell
        refine bodyPost_ret (v := .tuple #[.agg #[.int .i64 dk, .slice dp1 dl1 dc1, .slice dp2 dl2 dc2, .slice dp3 dl3 dc3], .int .i64 re]) ?_ rfl ⟨_, _, _, _, rfl, gg6, gg3⟩
        simp [results, Try.results48, go_sem, z0, z1, z2, z3]
      obtain ⟨b1, f1, c0, c1, c2, c3, hpe, _, g0, g1, g2, g3, hx⟩ := ItemsAt.get l _ 0 i (HL.out.ext (HEW.out.trans hM.ext)) hlt
      cases hpe
      simp only [Nat.zero_add] at g0 g1 g2 g3
      have hxm : l[i] ∈ l := List.getElem_mem hlt
      have hxr := HALL.out _ hxm
      have hxk := HALK.out _ hxm
      have hgn : (l.take (i + 1)).flatMap (fun x => (padV x o).n) = n ++ (padV l[i] o).n := by rw [List.take_succ_eq_append_getElem hlt, List.flatMap_append, ← HGN.out]; simp
      have hgi : (l.take (i + 1)).flatMap (fun x => (padV x o).it) = it ++ (padV l[i] o).it := by rw [List.take_succ_eq_append_getElem hlt, List.flatMap_append, ← HGI.out]; simp
      have hzi : i * zc + zc ≤ 65536 := by
        have := Nat.mul_le_mul_right zc (show i + 1 ≤ l.length from hlt)
        rw [Nat.succ_mul] at this
        omega
      have hsm : (l[i]).sh.length ≤ j := by have := (rankMax_ge l 0).2 _ hxm; rw [← HMR.out] at this; exact this
      have hfit : rightGo 1 (l[i]).sh = true → FrOk (leadV (l[i]).sh j) o := fun h => by
        have := common_fits hxm h
        rw [← HCM.out, hol] at this
        exact this
      generalize l[i] = x at *
      obtain ⟨kx, s, nx, ix⟩ := x
      simp only [Arr.k] at hxk
      subst hxk
      simp only [Arr.sh] at hsm hfit
      obtain ⟨hk3, hs8, hsr1, _, _⟩ := right_parts hxr
      have hfr := hfit hsr1
      obtain ⟨hcc, hcn⟩ := cell_count hxr
      have hog := shapeRight_go HRO.out
      have hlp : prodA 1 (leadV s j) = prodA 1 s := lead_prodA _ s
      have hop : (prodA 1 o).toNat = zc := by rw [← size_prodA hog.1 hog.2]; exact HZC.out
      have hpl := padV_n_len (.mk kx s nx ix) o
      rw [HZC.out] at hpl
      obtain ⟨hpn, hpi⟩ := hpl
      obtain ⟨hq1, hq2⟩ := put_padV (k := kx) (s := s) (nx := nx) (n := n) (o := o) (ix := ix) (it := it) hol HRO.out hfr
      have hput := fun (w9 : World) (e9 : Ext wr w9) (pz : Option Addr) (cz : Nat) (hkz : SlOk (leadV s j).length cz) (hiz : IntsAt (fun b => wr.heap.size ≤ b ∧ b < w9.heap.size) w9 pz (leadV s j)) =>
        rput_any wq kx kx s nx ix hk3 hcn o (leadV s j) 0 w9 (fun x => x = bo ∨ (Value.slice p8 sh.length c8).ownBlock = some x ∨ (wr.heap.size ≤ x ∧ x < w9.heap.size)) p8 sh.length c8 (.slice pv2 n.length cv2) (.slice pv3 it.length cv3) n it c0 c1 c2 c3 pz cz pc cc hog.1 hog.2 hfr
          (fun _ => by rw [hlp, hcc]; omega) (by omega) (by rw [hop]; omega) (by rw [hop]; omega) (HM.out.ext.trans e9)
          (fun q hq => by
            rcases hq with hq | hq | hq
            · rw [hq]; exact Nat.lt_of_lt_of_le HM.out.box.lt e9.lt
            · exact Nat.lt_of_lt_of_le (HS.out.2.2.1.lt q hq).2 e9.lt
            · exact hq.2)
          (HM.out.on.same fun g _ hlt hne => ⟨e9.block hlt, fun h => by
            rcases h with (h | h | h) | h
            · exact hne (.inl (.inl h))
            · exact hne (.inl (.inr h))
            · omega
            · exact hne (.inr h)⟩)
          (HM.out.oi.same fun g hlt _ hne => ⟨e9.block hlt, fun h => by
            rcases h with (h | h | h) | h
            · exact hne (.inl (.inl h))
            · exact hne (.inl (.inr h))
            · omega
            · exact hne (.inr h)⟩)
          (ArrAt.mono (fun b hb hlt => ⟨.inr (Nat.lt_of_lt_of_le hb HEW.out.lt), e9.block hlt⟩) _ _ _ _ _ hx)
          (hiz.mono fun b hb hlt => ⟨.inl (.inr (.inr hb)), rfl⟩) hkz
          (HIC.out.mono fun b _ hlt => ⟨.inr hlt, (HM.out.ext.trans e9).block hlt⟩) HKC.out
      simp only [hq1, hq2, hol] at hput
      obtain ⟨ps, cs, rfl, hpk, hpi2⟩ := hx.shape
      obtain ⟨xk, q1, x1, y1, q2, x2, y2, q3, x3, y3, rfl, hq1', rfl, rfl⟩ := hx.form
      have HPI := Lib.hid hpi2
      simp only [Arr.sh, show ((0 : Nat) : Int) = 0 from rfl] at hput
      have HPUT := Lib.hid hput
      have HGN2 := Lib.hid hgn
      have HGI2 := Lib.hid hgi
      simp only [Arr.sh] at hpk hpi2
      have hn1 : (n ++ (padV (.mk kx s nx ix) o).n).length ≤ (i + 1) * zc := by rw [List.length_append, Nat.succ_mul]; omega
      have hl1 : (it ++ (padV (.mk kx s nx ix) o).it).length ≤ (i + 1) * zc := by rw [List.length_append, Nat.succ_mul]; omega
      clear hq1 hq2 hq1' hpi2 hput hgn hgi hfr hcc hcn hk3 hx hxm hxr hfit hog hlp hop HGN HGI hM hS hsr1
      generalize (padV (.mk kx s nx ix) o).n = xs at *
      generalize (padV (.mk kx s nx ix) o).it = ys at *
      have hnl9 : (n ++ xs).length ≤ 65536 := by rw [List.length_append]; omega
      have hll9 : (it ++ ys).length ≤ 65536 := by rw [List.length_append]; omega
      generalize n ++ xs = n9 at *
      generalize it ++ ys = it9 at *
      go_upto_region 35 with (fail)
      have hS0 : Kp wq (fun x => x = bo) wr wr.drew := Kp.of_ext HM.out.ext (fun q hq => by rw [hq]; exact HM.out.box.lt) ((Ext.refl _).drew)
      have hbw : b' < wq.heap.size := Nat.lt_of_lt_of_le (by assumption) HEW.out.lt
      refine wp_region_g [0, 1, 2, 3, 4, 5, 6, 7, 8, 9, 10, 12] [11, 13, 14] (fun w' => Kp wq (fun x => x = bo) wr w') (by kernel_rfl) (by kernel_rfl) hS0 ?_
      iterate 12
        refine wpHead_cons (v := ?_) rfl (by rfl) (fun w' hS => ?_) ?_
        rotate_left
        · have y0 := hS.cell (.inr hbw) g0
          have y1 := hS.cell (.inr hbw) g1
          have y2 := hS.cell (.inr hbw) g2
          have y3 := hS.cell (.inr hbw) g3
          have z0 := hS.cell (.inl rfl) s0
          have z1 := hS.cell (.inl rfl) s1
          have z2 := hS.cell (.inl rfl) s2
          have z3 := hS.cell (.inl rfl) s3
          go_simp
          try with_reducible rfl
        try simp only [Act.put, List.setIfInBounds_toArray, List.set]
      unfold wpHead
      clear s0 s1 s2 s3 g0 g1 g2 g3
      have hdr : Ext wr wr.drew := (Ext.refl _).drew
      refine wpTail_cons rfl (fun K hK => ?_)
      go_wp2_with fail
      refine (rlead_any _ ps cs s j wr.drew (HPI.out.ext hdr) hpk (by omega)).mono ?_
      rintro e w9 ⟨v7, rfl, hS7, hE7⟩
      obtain ⟨pz, cz, rfl, hkz, hiz7⟩ := hS7.ints
      have e9 : Ext wr w9 := hdr.trans hE7
      have hS9 : Kp wq (fun x => x = bo) wr w9 := Kp.of_ext HM.out.ext (fun q hq => by rw [hq]; exact HM.out.box.lt) e9
      have HC := Lib.hid (HPUT.out w9 e9 pz cz hkz (hiz7.mono fun b hb hlt => ⟨⟨hb.1, hlt⟩, rfl⟩))
      clear hiz7 hS7 hkz HPUT hE7
      go_wp2_with fail
      refine hK _ _ hS9 ?_
      try simp only [Act.put, List.setIfInBounds_toArray, List.set]
      clear hK
      refine wpTail_cons rfl (fun K hK => ?_)
      go_wp2_with fail
      refine HC.out.mono ?_
      rintro e w10 ⟨v4, v5, rfl, hO1, hO2, hkp⟩
      obtain ⟨pv4, cv4, rfl, _⟩ := hO1.form
      obtain ⟨pv5, cv5, rfl, _, _⟩ := hO2.items (by omega)
      have hS10 : Kp wq (fun x => x = bo) wr w10 := hS9.trans (hkp.sub fun q hq => .inl hq)
      go_wp2_with fail
      refine hK _ _ hS10 ?_
      try simp only [Act.put, List.setIfInBounds_toArray, List.set]
      clear hK
      refine wpTail_free1 rfl (by kernel_rfl) ?_
      have hb10 := hkp.box (.inl rfl) (HM.out.box.ext e9)
      obtain ⟨s0, s1, s2, s3⟩ := hb10.cell
      have t0 := hb10.free 0
      have t1 := hb10.free 1
      have t2 := hb10.free 2
      have t3 := hb10.free 3
      obtain ⟨gg1, gg2, gg3⟩ := hb10.put4 hkp.1 hbB (.int .i64 kx) (.slice p8 sh.length c8) (.slice pv4 n9.length cv4) (.slice pv5 it9.length cv5)
      have HNX := Lib.hid (rj_next HM.out HS.out e9 hkp hO1 hO2 gg1 gg2 gg3)
      clear gg1 gg2 gg3 hb10 hkp hO1 hO2 HM HS HC hS9 hS10 hS0
      go_wp2_with fail
      refine OnlyN.mk ?_
      obtain ⟨hM1, hS1⟩ := HNX.out
      clear HNX s0 s1 s2 s3 t0 t1 t2 t3 e9
      generalize ((((w10.setCell ⟨bo, 0, none⟩ (.int .i64 kx)).setCell ⟨bo, 1, none⟩ (.slice p8 sh.length c8)).setCell ⟨bo, 2, none⟩ (.slice pv4 n9.length cv4)).setCell ⟨bo, 3, none⟩ (.slice pv5 it9.length cv5)) = w11 at *
      go_wp2_with fail
      go_roundw
      case rel => exact ⟨i + 1, _, _, n9, it9, by go_num, by omega, hn1, hl1, hM1, hS1, Lib.hid HGN2.out.symm, Lib.hid HGI2.out.symm⟩
      case measure => simp [intOf]; omega
    obtain ⟨b, off, c0, c1, c2, c3, rfl, _, g0, g1, g2, g3, hx⟩ := ItemsAt.get l _ 0 i (HL.out.ext hEw) hlt
    obtain ⟨b', off', e0, e1, e2, e3, hpe, _, f0, f1, f2, f3, hx0⟩ := ItemsAt.get l _ 0 0 (HL.out.ext hEw) (by omega)
    cases hpe
    simp only [Nat.zero_add, Nat.zero_mul, Nat.add_zero] at g0 g1 g2 g3 f0 f1 f2 f3
    have hxm : l[i] ∈ l := List.getElem_mem hlt
    have hh0 : (l.headD default).k = (l[0]).k := by cases l with | nil => simp at hlt | cons a r => rfl
    have hk0 : e0 = .int .i64 (l[0]).k := by
      cases hq : l[0]
      rw [hq] at hx0
      unfold ArrAt at hx0
      exact hx0.1
    have hki : c0 = .int .i64 (l[i]).k := by
      cases hq : l[i]
      rw [hq] at hx
      unfold ArrAt at hx
      exact hx.1
    subst hk0
    subst hki
    obtain ⟨ps, cs, rfl, hpk, hpi⟩ := hx.shape
    have HPI := Lib.hid hpi
    rw [← hh0] at f0
    by_cases hkk : (l[i]).k = (l.headD default).k
    rotate_left
    · have hnb : ((l[i]).k == (l.headD default).k) = false := by simpa using hkk
      have hbne : ((l[i]).k != (l.headD default).k) = true := by simpa using hkk
      have HWF : Hid (wrongV frame l like = 14) := Lib.hid (wrongV_kind HSR.out HSZ.out (by intro e; rw [e] at hl0; exact hl0 rfl) HALL.out hxm hkk)
      generalize (l[i]).k = ki at *
      generalize (l.headD default).k = kh at *
      clear hkk hx hx0 hh0 hpi hO hxm
      go_upto_region 22 with (fail)
      go_quiet (fail)
      clear f0 f1 f2 f3 g0 g1 g2 g3
      have hEd : Ext wq (wq.drewN nq) := (Ext.refl _).drewN _
      generalize wq.drewN nq = wd at *
      have HBr := Lib.hid (HBro.out.ext (hE.trans hEd))
      have HE9 := Lib.hid (hEw.trans hEd)
      clear hE hEw hEd
      have hjv : rt = Arr.zero ∧ re = 14 := by have h := HJV.out; rw [joinV_wrong HWF.out (by omega)] at h; exact ⟨(Prod.mk.inj h).1.symm, (Prod.mk.inj h).2.symm⟩
      obtain ⟨rfl, rfl⟩ := hjv
      clear HJV
      have hbr9 := HBr.out
      obtain ⟨x0, x1, x2, x3⟩ := hbr9.cell
      have y0 := hbr9.free 0
      have y1 := hbr9.free 1
      have y2 := hbr9.free 2
      have y3 := hbr9.free 3
      obtain ⟨gg3, gg4, gg5⟩ := hbr9.put4 HE9.out (by omega) (.int .i64 0) (.slice none 0 0) (.slice none 0 0) (.slice none 0 0)
      have HG := Lib.hid (And.intro gg3 gg4)
      clear gg3 gg4 gg5 hbr9
      go_wp2_with fail
      obtain ⟨gg3, gg4⟩ := HG.out
      clear HG
      generalize ((((wd.setCell ⟨w.heap.size + 1, 0, none⟩ (.int .i64 0)).setCell ⟨w.heap.size + 1, 1, none⟩ (.slice none 0 0)).setCell ⟨w.heap.size + 1, 2, none⟩ (.slice none 0 0)).setCell ⟨w.heap.size + 1, 3, none⟩ (.slice none 0 0)) = wz at *
      obtain ⟨z0, z1, z2, z3⟩ := gg4.cell
      refine bodyPost_ret (v := .tuple #[.agg #[.int .i64 0, .slice none 0 0, .slice none 0 0, .slice none 0 0], .int .i64 14]) ?_ rfl ⟨.int .i64 0, .slice none 0 0, .slice none 0 0, .slice none 0 0, rfl, Arr.zero_at _ _, gg3⟩
      simp [results, Try.results48, go_sem, z0, z1, z2, z3]
    have hkk2 : ∀ x ∈ l.take (i + 1), x.k = (l.headD default).k := fun x hx => by
      rw [List.take_succ_eq_append_getElem hlt] at hx
      rcases List.mem_append.1 hx with hx | hx
      · exact HKi.out x hx
      · rw [List.mem_singleton] at hx; rw [hx]; exact hkk
    have HKK := Lib.hid hkk2
    have hst := HCi.out
    rw [List.drop_eq_getElem_cons hlt, commonGo] at hst
    have HST := Lib.hid hst
    have hsm : (l[i]).sh.length ≤ j := by have := (rankMax_ge l 0).2 _ hxm; rw [← HMR.out] at this; exact this
    have hbnf : ((l[i]).k != (l.headD default).k) = false := by simpa using hkk
    clear hst hkk2 HCi HKi hkk hh0 hpi hx hx0 hO
    generalize (l[i]).k = ki at *
    generalize (l.headD default).k = kh at *
    go_upto_region 22 with (fail)
    go_quiet (fail)
    have hEd : Ext wq (wq.drewN nq) := (Ext.refl _).drewN _
    replace g0 := hEd.cell g0
    replace g1 := hEd.cell g1
    replace g2 := hEd.cell g2
    replace g3 := hEd.cell g3
    replace HO := Lib.hid (HO.out.ext hEd)
    replace HE6 := Lib.hid (HE6.out.trans hEd)
    replace HPI := Lib.hid (HPI.out.ext hEd)
    clear f0 f1 f2 f3 hEw hE
    generalize wq.drewN nq = wd at *
    clear hEd
    go_wp2_with fail
    refine (rlead_any _ ps cs (l[i]).sh j wd HPI.out hpk (by omega)).mono ?_
    rintro e w7 ⟨v7, rfl, hS, hE7⟩
    rw [leadV_len hsm] at hS
    have hol := HO.out.1
    have hll := leadV_len hsm
    have HZ : Hid (∀ q, q < j → (zipMax o (leadV (l[i]).sh j)).getD q 0 = if o.getD q 0 < (leadV (l[i]).sh j).getD q 0 then (leadV (l[i]).sh j).getD q 0 else o.getD q 0) := Lib.hid (fun q hq => zipMax_getD _ _ q (by rw [hll, hol]) (by omega))
    have hzl : (zipMax o (leadV (l[i]).sh j)).length = j := by rw [zipMax_len _ _ (by rw [hll, hol]), hol]
    obtain ⟨pz, cz, rfl, _⟩ := hS.form
    have HS := Lib.hid hS
    have HO7 := Lib.hid (HO.out.ext hE7)
    have HE7 := Lib.hid (HE6.out.trans hE7)
    have HWD := Lib.hid (show wo.heap.size ≤ wd.heap.size from HE6.out.lt)
    have HWL := Lib.hid (HO.out.2.2.1.lt)
    generalize zipMax o (leadV (l[i]).sh j) = zm at *
    generalize leadV (l[i]).sh j = ld at *
    clear hS hE7 HE6 HO HPI g0 g1 g2 g3 hll
    go_wp2_with fail
    go_loopw [14] (fun qv wr => ∃ (q : Nat) (u : List Int), qv = .int .i64 (q : Int) ∧ q ≤ j ∧ OwnI wo.heap.size (fun _ => False) wr (.slice pc j cc) j u ∧ OwnI wd.heap.size (fun _ => False) wr (.slice pz j cz) j ld ∧ Ext wo wr ∧ Hid (∀ k, k < j → u.getD k 0 = if k < q then zm.getD k 0 else o.getD k 0)) (fun qv _ => j - (intOf qv).toNat)
    case atStart => exact ⟨0, o, rfl, Nat.zero_le _, HO7.out, HS.out, HE7.out, Lib.hid (fun k hk => by simp)⟩
    case round =>
    obtain ⟨q, u, rfl, hqj, hU, hLd, hE, HU⟩ := hrel
    obtain ⟨wi, rfl⟩ : ∃ wx : World, wx = wr := ⟨_, rfl⟩
    clear HO7 HS HE7
    by_cases hql : q < j
    rotate_left
    · have hqe : q = j := by omega
      have huz : u = zm := by
        apply list_ext_getD (by rw [hU.1, hzl])
        intro k hk
        have := HU.out k (by have := hU.1; omega)
        rw [this, if_pos (by have := hU.1; omega)]
      subst huz
      have HU2 := Lib.hid hU
      have HE8 := Lib.hid hE
      clear HU hU hLd hE hqe hzl HZ hol
      go_wp2_with fail
      go_roundw
      case rel => exact ⟨i + 1, _, by go_num, by omega, HU2.out, HE8.out, HST, HKK⟩
      case measure => simp [intOf]; omega
    · have hU2 := hU.ext ((Ext.refl wi).drew)
      have hLd2 := hLd.ext ((Ext.refl wi).drew)
      have hul := hU.1
      have hcu := getD_mem (P := fun x => -9223372036854775808 ≤ x ∧ x ≤ 9223372036854775807) hU.2.2.2.2 (j := q) (by omega)
      have hcv := getD_mem (P := fun x => -9223372036854775808 ≤ x ∧ x ≤ 9223372036854775807) hLd.2.2.2.2 (j := q) (by have := hLd.1; omega)
      have hou : o.getD q 0 = u.getD q 0 := by have := HU.out q hql; rw [if_neg (by omega)] at this; exact this.symm
      obtain ⟨gc, rfl, hB1, hl1, hc1, hf1, hset1⟩ := hU2.at' hql
      obtain ⟨gs, rfl, hB2, hl2, hc2, hf2, hset2⟩ := hLd2.at' hql
      have hgcl := (HWL.out gc rfl).2
      have hz := HZ.out q hql
      rw [hou] at hz
      clear hset2 hU hLd hf2
      generalize u.getD q 0 = cu at *
      generalize ld.getD q 0 = cv at *
      by_cases hmx : cu < cv
      · skip
        rw [if_pos hmx] at hz
        have HQ1 := Lib.hid (hset1 cv hcv)
        have HQ2 := Lib.hid (hLd2.same (Y := fun _ => False) (w' := wi.drew.setCell ⟨gc, q, none⟩ (.int .i64 cv)) fun g hg _ hx => ⟨Below.heap_setCell _ _ _ _ (by simp only [Value.ownBlock, Option.some.injEq] at hg; show g ≠ gc; omega), hx⟩)
        have HQ3 := Lib.hid ((hE.drew).setCell (p := ⟨gc, q, none⟩) hB1 (.int .i64 cv))
        have HUU : Hid (∀ k, k < j → (u.set q cv).getD k 0 = if k < q + 1 then zm.getD k 0 else o.getD k 0) := Lib.hid (fun k hk => by
          by_cases hkq : k = q
          · rw [hkq, if_pos (by omega), hz, List.getD, List.getElem?_set_self (by omega)]; rfl
          · have := HU.out k hk
            rw [List.getD, List.getElem?_set_ne (fun e => hkq e.symm)]
            rw [List.getD] at this
            rw [this]
            by_cases h1 : k < q
            · rw [if_pos h1, if_pos (by omega)]
            · rw [if_neg h1, if_neg (by omega)])
        clear hset1 HU hz hou hLd2 hU2 hE hcu hcv
        go_wp2_with fail
        have hS0 : wi.drew.cell? ⟨gc, q, none⟩ = some (.int .i64 cu) ∧ wi.drew.cell? ⟨gs, q, none⟩ = some (.int .i64 cv) := ⟨hc1, hc2⟩
        refine wp_region_g [0, 1, 2, 3, 4, 5, 6, 7, 8, 9, 10] [11, 12] (fun w' => w'.cell? ⟨gc, q, none⟩ = some (.int .i64 cu) ∧ w'.cell? ⟨gs, q, none⟩ = some (.int .i64 cv)) (by kernel_rfl) (by kernel_rfl) hS0 ?_
        iterate 11
          refine wpHead_cons (v := ?_) rfl (by rfl) (fun w' hS => ?_) ?_
          rotate_left
          · obtain ⟨hS1, hS2⟩ := hS
            go_simp
            try with_reducible rfl
          try simp only [Act.put, List.setIfInBounds_toArray, List.set]
        unfold wpHead
        refine wpTail_free2 rfl rfl (by kernel_rfl) ?_
        go_wp2_with fail
        refine OnlyN.mk ?_
        go_wp2_with fail
        go_roundw
        case rel => exact ⟨q + 1, _, by go_num, by omega, HQ1.out, HQ2.out, HQ3.out, HUU⟩
        case measure => simp [intOf]; omega
      · skip
        rw [if_neg hmx] at hz
        have HQ1 := Lib.hid (hset1 cu hcu)
        have HQ2 := Lib.hid (hLd2.same (Y := fun _ => False) (w' := wi.drew.setCell ⟨gc, q, none⟩ (.int .i64 cu)) fun g hg _ hx => ⟨Below.heap_setCell _ _ _ _ (by simp only [Value.ownBlock, Option.some.injEq] at hg; show g ≠ gc; omega), hx⟩)
        have HQ3 := Lib.hid ((hE.drew).setCell (p := ⟨gc, q, none⟩) hB1 (.int .i64 cu))
        have HUU : Hid (∀ k, k < j → (u.set q cu).getD k 0 = if k < q + 1 then zm.getD k 0 else o.getD k 0) := Lib.hid (fun k hk => by
          by_cases hkq : k = q
          · rw [hkq, if_pos (by omega), hz, List.getD, List.getElem?_set_self (by omega)]; rfl
          · have := HU.out k hk
            rw [List.getD, List.getElem?_set_ne (fun e => hkq e.symm)]
            rw [List.getD] at this
            rw [this]
            by_cases h1 : k < q
            · rw [if_pos h1, if_pos (by omega)]
            · rw [if_neg h1, if_neg (by omega)])
        clear hset1 HU hz hou hLd2 hU2 hE hcu hcv
        go_wp2_with fail
        have hS0 : wi.drew.cell? ⟨gc, q, none⟩ = some (.int .i64 cu) ∧ wi.drew.cell? ⟨gs, q, none⟩ = some (.int .i64 cv) := ⟨hc1, hc2⟩
        refine wp_region_g [0, 1, 2, 3, 4, 5, 6, 7, 8, 9, 10] [11, 12] (fun w' => w'.cell? ⟨gc, q, none⟩ = some (.int .i64 cu) ∧ w'.cell? ⟨gs, q, none⟩ = some (.int .i64 cv)) (by kernel_rfl) (by kernel_rfl) hS0 ?_
        iterate 11
          refine wpHead_cons (v := ?_) rfl (by rfl) (fun w' hS => ?_) ?_
          rotate_left
          · obtain ⟨hS1, hS2⟩ := hS
            go_simp
            try with_reducible rfl
          try simp only [Act.put, List.setIfInBounds_toArray, List.set]
        unfold wpHead
        refine wpTail_free2 rfl rfl (by kernel_rfl) ?_
        go_wp2_with fail
        refine OnlyN.mk ?_
        go_wp2_with fail
        go_roundw
        case rel => exact ⟨q + 1, _, by go_num, by omega, HQ1.out, HQ2.out, HQ3.out, HUU⟩
        case measure => simp [intOf]; omega
end Go.Proofs.Ytmpjnjhiklaofaa

namespace Go.Proofs.Ytmpjnjhiklaofaa
set_option linter.unusedSimpArgs false
set_option linter.unusedVariables false
open Go.RowKit

theorem rjoin_rd {w : World} {f : List Int} {l : List Arr} {k t : Arr} {n : Int} {v1 v2 v3 : Value} (ex : joinV f l k = (t, n)) (h1 : RdAll w f v1) (h2 : RdArs w l v2) (h3 : Rd w k v3) :
    Calls Try.prog 48 #[v1, v2, v3] w fun e w' => ∃ x, e = .returned (.tuple #[x, .int .i64 n]) ∧ RdX (fun _ => False) w' t x ∧ Ext w w' := by
  obtain ⟨p, c, rfl, k1, i1⟩ := h1
  obtain ⟨G, q, d, rfl, k2, i2⟩ := h2
  obtain ⟨F, c0, c1, c2, c3, rfl, hA⟩ := h3
  refine (rjoin_any _ G F f p c l q d k _ _ _ _ w i1 k1 i2 k2 hA).mono ?_
  rintro e w' ⟨e0, e1, e2, e3, rfl, hA, hE⟩
  rw [ex] at hA ⊢
  exact ⟨_, rfl, ⟨_, _, _, _, rfl, ArrAt.mono (fun b _ hlt => ⟨⟨hlt, fun h => h⟩, rfl⟩) _ _ _ _ _ hA⟩, hE⟩
set_option maxRecDepth 100000 in
set_option maxHeartbeats 8000000 in
theorem celljoins_any (F G H : Nat → Prop) (fr : List Int) (pf : Option Addr) (cf : Nat) (l : List Arr) (pl : Option Addr) (cl : Nat) (y : Arr) (d0 d1 d2 d3 : Value) (w : World) (hf : IntsAt F w pf fr) (hkf : SlOk fr.length cf) (hl : ItemsAt G w pl 0 l) (hkl : ItOk l.length cl) (hy : ArrAt H w y d0 d1 d2 d3) :
    Calls Try.prog 12 #[.slice pf fr.length cf, .slice pl l.length cl, .agg #[d0, d1, d2, d3]] w fun e w' => e = .returned (.bool true) ∧ Ext w w' := by
  obtain ⟨t, n, hj⟩ : ∃ t n, joinV fr l y = (t, n) := ⟨_, _, rfl⟩
  have HJ := Lib.hid hj
  have hy' := hy
  obtain ⟨ky, r1, sy, n1, r2, ny, n2, r3, iy, n3, rfl, rfl, rfl, rfl⟩ := hy'.form
  have HY := Lib.hid hy
  have HKF := Lib.hid hkf
  have HKL := Lib.hid hkl
  obtain ⟨hkf1, hkf2, hkf3⟩ := hkf
  obtain ⟨hkl1, hkl2, hkl3⟩ := hkl
  have HF0 := Lib.hid hf
  have HL0 := Lib.hid hl
  clear hy hy' hj hf hl
  go_enter Try.func12, Try.ntmps12
  go_upto_region 1 with (fail)
  have hE0 : Ext w (w.alloc (.cells #[.int .i64 ky, .slice r1 sy n1, .slice r2 ny n2, .slice r3 iy n3] 26)) := (Ext.refl _).alloc _
  have hBY := box_new w (.int .i64 ky) (.slice r1 sy n1) (.slice r2 ny n2) (.slice r3 iy n3)
  have HAy := Lib.hid (HY.out.ext hE0)
  have HIF := Lib.hid (HF0.out.ext hE0)
  have HIC := Lib.hid (HL0.out.ext hE0)
  generalize w.alloc (.cells #[.int .i64 ky, .slice r1 sy n1, .slice r2 ny n2, .slice r3 iy n3] 26) = w1 at hE0 hBY HAy HIF HIC ⊢
  have HBy := Lib.hid hBY
  have HE := Lib.hid hE0
  clear hBY hE0 HY HF0 HL0
  obtain ⟨s0, s1, s2, s3⟩ := HBy.out.cell
  by_cases h1 : (20 : Int) < (l.length : Int)
  · have HE1 := HE
    go_wp2_with fail
    refine (cellawake_any _).mono ?_
    rintro e wl ⟨rfl, hEl⟩
    go_wp2_with fail
    go_ret
    exact ⟨rfl, (HE.out).trans hEl⟩
  by_cases h2 : (20 : Int) < (fr.length : Int)
  · have HE1 := HE
    go_wp2_with fail
    refine (cellawake_any _).mono ?_
    rintro e wl ⟨rfl, hEl⟩
    go_wp2_with fail
    go_ret
    exact ⟨rfl, (HE.out).trans hEl⟩
  go_wp2_with fail
  refine (few_any _ _ _ _ _ _ 100 w1 HAy.out).mono ?_
  rintro e w2 ⟨rfl, hE1⟩
  replace HE := Lib.hid (HE.out.trans hE1)
  replace HBy := Lib.hid (HBy.out.ext hE1)
  replace HAy := Lib.hid (HAy.out.ext hE1)
  replace HIF := Lib.hid (HIF.out.ext hE1)
  replace HIC := Lib.hid (HIC.out.ext hE1)
  clear s0 s1 s2 s3 hE1
  cases hf1 : fewV y 100 with
  | false =>
    clear hf1
    go_wp2_with fail
    refine (cellawake_any _).mono ?_
    rintro e wl ⟨rfl, hEl⟩
    go_wp2_with fail
    go_ret
    exact ⟨rfl, (HE.out).trans hEl⟩
  | true =>
  clear hf1 h1 h2
  go_wp2_with fail
  go_loopw [7] (fun iv wr => ∃ (i : Nat), iv = .int .i64 (i : Int) ∧ i ≤ l.length ∧ Ext w2 wr) (fun iv _ => l.length - (intOf iv).toNat)
  case atStart => exact ⟨0, rfl, Nat.zero_le _, Ext.refl _⟩
  case round =>
  obtain ⟨i, rfl, hil, hEr⟩ := hrel
  obtain ⟨wo, rfl⟩ : ∃ wx : World, wx = wr := ⟨_, rfl⟩
  by_cases hlt : i < l.length
  · obtain ⟨b1, f1, c0, c1, c2, c3, rfl, _, g0, g1, g2, g3, hx⟩ := ItemsAt.get l _ 0 i (HIC.out.ext hEr) hlt
    rw [Nat.zero_add] at g0 g1 g2 g3
    generalize l[i] = x at *
    obtain ⟨kx, s, nx, ix⟩ := x
    obtain ⟨ps, cs, rfl, hpk, hpi⟩ := hx.shape
    simp only [Arr.sh] at hpk hpi hx g1
    obtain ⟨hpk1, hpk2, hpk3⟩ := hpk
    have HX := Lib.hid hx
    have HPI := Lib.hid hpi
    clear hx hpi
    go_wp2_with fail
    refine (few_any _ _ _ _ _ _ 100 wo HX.out).mono ?_
    rintro e w3 ⟨rfl, hE1⟩
    replace g1 := hE1.cell g1
    have hE3 := hEr.trans hE1
    replace HPI := Lib.hid (HPI.out.ext hE1)
    clear g0 g2 g3 HX
    cases hf1 : fewV (.mk kx s nx ix) 100 with
    | false =>
      clear hf1 hE1
      go_wp2_with fail
      refine (cellawake_any _).mono ?_
      rintro e wl ⟨rfl, hEl⟩
      go_wp2_with fail
      go_ret
      exact ⟨rfl, (HE.out.trans hE3).trans hEl⟩
    | true =>
    clear hf1 hE1
    by_cases h3 : (3 : Int) < (s.length : Int)
    · skip
      go_wp2_with fail
      refine (cellawake_any _).mono ?_
      rintro e wl ⟨rfl, hEl⟩
      go_wp2_with fail
      go_ret
      exact ⟨rfl, (HE.out.trans hE3).trans hEl⟩
    go_wp2_with fail
    go_loopw [8] (fun jv wr => ∃ (j : Nat), jv = .int .i64 (j : Int) ∧ j ≤ s.length ∧ Ext w3 wr) (fun jv _ => s.length - (intOf jv).toNat)
    case atStart => exact ⟨0, rfl, Nat.zero_le _, Ext.refl _⟩
    case round =>
    obtain ⟨j, rfl, hjl, hEj⟩ := hrel
    have hE4 := hE3.trans hEj
    have g1' := hEj.cell g1
    by_cases hjt : j < s.length
    · obtain ⟨b2, f2, rfl, a1, _, _⟩ := (HPI.out.ext hEj).get (i := j) hjt
      have hjB : s[j]?.getD 0 = s.getD j 0 := rfl
      generalize s.getD j 0 = dv at *
      clear hjB
      by_cases h12 : (12 : Int) < dv
      · clear hE3 hEj g1
        go_wp2_with fail
        refine (cellawake_any _).mono ?_
        rintro e wl ⟨rfl, hEl⟩
        go_wp2_with fail
        go_ret
        exact ⟨rfl, (HE.out.trans hE4).trans hEl⟩
      · clear hE3 g1
        go_wp2_with fail
        go_roundw
        case rel => exact ⟨j + 1, by go_num, by omega, hEj⟩
        case measure => simp [intOf]; omega
    · have hje : j = s.length := by omega
      subst hje
      clear hE3 hjt hjl
      go_wp2_with fail
      go_roundw
      case rel => exact ⟨i + 1, by go_num, by omega, hE4⟩
      case measure => simp [intOf]; omega
  have hie : i = l.length := by omega
  subst hie
  replace HE := Lib.hid (HE.out.trans hEr)
  replace HBy := Lib.hid (HBy.out.ext hEr)
  replace HAy := Lib.hid (HAy.out.ext hEr)
  replace HIF := Lib.hid (HIF.out.ext hEr)
  replace HIC := Lib.hid (HIC.out.ext hEr)
  clear hEr hlt hil
  obtain ⟨s0, s1, s2, s3⟩ := HBy.out.cell
  have hra : RdAll wo fr (.slice pf fr.length cf) := ⟨pf, cf, rfl, HKF.out, HIF.out.mono fun _ _ _ => ⟨trivial, rfl⟩⟩
  have hrs : RdArs wo l (.slice pl l.length cl) := ⟨_, pl, cl, rfl, HKL.out, HIC.out⟩
  have HRA := Lib.hid hra
  have HRS := Lib.hid hrs
  clear hra hrs
  go_wp2_with fail
  refine (join_rd (X := fun _ => False) HJ.out HRA.out HRS.out (Rd.mk HAy.out) (fun _ h => False.elim h)).mono ?_
  rintro e w8 ⟨x8, rfl, h8', hE8⟩
  clear s0 s1 s2 s3
  have HX8 := Lib.hid hE8
  obtain ⟨c0, c1, c2, c3, rfl, hA9⟩ := h8'
  obtain ⟨ky51, pay51, lay51, may51, pby51, lby51, mby51, pcy51, lcy51, mcy51, rfl, rfl, rfl, rfl⟩ := hA9.form
  have hEn := (hE8).alloc (.cells #[(.int .i64 ky51), (.slice pay51 lay51 may51), (.slice pby51 lby51 mby51), (.slice pcy51 lcy51 mcy51)] 26)
  have hBn := box_new w8 (.int .i64 ky51) (.slice pay51 lay51 may51) (.slice pby51 lby51 mby51) (.slice pcy51 lcy51 mcy51)
  have hAn := hA9.ext ((Ext.refl _).alloc (.cells #[(.int .i64 ky51), (.slice pay51 lay51 may51), (.slice pby51 lby51 mby51), (.slice pcy51 lcy51 mcy51)] 26))
  clear hA9 hE8
  have HF := Lib.hid (And.intro hEn (And.intro hBn hAn))
  clear hEn hBn hAn
  go_upto_region 14 with (fail)
  obtain ⟨hEn, hBn, hAn⟩ := HF.out
  clear HF
  generalize hbz : w8.heap.size = by51 at *
  clear hbz
  generalize w8.alloc (.cells #[(.int .i64 ky51), (.slice pay51 lay51 may51), (.slice pby51 lby51 mby51), (.slice pcy51 lcy51 mcy51)] 26) = wk52 at *
  replace HBy := Lib.hid (HBy.out.ext hEn)
  replace HAy := Lib.hid (HAy.out.ext hEn)
  replace HIF := Lib.hid (HIF.out.ext hEn)
  replace HIC := Lib.hid (HIC.out.ext hEn)
  replace HE := Lib.hid (HE.out.trans (hEn))
  have HBj := Lib.hid hBn
  have HAj := Lib.hid hAn
  clear hEn hBn hAn
  replace HRA := Lib.hid (show RdAll wk52 fr (.slice pf fr.length cf) from ⟨pf, cf, rfl, HKF.out, HIF.out.mono fun _ _ _ => ⟨trivial, rfl⟩⟩)
  replace HRS := Lib.hid (show RdArs wk52 l (.slice pl l.length cl) from ⟨_, pl, cl, rfl, HKL.out, HIC.out⟩)
  clear HX8
  obtain ⟨s0, s1, s2, s3⟩ := HBy.out.cell
  go_wp2_with fail
  refine (rjoin_rd HJ.out HRA.out HRS.out (Rd.mk HAy.out)).mono ?_
  rintro e w9 ⟨x9, rfl, h9', hE9⟩
  clear s0 s1 s2 s3 HRA HRS
  obtain ⟨c0, c1, c2, c3, rfl, hA9⟩ := h9'
  obtain ⟨ky61, pay61, lay61, may61, pby61, lby61, mby61, pcy61, lcy61, mcy61, rfl, rfl, rfl, rfl⟩ := hA9.form
  have hEn := (hE9).alloc (.cells #[(.int .i64 ky61), (.slice pay61 lay61 may61), (.slice pby61 lby61 mby61), (.slice pcy61 lcy61 mcy61)] 26)
  have hBn := box_new w9 (.int .i64 ky61) (.slice pay61 lay61 may61) (.slice pby61 lby61 mby61) (.slice pcy61 lcy61 mcy61)
  have hAn := hA9.ext ((Ext.refl _).alloc (.cells #[(.int .i64 ky61), (.slice pay61 lay61 may61), (.slice pby61 lby61 mby61), (.slice pcy61 lcy61 mcy61)] 26))
  clear hA9 hE9
  have HF := Lib.hid (And.intro hEn (And.intro hBn hAn))
  clear hEn hBn hAn
  go_upto_region 15 with (fail)
  obtain ⟨hEn, hBn, hAn⟩ := HF.out
  clear HF
  generalize hbz : w9.heap.size = by61 at *
  clear hbz
  generalize w9.alloc (.cells #[(.int .i64 ky61), (.slice pay61 lay61 may61), (.slice pby61 lby61 mby61), (.slice pcy61 lcy61 mcy61)] 26) = wk62 at *
  replace HBy := Lib.hid (HBy.out.ext hEn)
  replace HAy := Lib.hid (HAy.out.ext hEn)
  replace HBj := Lib.hid (HBj.out.ext hEn)
  replace HAj := Lib.hid (HAj.out.ext hEn)
  replace HE := Lib.hid (HE.out.trans (hEn))
  have HBk := Lib.hid hBn
  have HAk := Lib.hid hAn
  clear hEn hBn hAn
  obtain ⟨s0, s1, s2, s3⟩ := HBj.out.cell
  obtain ⟨t0, t1, t2, t3⟩ := HBk.out.cell
  go_wp2_with fail
  refine (same_true (Rd.mk HAj.out) (Rd.mk HAk.out) rfl rfl).mono ?_
  rintro e wg ⟨rfl, hEg⟩
  clear s0 s1 s2 s3 t0 t1 t2 t3
  go_wp2_with fail
  refine (cellawake_any _).mono ?_
  rintro e wl ⟨rfl, hEl⟩
  go_wp2_with fail
  go_ret
  exact ⟨rfl, (HE.out.trans hEg).trans hEl⟩

end Go.Proofs.Ytmpjnjhiklaofaa
