/- Contracts of the reference's flows together: Arrive, Serve. Condition: numbers of 64 bits. -/
import Derived.Test.YtkdbglfdgeldpaaGreatRSfq
namespace Go.Proofs.YtkdbglfdgeldpaaGreat
open Go.Lt
section
variable {R : Base} {F : List HP} {w : World}
theorem rfl_give {ps : List Nat} {Fl : Fs} {k b : Nat} {x : Int × Flw} (hb : ps[k]? = some b) (hk : k < Fl.length) (h : Holds R (RFlowC b x :: All ((rfl_ ps Fl).eraseIdx k) :: F) w) : Holds R (All (rfl_ ps (Fl.set k x)) :: F) w := by
  rw [← rfl_set hb]
  have := (List.getElem?_eq_some_iff.1 hb).1
  exact h.all_give (by unfold rfl_; simp; omega)
theorem rfl_back {ps : List Nat} {Fl : Fs} {k b : Nat} {x y : Int × Flw} (hb : ps[k]? = some b) (hx : Fl[k]? = some x) (he : y = x) (h : Holds R (RFlowC b y :: All ((rfl_ ps Fl).eraseIdx k) :: F) w) : Holds R (All (rfl_ ps Fl) :: F) w := by
  subst he
  obtain ⟨hk, hx'⟩ := List.getElem?_eq_some_iff.1 hx
  have := rfl_give hb hk h
  rwa [← hx', List.set_getElem_self] at this
theorem Sq.flw_ok {s : Sq} (hok : s.ok) {i : Nat} {x : Int × Flw} (hx : s.F[i]? = some x) : Nm x.1 ∧ x.2.ok := hok.1 x (List.mem_of_getElem? hx)
theorem r09_Arrive {b : Nat} {s : Sq} (hok : s.ok) (p : Packet) (hH : Holds R (RSfqC b s :: F) w) :
    Ret Tryz.prog 75 [.pointer (some ⟨b, 0, none⟩), vP p] w fun v w' => v = .int .i64 (s.arrive p).1 ∧ Holds R (RSfqC b (s.arrive p).2 :: F) w' := by
  have hlen := hok.2.2.2
  cases hat : s.at p.flow with
  | none =>
    have e1 : s.arrive p = (5, s) := by unfold Sq.arrive; rw [hat]
    rw [e1]
    refine ret_of_g (n := 26) Tryz.func75 rfl rfl (by simp) ?_
    refine g_seq ?_
    refine g_region (l := [0, 1]) rfl ?_
    refine o_box (lv rfl) rfl (cs := [_, _, _]) rfl rfl hH ?_
    intro b3 w hH
    refine vA (lv rfl) rfl rfl ?_
    refine g_seq ?_
    refine g_region (l := [0, 1, 2, 3, 4]) rfl ?_
    refine vM (lv rfl) rfl rfl ?_
    refine o_v (lv rfl) rfl (r_fa fa_54_0 rfl) ?_
    refine o_ld (lv rfl) rfl lk_3 rfl ⟨_, _, _, hH.c0, _, rfl, ?_⟩
    refine o_call (lv rfl) rfl en_63 rfl (r09_At hok p.flow hH.p1) ?_
    rintro _ w ⟨rfl, hH⟩
    rw [hat]
    refine vA (lv rfl) rfl rfl ?_
    refine g_seq ?_
    refine g_seq ?_
    refine g_region (l := [0, 1]) rfl ?_
    refine vM (lv rfl) rfl rfl ?_
    refine o_v (lv rfl) rfl (r_lt rfl rfl) ?_
    refine g_if rfl (fun c0 => ?_) (fun c0 => ?_)
    ·refine g_seq ?_
     refine g_region (l := [0]) rfl ?_
     refine vA (lv rfl) rfl rfl ?_
     refine g_rq Tryz.func75 (res_t rfl res_0) ?_
     exact ⟨rfl, (hH.sel (by repeat' (first | exact Sel.refl _ | refine Sel.q0 ?_ | refine Sel.skip _ ?_)))⟩
    ·simp [atI] at c0
  | some k =>
    obtain ⟨x, hx, hxi⟩ := Sq.at_spec hat
    have hkl := (List.getElem?_eq_some_iff.1 hx).1
    have e1 : s.arrive p = if (x.2.l.length : Int) = x.2.most then (9, s) else (0, s.put k (x.1, x.2.arrive s.v p)) := by unfold Sq.arrive; rw [hat]; simp only [hx]
    rw [e1]
    refine ret_of_g (n := 26) Tryz.func75 rfl rfl (by simp) ?_
    refine g_seq ?_
    refine g_region (l := [0, 1]) rfl ?_
    refine o_box (lv rfl) rfl (cs := [_, _, _]) rfl rfl hH ?_
    intro b3 w hH
    refine vA (lv rfl) rfl rfl ?_
    refine g_seq ?_
    refine g_region (l := [0, 1, 2, 3, 4]) rfl ?_
    refine vM (lv rfl) rfl rfl ?_
    refine o_v (lv rfl) rfl (r_fa fa_54_0 rfl) ?_
    refine o_ld (lv rfl) rfl lk_3 rfl ⟨_, _, _, hH.c0, _, rfl, ?_⟩
    refine o_call (lv rfl) rfl en_63 rfl (r09_At hok p.flow hH.p1) ?_
    rintro _ w ⟨rfl, hH⟩
    rw [hat]; show OPS _ _ _ _ _ (updO _ _ (.int .i64 (k : Int))) _
    refine vA (lv rfl) rfl rfl ?_
    refine g_seq ?_
    refine g_seq ?_
    refine g_region (l := [0, 1]) rfl ?_
    refine vM (lv rfl) rfl rfl ?_
    refine o_v (lv rfl) rfl (r_lt rfl rfl) ?_
    refine g_if rfl (fun c0 => ?_) (fun c0 => ?_)
    ·omega
    ·obtain ⟨fv, ps, hl, hH⟩ := RSfqC.op hH
     obtain ⟨a, cap, rfl, hc⟩ := hH.p1.rd.len
     obtain ⟨b1, hb1, a1, cap1, hblk⟩ := rflow_at hl hH.p2 hx
     obtain ⟨bp, op_, cs0, T0, rfl, -, -⟩ := Rd.el (i := k) hkPtr hH.p1.rd hb1
     obtain ⟨cs, T, hbp, hcp⟩ := pel hH.p1 hb1
     replace hH := hH.p2.all_take (rfl_get hb1 hx)
     refine g_skip ?_
     refine g_seq ?_
     refine g_seq ?_
     refine g_regionD mixed ?_
     rintro w1 rfl; replace hH := hH.drew (n := w.drawn + 1); replace hblk := drewf (n := w.drawn + 1) hblk; replace hbp := drewf (n := w.drawn + 1) hbp; generalize hw1 : { w with drawn := w.drawn + 1 } = w at hH ⊢; rw [hw1] at hblk; rw [hw1] at hbp; clear hw1
     refine pM 0 (lv rfl) rfl rfl ?_
     refine pN 1 (lv rfl) rfl rfl ?_
     refine pF 2 (lv rfl) rfl fa_67_0 rfl ?_
     refine d_ld (i := 3) [12] (lv rfl) rfl lk_65 rfl (by kernel_rfl) ⟨_, _, _, hH.c2, _, rfl, ?_⟩
     refine pM 4 (lv rfl) rfl rfl ?_
     refine d_p (i := 5) (lv rfl) rfl (fun w => (r_ia el_65 rfl rfl ?_ ?_)) (by kernel_rfl) ?_; omega; omega
     refine d_ld (i := 6) [12] (lv rfl) rfl lk_124 rfl (by kernel_rfl) ⟨_, _, _, hbp, _, hcp, ?_⟩
     refine pM 7 (lv rfl) rfl rfl ?_
     refine pN 8 (lv rfl) rfl rfl ?_
     refine pF 9 (lv rfl) rfl fa_67_1 rfl ?_
     refine d_ld (i := 10) [12] (lv rfl) rfl lk_22 rfl (by kernel_rfl) ⟨_, _, _, hH.c2, _, rfl, ?_⟩
     refine d_ldN (i := 11) [12] (lv rfl) rfl lk_54 rfl (by kernel_rfl) ⟨_, _, _, hH.c4, [_, _, _], rfl, rfl, ?_⟩
     refine d_l (j := 12) (by kernel_rfl) ?_
     refine o_call (lv rfl) rfl en_111 rfl (r09_FArrive (Sq.flw_ok hok hx).2 s.v p hH) ?_
     rintro _ w ⟨rfl, hH⟩
     refine ⟨(keeps_in rfl (keeps_in rfl (keeps_in rfl (keeps_in rfl trivial)))), ?_⟩
     refine d_p (i := 13) (lv rfl) rfl (fun w => (r_notD rfl)) (by kernel_rfl) ?_
     refine d_end (by kernel_rfl) ?_
     refine g_if rfl (fun c1 => ?_) (fun c1 => ?_)
     ·refine g_seq ?_
      refine g_region (l := [0]) rfl ?_
      refine vA (lv rfl) rfl rfl ?_
      refine g_rq Tryz.func75 (res_t rfl res_0) ?_
      have hne : (x.2.l.length : Int) = x.2.most := by simpa using c1
      rw [if_pos hne] at hH ⊢
      exact ⟨rfl, RSfqC.mk hl (Holds.p2 (Holds.p2 (rfl_back (x := x) hb1 hx rfl (hH.sel (by repeat' (first | exact Sel.refl _ | refine Sel.q0 ?_ | refine Sel.skip _ ?_))))))⟩
     ·refine g_skip ?_
      refine g_seq ?_
      refine g_region (l := [0]) rfl ?_
      refine vA (lv rfl) rfl rfl ?_
      refine g_rq Tryz.func75 (res_t rfl res_0) ?_
      have hne : ¬ (x.2.l.length : Int) = x.2.most := by simpa using c1
      rw [if_neg hne] at hH ⊢
      exact ⟨rfl, RSfqC.mk (s := s.put k (x.1, x.2.arrive s.v p)) (by simp [Sq.put, hl]) (Holds.p2 (Holds.p2 (rfl_give (x := (x.1, x.2.arrive s.v p)) hb1 hkl (hH.sel (by repeat' (first | exact Sel.refl _ | refine Sel.q0 ?_ | refine Sel.skip _ ?_))))))⟩
theorem bestB_S {Fl : Fs} {k : Nat} {x : Int × Flw} (hx : Fl[k]? = some x) : bestB Fl (k + 1) = if x.2.l.length = 0 then bestB Fl k else match bestB Fl k with
      | none => some k
      | some j => if x.2.start < startOf Fl j then some k else some j := by
  conv => lhs; unfold bestB
  simp only [hx]
  split
  ·rfl
  ·cases bestB Fl k <;> rfl
theorem serve_none {s : Sq} (h : bestB s.F s.F.length = none) : s.serve = (none, { s with v := max s.v s.most }) := by unfold Sq.serve; rw [h]
theorem serve_some {s : Sq} {j : Nat} {x : Int × Flw} {p : Packet} {l : List Packet} (h : bestB s.F s.F.length = some j) (hx : s.F[j]? = some x) (hl : x.2.l = p :: l) : s.serve = (some p, { F := s.F.set j (x.1, x.2.serve p), v := x.2.start, most := max s.most (x.2.fin p) }) := by
  unfold Sq.serve; rw [h]; simp only [hx, hl]
theorem r09_Serve {b : Nat} {s : Sq} (hok : s.ok) (hH : Holds R (RSfqC b s :: F) w) :
    Ret Tryz.prog 112 [.pointer (some ⟨b, 0, none⟩)] w fun v w' => v = .tuple #[vP (s.serve.1.getD ⟨0, 0, 0⟩), .bool s.serve.1.isSome] ∧ Holds R (RSfqC b s.serve.2 :: F) w' := by
  have hlen := hok.2.2.2
  obtain ⟨fv, ps, hl, hH⟩ := RSfqC.op hH
  obtain ⟨a, cap, rfl, hc⟩ := hH.p1.rd.len
  refine ret_of_g (n := 108) Tryz.func112 rfl rfl (by simp) ?_
  refine g_seq ?_
  refine g_region (l := [0, 1]) rfl ?_
  refine o_al (lv rfl) rfl ze_54 hH ?_
  intro b2 w hH
  refine vA (lv rfl) rfl rfl ?_
  refine g_seq ?_
  refine g_region (l := [0]) rfl ?_
  refine vA (lv rfl) rfl rfl ?_
  refine g_seq ?_
  refine g_seq ?_
  refine g_region (l := [0]) rfl ?_
  refine vA (lv rfl) rfl rfl ?_
  refine g_block ?_
  refine g_loop (fun m e w => ∃ (k : Nat) (e0 : Env), k ≤ s.F.length ∧ m = s.F.length - k ∧ e = J e0 [(0, .pointer (some ⟨b, 0, none⟩)), (2, .pointer (some ⟨b2, 0, none⟩)), (3, .bool false), (4, .int .i64 (atI (bestB s.F k))), (5, .int .i64 k)] ∧
      Holds R (cel b2 [.int .i64 0, .int .i64 0, .int .i64 0] 54 :: cel b [.slice a ps.length cap, .int .u64 s.v, .int .u64 s.most] 67 :: Vec 124 1 encPtr (.slice a ps.length cap) ps :: All (rfl_ ps s.F) :: F) w) s.F.length ⟨0, _, by omega, by omega, (J_self (has_s rfl (has_s rfl (has_s rfl (has_s rfl (has_s rfl has_0)))))), hH⟩ ?_
  rintro m _ w ⟨k, e0, hk, hm, rfl, hH⟩ hback
  refine g_seq ?_
  refine g_seq ?_
  refine g_region (l := [0, 1, 2, 3, 4, 5, 6]) rfl ?_
  refine vM (lv rfl) rfl rfl ?_
  refine vM (lv rfl) rfl rfl ?_
  refine o_v (lv rfl) rfl (r_nil rfl) ?_
  refine o_v (lv rfl) rfl (r_fa fa_67_0 rfl) ?_
  refine o_ld (lv rfl) rfl lk_65 rfl ⟨_, _, _, hH.c1, _, rfl, ?_⟩
  refine o_v (lv rfl) rfl (r_len el_65 rfl) ?_
  refine o_v (lv rfl) rfl (r_lt rfl rfl) ?_
  refine g_if rfl (fun c0 => ?_) (fun c0 => ?_)
  ·have hkl : k < s.F.length := by omega
   obtain ⟨x, hx⟩ : ∃ x, s.F[k]? = some x := ⟨_, List.getElem?_eq_getElem hkl⟩
   obtain ⟨b1, hb1, a1, cap1, hblk⟩ := rflow_at hl hH.p3 hx
   obtain ⟨bp, op_, cs0, T0, rfl, -, -⟩ := Rd.el (i := k) hkPtr hH.p2.rd hb1
   obtain ⟨cs, T, hbp, hcp⟩ := pel hH.p2 hb1
   have hbs := bestB_S hx
   refine g_skip ?_
   refine g_seq ?_
   refine g_block ?_
   refine g_seq ?_
   refine g_regionD mixed ?_
   rintro w1 rfl; replace hH := hH.drew (n := w.drawn + 1); replace hblk := drewf (n := w.drawn + 1) hblk; replace hbp := drewf (n := w.drawn + 1) hbp; generalize hw1 : { w with drawn := w.drawn + 1 } = w at hH ⊢; try rw [hw1] at hblk; try rw [hw1] at hbp; clear hw1
   refine pM 0 (lv rfl) rfl rfl ?_
   refine pN 1 (lv rfl) rfl rfl ?_
   refine pF 2 (lv rfl) rfl fa_67_0 rfl ?_
   refine d_ld (i := 3) [] (lv rfl) rfl lk_65 rfl (by kernel_rfl) ⟨_, _, _, hH.c1, _, rfl, ?_⟩
   refine pM 4 (lv rfl) rfl rfl ?_
   refine d_p (i := 5) (lv rfl) rfl (fun w => (r_ia el_65 rfl rfl ?_ ?_)) (by kernel_rfl) ?_; omega; omega
   refine d_ld (i := 6) [] (lv rfl) rfl lk_124 rfl (by kernel_rfl) ⟨_, _, _, hbp, _, hcp, ?_⟩
   refine pN 7 (lv rfl) rfl rfl ?_
   refine pF 8 (lv rfl) rfl fa_123_3 rfl ?_
   refine d_ld (i := 9) [] (lv rfl) rfl lk_48 rfl (by kernel_rfl) ⟨_, _, _, hblk, _, rfl, ?_⟩
   refine d_p (i := 10) (lv rfl) rfl (fun w => (r_len el_48 rfl)) (by kernel_rfl) ?_
   refine d_p (i := 11) (lv rfl) rfl (fun w => (r_gt rfl rfl)) (by kernel_rfl) ?_
   refine pM 12 (lv rfl) rfl rfl ?_
   refine s_opd (fun g5_12 => ?_) (fun g5_12 => ?_)
   ·refine pM 13 (lvg rfl rfl rfl) rfl rfl ?_
    refine d_p (i := 14) (lvg rfl rfl rfl) rfl (fun w => (r_lt rfl rfl)) (by kernel_rfl) ?_
    refine pM 15 (lvg rfl rfl rfl) rfl rfl ?_
    refine s_opd (fun g5_15 => ?_) (fun g5_15 => ?_)
    ·refine pO 16 rfl rfl rfl rfl ?_
     refine pO 17 rfl rfl rfl rfl ?_
     refine pO 18 rfl rfl rfl rfl ?_
     refine pO 19 rfl rfl rfl rfl ?_
     refine pO 20 rfl rfl rfl rfl ?_
     refine pO 21 rfl rfl rfl rfl ?_
     refine pO 22 rfl rfl rfl rfl ?_
     refine pO 23 rfl rfl rfl rfl ?_
     refine pO 24 rfl rfl rfl rfl ?_
     refine pO 25 rfl rfl rfl rfl ?_
     refine pO 26 rfl rfl rfl rfl ?_
     refine pO 27 rfl rfl rfl rfl ?_
     refine pO 28 rfl rfl rfl rfl ?_
     refine pO 29 rfl rfl rfl rfl ?_
     refine pO 30 rfl rfl rfl rfl ?_
     refine pO 31 rfl rfl rfl rfl ?_
     refine pO 32 rfl rfl rfl rfl ?_
     refine pO 33 rfl rfl rfl rfl ?_
     refine pO 34 rfl rfl rfl rfl ?_
     refine pO 35 rfl rfl rfl rfl ?_
     refine pO 36 rfl rfl rfl rfl ?_
     refine d_p (i := 37) (lvg rfl rfl rfl) rfl (fun w => (r_pickT rfl rfl)) (by kernel_rfl) ?_
     refine d_p (i := 38) (lv rfl) rfl (fun w => (r_pickT rfl rfl)) (by kernel_rfl) ?_
     refine d_end (by kernel_rfl) ?_
     refine g_true rfl ?_
     refine g_region (l := [0, 1]) rfl ?_
     refine vM (lv rfl) rfl rfl ?_
     refine vA (lv rfl) rfl rfl ?_
     refine g_inBlock ?_
     refine g_region (l := [0, 1, 2]) rfl ?_
     refine vM (lv rfl) rfl rfl ?_
     refine o_v (lv rfl) rfl (r_addI rfl rfl ?_) ?_; omega
     refine vA (lv rfl) rfl rfl ?_
     (have e3 : bestB s.F (k + 1) = some k := by
       rw [hbs, if_neg (by omega)]
       cases hb : bestB s.F k with
       | none => rfl
       | some j => rw [hb] at g5_15; simp [atI] at g5_15; omega
      exact hback _ _ _ ⟨k + 1, _, by omega, rfl, by rw [e3]; exact (J_self (has_s rfl (has_s rfl (has_s rfl (has_s rfl (has_s rfl has_0)))))), hH⟩ (by omega))
    ·obtain ⟨j, hj⟩ : ∃ j, bestB s.F k = some j := by
       cases hb : bestB s.F k with
       | none => rw [hb] at g5_15; simp [atI] at g5_15
       | some j => exact ⟨j, rfl⟩
     obtain ⟨hjk, y, hy, hyl⟩ := bestB_lt _ _ _ hj
     obtain ⟨b3, hb3, a3, cap3, hblk3⟩ := rflow_at hl hH.p3 hy
     obtain ⟨cs3, T3, hbp3, hcp3⟩ := pel hH.p2 hb3
     rw [hj, show atI (some j) = (j : Int) from rfl]
     refine pM 16 (lvg rfl rfl rfl) rfl rfl ?_
     refine pN 17 (lvg rfl rfl rfl) rfl rfl ?_
     refine pF 18 (lvg rfl rfl rfl) rfl fa_67_0 rfl ?_
     refine d_ld (i := 19) [] (lvg rfl rfl rfl) rfl lk_65 rfl (by kernel_rfl) ⟨_, _, _, hH.c1, _, rfl, ?_⟩
     refine pM 20 (lvg rfl rfl rfl) rfl rfl ?_
     refine d_p (i := 21) (lvg rfl rfl rfl) rfl (fun w => (r_ia el_65 rfl rfl ?_ ?_)) (by kernel_rfl) ?_; omega; omega
     refine d_ld (i := 22) [] (lvg rfl rfl rfl) rfl lk_124 rfl (by kernel_rfl) ⟨_, _, _, hbp, _, hcp, ?_⟩
     refine pN 23 (lvg rfl rfl rfl) rfl rfl ?_
     refine pF 24 (lvg rfl rfl rfl) rfl fa_123_4 rfl ?_
     refine d_ld (i := 25) [] (lvg rfl rfl rfl) rfl lk_22 rfl (by kernel_rfl) ⟨_, _, _, hblk, _, rfl, ?_⟩
     refine pM 26 (lvg rfl rfl rfl) rfl rfl ?_
     refine pN 27 (lvg rfl rfl rfl) rfl rfl ?_
     refine pF 28 (lvg rfl rfl rfl) rfl fa_67_0 rfl ?_
     refine d_ld (i := 29) [] (lvg rfl rfl rfl) rfl lk_65 rfl (by kernel_rfl) ⟨_, _, _, hH.c1, _, rfl, ?_⟩
     refine pM 30 (lvg rfl rfl rfl) rfl rfl ?_
     refine d_p (i := 31) (lvg rfl rfl rfl) rfl (fun w => (r_ia el_65 rfl rfl ?_ ?_)) (by kernel_rfl) ?_; omega; omega
     refine d_ld (i := 32) [] (lvg rfl rfl rfl) rfl lk_124 rfl (by kernel_rfl) ⟨_, _, _, hbp3, _, hcp3, ?_⟩
     refine pN 33 (lvg rfl rfl rfl) rfl rfl ?_
     refine pF 34 (lvg rfl rfl rfl) rfl fa_123_4 rfl ?_
     refine d_ld (i := 35) [] (lvg rfl rfl rfl) rfl lk_22 rfl (by kernel_rfl) ⟨_, _, _, hblk3, _, rfl, ?_⟩
     refine d_p (i := 36) (lvg rfl rfl rfl) rfl (fun w => (r_lt rfl rfl)) (by kernel_rfl) ?_
     refine d_p (i := 37) (lvg rfl rfl rfl) rfl (fun w => (r_pickF rfl rfl)) (by kernel_rfl) ?_
     refine d_p (i := 38) (lv rfl) rfl (fun w => (r_pickT rfl rfl)) (by kernel_rfl) ?_
     refine d_end (by kernel_rfl) ?_
     refine g_if rfl (fun c1 => ?_) (fun c1 => ?_)
     ·refine g_region (l := [0, 1]) rfl ?_
      refine vM (lv rfl) rfl rfl ?_
      refine vA (lv rfl) rfl rfl ?_
      refine g_inBlock ?_
      refine g_region (l := [0, 1, 2]) rfl ?_
      refine vM (lv rfl) rfl rfl ?_
      refine o_v (lv rfl) rfl (r_addI rfl rfl ?_) ?_; omega
      refine vA (lv rfl) rfl rfl ?_
      (have e3 : bestB s.F (k + 1) = some k := by rw [hbs, hj, if_neg (by omega)]; simp only [startOf, hy]; rw [if_pos c1]
       exact hback _ _ _ ⟨k + 1, _, by omega, rfl, by rw [e3]; exact (J_self (has_s rfl (has_s rfl (has_s rfl (has_s rfl (has_s rfl has_0)))))), hH⟩ (by omega))
     ·refine g_skip ?_
      refine g_inBlock ?_
      refine g_region (l := [0, 1, 2]) rfl ?_
      refine vM (lv rfl) rfl rfl ?_
      refine o_v (lv rfl) rfl (r_addI rfl rfl ?_) ?_; omega
      refine vA (lv rfl) rfl rfl ?_
      (have e3 : bestB s.F (k + 1) = some j := by rw [hbs, hj, if_neg (by omega)]; simp only [startOf, hy]; rw [if_neg c1]
       exact hback _ _ _ ⟨k + 1, _, by omega, rfl, by rw [e3]; exact (J_self (has_s rfl (has_s rfl (has_s rfl (has_s rfl (has_s rfl has_0)))))), hH⟩ (by omega))
   ·refine pO 13 rfl rfl rfl rfl ?_
    refine pO 14 rfl rfl rfl rfl ?_
    refine pO 15 rfl rfl rfl rfl ?_
    refine d_no2 (i := 16) rfl rfl rfl rfl (by kernel_rfl) ?_
    refine d_no2 (i := 17) rfl rfl rfl rfl (by kernel_rfl) ?_
    refine d_no2 (i := 18) rfl rfl rfl rfl (by kernel_rfl) ?_
    refine d_no2 (i := 19) rfl rfl rfl rfl (by kernel_rfl) ?_
    refine d_no2 (i := 20) rfl rfl rfl rfl (by kernel_rfl) ?_
    refine d_no2 (i := 21) rfl rfl rfl rfl (by kernel_rfl) ?_
    refine d_no2 (i := 22) rfl rfl rfl rfl (by kernel_rfl) ?_
    refine d_no2 (i := 23) rfl rfl rfl rfl (by kernel_rfl) ?_
    refine d_no2 (i := 24) rfl rfl rfl rfl (by kernel_rfl) ?_
    refine d_no2 (i := 25) rfl rfl rfl rfl (by kernel_rfl) ?_
    refine d_no2 (i := 26) rfl rfl rfl rfl (by kernel_rfl) ?_
    refine d_no2 (i := 27) rfl rfl rfl rfl (by kernel_rfl) ?_
    refine d_no2 (i := 28) rfl rfl rfl rfl (by kernel_rfl) ?_
    refine d_no2 (i := 29) rfl rfl rfl rfl (by kernel_rfl) ?_
    refine d_no2 (i := 30) rfl rfl rfl rfl (by kernel_rfl) ?_
    refine d_no2 (i := 31) rfl rfl rfl rfl (by kernel_rfl) ?_
    refine d_no2 (i := 32) rfl rfl rfl rfl (by kernel_rfl) ?_
    refine d_no2 (i := 33) rfl rfl rfl rfl (by kernel_rfl) ?_
    refine d_no2 (i := 34) rfl rfl rfl rfl (by kernel_rfl) ?_
    refine d_no2 (i := 35) rfl rfl rfl rfl (by kernel_rfl) ?_
    refine d_no2 (i := 36) rfl rfl rfl rfl (by kernel_rfl) ?_
    refine pO 37 rfl rfl rfl rfl ?_
    refine d_p (i := 38) (lv rfl) rfl (fun w => (r_pickF rfl rfl)) (by kernel_rfl) ?_
    refine d_end (by kernel_rfl) ?_
    refine g_false rfl ?_
    refine g_skip ?_
    refine g_inBlock ?_
    refine g_region (l := [0, 1, 2]) rfl ?_
    refine vM (lv rfl) rfl rfl ?_
    refine o_v (lv rfl) rfl (r_addI rfl rfl ?_) ?_; omega
    refine vA (lv rfl) rfl rfl ?_
    (have e3 : bestB s.F (k + 1) = bestB s.F k := by rw [hbs, if_pos (by omega)]
     exact hback _ _ _ ⟨k + 1, _, by omega, rfl, by rw [e3]; exact (J_self (has_s rfl (has_s rfl (has_s rfl (has_s rfl (has_s rfl has_0)))))), hH⟩ (by omega))
  ·obtain rfl : k = s.F.length := by omega
   refine g_exit rfl ?_
   refine g_seq ?_
   refine g_seq ?_
   refine g_region (l := [0, 1]) rfl ?_
   refine vM (lv rfl) rfl rfl ?_
   refine o_v (lv rfl) rfl (r_lt rfl rfl) ?_
   refine g_if rfl (fun c2 => ?_) (fun c2 => ?_)
   ·refine g_seq ?_
    refine rD mixed hH fun w hH => ?_
    refine pM 0 (lv rfl) rfl rfl ?_
    refine pM 1 (lv rfl) rfl rfl ?_
    refine pN 2 (lv rfl) rfl rfl ?_
    refine pF 3 (lv rfl) rfl fa_67_1 rfl ?_
    refine d_ld (i := 4) [12] (lv rfl) rfl lk_22 rfl (by kernel_rfl) ⟨_, _, _, hH.c1, _, rfl, ?_⟩
    refine pM 5 (lv rfl) rfl rfl ?_
    refine pN 6 (lv rfl) rfl rfl ?_
    refine pF 7 (lv rfl) rfl fa_67_2 rfl ?_
    refine d_ld (i := 8) [12] (lv rfl) rfl lk_22 rfl (by kernel_rfl) ⟨_, _, _, hH.c1, _, rfl, ?_⟩
    refine d_p (i := 9) (lv rfl) rfl (fun w => (r_max2 rfl rfl)) (by kernel_rfl) ?_
    refine pN 10 (lv rfl) rfl rfl ?_
    refine pF 11 (lv rfl) rfl fa_67_1 rfl ?_
    refine d_l (j := 12) (by kernel_rfl) ?_
    refine o_st (lv rfl) rfl lk_22 rfl (vs := [_]) rfl rfl (by exact hH.p1) rfl rfl (by simp) rfl ?_
    intro w hH; dsimp only [setL, List.set] at hH
    refine ⟨(keeps_in rfl (keeps_in rfl trivial)), ?_⟩
    refine d_end (by kernel_rfl) ?_
    refine g_seq ?_
    refine g_region (l := [0, 1, 2]) rfl ?_
    refine o_v (lv rfl) rfl (r_bld (ps := []) (cs := [_, _, _]) pl_54 rfl rfl) ?_
    refine o_st (lv rfl) rfl lk_54 rfl (vs := [_, _, _]) rfl rfl (by exact hH.p1) rfl rfl (by simp) rfl ?_
    intro w hH; dsimp only [setL, List.set] at hH
    refine vA (lv rfl) rfl rfl ?_
    refine g_rq Tryz.func112 (res_cell rfl (run_loadVarN (vs := [_, _, _]) lk_54 (cells_of hH.c0 rfl)) (res_t rfl res_0)) ?_
    have hn : bestB s.F s.F.length = none := by
      cases hb : bestB s.F s.F.length with
      | none => rfl
      | some j => rw [hb] at c2; simp [atI] at c2; omega
    rw [serve_none hn]
    exact ⟨rfl, RSfqC.mk (s := { s with v := max s.v s.most }) hl (hH.sel (by repeat' (first | exact Sel.refl _ | refine Sel.q1 ?_ | refine Sel.skip _ ?_)))⟩
   ·obtain ⟨j, hj⟩ : ∃ j, bestB s.F s.F.length = some j := by
      cases hb : bestB s.F s.F.length with
      | none => rw [hb] at c2; simp [atI] at c2
      | some j => exact ⟨j, rfl⟩
    obtain ⟨hjk, y, hy, hyl⟩ := bestB_lt _ _ _ hj
    obtain ⟨p, l, hpl⟩ : ∃ p l, y.2.l = p :: l := by
      cases h : y.2.l with
      | nil => rw [h] at hyl; simp at hyl
      | cons p l => exact ⟨p, l, rfl⟩
    obtain ⟨b1, hb1, a1, cap1, hblk⟩ := rflow_at hl hH.p3 hy
    obtain ⟨bp, op_, cs0, T0, rfl, -, -⟩ := Rd.el (i := j) hkPtr hH.p2.rd hb1
    obtain ⟨cs, T, hbp, hcp⟩ := pel hH.p2 hb1
    rw [hj, show atI (some j) = (j : Int) from rfl]
    refine g_skip ?_
    refine g_seq ?_
    refine g_region (l := [0, 1, 2, 3, 4, 5, 6, 7, 8, 9, 10, 11, 12, 13]) rfl ?_
    refine vM (lv rfl) rfl rfl ?_
    refine vM (lv rfl) rfl rfl ?_
    refine o_v (lv rfl) rfl (r_nil rfl) ?_
    refine o_v (lv rfl) rfl (r_fa fa_67_0 rfl) ?_
    refine o_ld (lv rfl) rfl lk_65 rfl ⟨_, _, _, hH.c1, _, rfl, ?_⟩
    refine vM (lv rfl) rfl rfl ?_
    refine o_v (lv rfl) rfl (r_ia el_65 rfl rfl ?_ ?_) ?_; omega; omega
    refine o_ld (lv rfl) rfl lk_124 rfl ⟨_, _, _, hbp, _, hcp, ?_⟩
    refine o_v (lv rfl) rfl (r_nil rfl) ?_
    refine o_v (lv rfl) rfl (r_fa fa_123_4 rfl) ?_
    refine o_ld (lv rfl) rfl lk_22 rfl ⟨_, _, _, hblk, _, rfl, ?_⟩
    refine o_v (lv rfl) rfl (r_nil rfl) ?_
    refine o_v (lv rfl) rfl (r_fa fa_67_1 rfl) ?_
    refine o_st (lv rfl) rfl lk_22 rfl (vs := [_]) rfl rfl (by exact hH.p1) rfl rfl (by simp) rfl ?_
    intro w hH; dsimp only [setL, List.set] at hH
    refine g_seq ?_
    replace hH := hH.p3.all_take (rfl_get hb1 hy)
    obtain ⟨cs, T, hbp, hcp⟩ := pel (by exact hH.p4) hb1
    refine g_region (l := [0, 1, 2, 3, 4, 5, 6, 7, 8, 9, 10, 11, 12, 13, 14, 15]) rfl ?_
    refine vM (lv rfl) rfl rfl ?_
    refine o_v (lv rfl) rfl (r_nil rfl) ?_
    refine o_v (lv rfl) rfl (r_fa fa_67_0 rfl) ?_
    refine o_ld (lv rfl) rfl lk_65 rfl ⟨_, _, _, hH.c2, _, rfl, ?_⟩
    refine vM (lv rfl) rfl rfl ?_
    refine o_v (lv rfl) rfl (r_ia el_65 rfl rfl ?_ ?_) ?_; omega; omega
    refine o_ld (lv rfl) rfl lk_124 rfl ⟨_, _, _, hbp, _, hcp, ?_⟩
    refine o_call (lv rfl) rfl en_131 rfl (r09_FServe (Sq.flw_ok hok hy).2 hpl hH) ?_
    rintro _ w ⟨rfl, hH⟩
    refine vM (lv rfl) rfl rfl ?_
    refine o_v (lv rfl) rfl (r_ex rfl rfl) ?_
    refine o_v (lv rfl) rfl (r_ex rfl rfl) ?_
    refine o_v (lv rfl) rfl (r_ex rfl rfl) ?_
    refine o_al (lv rfl) rfl ze_54 hH ?_
    intro b6 w hH
    refine o_st (lv rfl) rfl lk_54 rfl (vs := [_, _, _]) rfl rfl (by exact hH) rfl rfl (by simp) rfl ?_
    intro w hH; dsimp only [setL, List.set] at hH
    refine vA (lv rfl) rfl rfl ?_
    refine vA (lv rfl) rfl rfl ?_
    refine g_seq ?_
    refine g_region (l := [0, 1, 2, 3, 4, 5, 6, 7, 8, 9]) rfl ?_
    refine vM (lv rfl) rfl rfl ?_
    refine vM (lv rfl) rfl rfl ?_
    refine o_v (lv rfl) rfl (r_nil rfl) ?_
    refine o_v (lv rfl) rfl (r_fa fa_67_2 rfl) ?_
    refine o_ld (lv rfl) rfl lk_22 rfl ⟨_, _, _, hH.c3, _, rfl, ?_⟩
    refine vM (lv rfl) rfl rfl ?_
    refine o_v (lv rfl) rfl (r_max2 rfl rfl) ?_
    refine o_v (lv rfl) rfl (r_nil rfl) ?_
    refine o_v (lv rfl) rfl (r_fa fa_67_2 rfl) ?_
    refine o_st (lv rfl) rfl lk_22 rfl (vs := [_]) rfl rfl (by exact hH.p3) rfl rfl (by simp) rfl ?_
    intro w hH; dsimp only [setL, List.set] at hH
    refine g_seq ?_
    refine g_region (l := [0, 1, 2]) rfl ?_
    refine o_ldN (lv rfl) rfl lk_54 rfl ⟨_, _, _, hH.c1, [_, _, _], rfl, rfl, ?_⟩
    refine o_st (lv rfl) rfl lk_54 rfl (vs := [_, _, _]) rfl rfl (by exact hH.p4) rfl rfl (by simp) rfl ?_
    intro w hH; dsimp only [setL, List.set] at hH
    refine vA (lv rfl) rfl rfl ?_
    refine g_rq Tryz.func112 (res_cell rfl (run_loadVarN (vs := [_, _, _]) lk_54 (cells_of hH.c0 rfl)) (res_t rfl res_0)) ?_
    rw [serve_some hj hy hpl]
    exact ⟨rfl, RSfqC.mk (s := { F := s.F.set j (y.1, y.2.serve p), v := y.2.start, most := max s.most (y.2.fin p) }) (by simp [hl]) (Holds.p2 (Holds.p2 (rfl_give (x := (y.1, y.2.serve p)) hb1 hjk (hH.sel (by repeat' (first | exact Sel.refl _ | refine Sel.q1 ?_ | refine Sel.q2 ?_ | refine Sel.q3 ?_ | refine Sel.skip _ ?_))))))⟩
end
end Go.Proofs.YtkdbglfdgeldpaaGreat
