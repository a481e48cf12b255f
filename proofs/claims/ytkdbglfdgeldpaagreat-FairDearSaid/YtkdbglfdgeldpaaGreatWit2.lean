/- Contracts: what is told held against what is told. Condition: only read. -/
import Derived.Test.YtkdbglfdgeldpaaGreatWit
namespace Go.Proofs.YtkdbglfdgeldpaaGreat
open Go.Lt
section
variable {R : Base} {F : List HP} {w : World}
theorem eq_of_get {α : Type} {l1 l2 : List α} (hl : l1.length = l2.length) (h : ∀ (j : Nat) (x y : α), l1[j]? = some x → l2[j]? = some y → x = y) : l1 = l2 := by
  apply List.ext_getElem hl
  intro j h1 h2
  exact h j _ _ (List.getElem?_eq_getElem h1) (List.getElem?_eq_getElem h2)
theorem plain_1 (x y : Packet) (hH : Holds R F w) :
    Ret Tryz.prog 56 [vP x, vP y] w fun v w' => v = .bool (decide (x = y)) ∧ Holds R F w' := by
  refine ret_of_g (n := 8) Tryz.func56 rfl rfl (by simp) ?_
  refine g_seq ?_
  refine g_region (l := [0, 1, 2]) rfl ?_
  refine o_box (lv rfl) rfl (cs := [_, _, _]) rfl rfl hH ?_
  intro b2 w hH
  refine o_box (lv rfl) rfl (cs := [_, _, _]) rfl rfl hH ?_
  intro b3 w hH
  refine vA (lv rfl) rfl rfl ?_
  refine g_seq ?_
  refine g_region (l := [0, 1, 2, 3]) rfl ?_
  refine o_ldN (lv rfl) rfl lk_54 rfl ⟨_, _, _, hH.c1, [_, _, _], rfl, rfl, ?_⟩
  refine o_ldN (lv rfl) rfl lk_54 rfl ⟨_, _, _, hH.c0, [_, _, _], rfl, rfl, ?_⟩
  refine o_v (lv rfl) rfl (r_eqst fi_54 rfl rfl rfl rfl) ?_
  refine vA (lv rfl) rfl rfl ?_
  refine g_rq Tryz.func56 (res_t rfl res_0) ?_
  exact ⟨bv (by apply decide_eq_decide.2; obtain ⟨a, b, c⟩ := x; obtain ⟨d, e, f⟩ := y; simp), (hH.sel (by repeat' (first | exact Sel.refl _ | refine Sel.skip _ ?_)))⟩
theorem slices_Equal {v1 v2 : Value} {l1 l2 : List Packet} (h1 : Rd encP v1 l1 R.h) (h2 : Rd encP v2 l2 R.h) (hl : l1.length ≤ 2147483648) (hH : Holds R F w) :
    Ret Tryz.prog 87 [v1, v2] w fun v w' => v = .bool (decide (l1 = l2)) ∧ Holds R F w' := by
  obtain ⟨a1, cap1, rfl, -⟩ := h1.len
  obtain ⟨a2, cap2, rfl, -⟩ := h2.len
  refine ret_of_g (n := 26) Tryz.func87 rfl rfl (by simp) ?_
  refine g_seq ?_
  refine g_region (l := [0]) rfl ?_
  refine vA (lv rfl) rfl rfl ?_
  refine g_seq ?_
  refine g_seq ?_
  refine g_region (l := [0, 1, 2, 3, 4]) rfl ?_
  refine vM (lv rfl) rfl rfl ?_
  refine o_v (lv rfl) rfl (r_len el_48 rfl) ?_
  refine vM (lv rfl) rfl rfl ?_
  refine o_v (lv rfl) rfl (r_len el_48 rfl) ?_
  refine o_v (lv rfl) rfl (r_ne rfl rfl) ?_
  refine g_if rfl (fun c0 => ?_) (fun c0 => ?_)
  ·refine g_seq ?_
   refine g_region (l := [0]) rfl ?_
   refine vA (lv rfl) rfl rfl ?_
   refine g_rq Tryz.func87 (res_t rfl res_0) ?_
   exact ⟨bv (by symm; apply decide_eq_false; intro h; rw [h] at c0; exact c0 rfl), (hH.sel (by repeat' (first | exact Sel.refl _)))⟩
  ·refine g_skip ?_
   refine g_seq ?_
   refine g_seq ?_
   refine g_region (l := [0, 1, 2]) rfl ?_
   refine vM (lv rfl) rfl rfl ?_
   refine o_v (lv rfl) rfl (r_len el_48 rfl) ?_
   refine vM (lv rfl) rfl rfl ?_
   refine g_block ?_
   refine g_loop (fun mm e w => ∃ (k : Nat) (e0 : Env), k ≤ l1.length ∧ mm = l1.length - k ∧ (∀ (j : Nat) (x y : Packet), j < k → l1[j]? = some x → l2[j]? = some y → x = y) ∧ e = J e0 [(0, .slice a1 l1.length cap1), (1, .slice a2 l2.length cap2), (12, .int .i64 l1.length), (13, .int .i64 k)] ∧ Holds R F w) l1.length ⟨0, _, by omega, by omega, by omega, (J_self (has_s rfl (has_s rfl (has_s rfl (has_s rfl has_0))))), hH⟩ ?_
   rintro mm _ w ⟨k, e0, hk, hm, hno, rfl, hH⟩ hback
   refine g_seq ?_
   refine g_region (l := [0]) rfl ?_
   refine o_v (lv rfl) rfl (r_lt rfl rfl) ?_
   refine g_seq ?_
   refine g_if rfl (fun c1 => ?_) (fun c1 => ?_)
   ·have hkl : k < l1.length := by omega
    obtain ⟨x, hx⟩ : ∃ x, l1[k]? = some x := ⟨_, List.getElem?_eq_getElem hkl⟩
    obtain ⟨y, hy⟩ : ∃ y, l2[k]? = some y := ⟨_, List.getElem?_eq_getElem (by omega)⟩
    obtain ⟨bp, op_, cs, T, rfl, hbp, hcp0⟩ := Rd.el hkP h1 hx
    have hcp := dt_of hcp0
    obtain ⟨bp2, op2, cs2, T2, rfl, hbp2, hcp20⟩ := Rd.el hkP h2 hy
    have hcp2 := dt_of hcp20
    refine g_skip ?_
    refine g_seq ?_
    refine g_block ?_
    refine g_seq ?_
    refine g_region (l := [0, 1]) rfl ?_
    refine vM (lv rfl) rfl rfl ?_
    refine vA (lv rfl) rfl rfl ?_
    refine g_seq ?_
    refine rD mixed hH fun w hH => ?_
    refine pM 0 (lv rfl) rfl rfl ?_
    refine pM 1 (lv rfl) rfl rfl ?_
    refine d_p (i := 2) (lv rfl) rfl (fun w => (r_ia el_48 rfl rfl ?_ ?_)) (by kernel_rfl) ?_; omega; omega
    refine d_ldN (i := 3) [] (lv rfl) rfl lk_54 rfl (by kernel_rfl) ⟨_, _, _, hH.old hbp, _, hcp, rfl, ?_⟩
    refine pM 4 (lv rfl) rfl rfl ?_
    refine pM 5 (lv rfl) rfl rfl ?_
    refine d_p (i := 6) (lv rfl) rfl (fun w => (r_ia el_48 rfl rfl ?_ ?_)) (by kernel_rfl) ?_; omega; omega
    refine d_ldN (i := 7) [] (lv rfl) rfl lk_54 rfl (by kernel_rfl) ⟨_, _, _, hH.old hbp2, _, hcp2, rfl, ?_⟩
    refine d_p (i := 8) (lv rfl) rfl (fun w => (r_nest fi_54 rfl rfl rfl rfl)) (by kernel_rfl) ?_
    refine d_end (by kernel_rfl) ?_
    refine g_if rfl (fun c2 => ?_) (fun c2 => ?_)
    ·refine g_seq ?_
     refine g_region (l := [0]) rfl ?_
     refine vA (lv rfl) rfl rfl ?_
     refine g_rq Tryz.func87 (res_t rfl res_0) ?_
     exact ⟨bv (by symm; apply decide_eq_false; intro h; rw [h, hy] at hx; cases hx; exact c2 rfl), (hH.sel (by repeat' (first | exact Sel.refl _)))⟩
    ·refine g_skip ?_
     refine g_inBlock ?_
     refine g_region (l := [0, 1]) rfl ?_
     refine o_v (lv rfl) rfl (r_addI rfl rfl ?_) ?_; omega
     refine vM (lv rfl) rfl rfl ?_
     exact hback _ _ _ ⟨k + 1, _, by omega, rfl, fun j x' y' hj hx' hy' => by
       by_cases hjk : j = k
       ·subst hjk; rw [hx] at hx'; rw [hy] at hy'; cases hx'; cases hy'
        obtain ⟨a, b, c⟩ := x; obtain ⟨d, e, f⟩ := y
        simpa [encP] using c2
       ·exact hno j x' y' (by omega) hx' hy', (J_self (has_s rfl (has_s rfl (has_s rfl (has_s rfl has_0))))), hH⟩ (by omega)
   ·refine g_exit rfl ?_
    refine g_seq ?_
    refine g_region (l := [0]) rfl ?_
    refine vA (lv rfl) rfl rfl ?_
    refine g_rq Tryz.func87 (res_t rfl res_0) ?_
    exact ⟨bv (by symm; apply decide_eq_true; exact eq_of_get (by omega) (fun j x y hx hy => hno j x y (by have := (List.getElem?_eq_some_iff.1 hx).1; omega) hx hy)), (hH.sel (by repeat' (first | exact Sel.refl _)))⟩
theorem help_Plain {v1 v2 : Value} {l1 l2 : List Packet} (h1 : Rd encP v1 l1 R.h) (h2 : Rd encP v2 l2 R.h) (hl : l1.length ≤ 2147483648) (hH : Holds R F w) :
    Ret Tryz.prog 55 [v1, v2, .func (.func 56) #[] #[]] w fun v w' => v = .bool (decide (l1 = l2)) ∧ Holds R F w' := by
  obtain ⟨a1, cap1, rfl, -⟩ := h1.len
  obtain ⟨a2, cap2, rfl, -⟩ := h2.len
  refine ret_of_g (n := 30) Tryz.func55 rfl rfl (by simp) ?_
  refine g_seq ?_
  refine g_region (l := [0]) rfl ?_
  refine vA (lv rfl) rfl rfl ?_
  refine g_seq ?_
  refine g_seq ?_
  refine g_region (l := [0, 1, 2, 3, 4]) rfl ?_
  refine vM (lv rfl) rfl rfl ?_
  refine o_v (lv rfl) rfl (r_len el_48 rfl) ?_
  refine vM (lv rfl) rfl rfl ?_
  refine o_v (lv rfl) rfl (r_len el_48 rfl) ?_
  refine o_v (lv rfl) rfl (r_ne rfl rfl) ?_
  refine g_if rfl (fun c0 => ?_) (fun c0 => ?_)
  ·refine g_seq ?_
   refine g_region (l := [0]) rfl ?_
   refine vA (lv rfl) rfl rfl ?_
   refine g_rq Tryz.func55 (res_t rfl res_0) ?_
   exact ⟨bv (by symm; apply decide_eq_false; intro h; rw [h] at c0; exact c0 rfl), (hH.sel (by repeat' (first | exact Sel.refl _)))⟩
  ·refine g_skip ?_
   refine g_seq ?_
   refine g_seq ?_
   refine g_region (l := [0]) rfl ?_
   refine vA (lv rfl) rfl rfl ?_
   refine g_block ?_
   refine g_loop (fun mm e w => ∃ (k : Nat) (e0 : Env), k ≤ l1.length ∧ mm = l1.length - k ∧ (∀ (j : Nat) (x y : Packet), j < k → l1[j]? = some x → l2[j]? = some y → x = y) ∧ e = J e0 [(0, .slice a1 l1.length cap1), (1, .slice a2 l2.length cap2), (2, .func (.func 56) #[] #[]), (7, .int .i64 k)] ∧ Holds R F w) l1.length ⟨0, _, by omega, by omega, by omega, (J_self (has_s rfl (has_s rfl (has_s rfl (has_s rfl has_0))))), hH⟩ ?_
   rintro mm _ w ⟨k, e0, hk, hm, hno, rfl, hH⟩ hback
   refine g_seq ?_
   refine g_seq ?_
   refine g_region (l := [0, 1, 2, 3]) rfl ?_
   refine vM (lv rfl) rfl rfl ?_
   refine vM (lv rfl) rfl rfl ?_
   refine o_v (lv rfl) rfl (r_len el_48 rfl) ?_
   refine o_v (lv rfl) rfl (r_lt rfl rfl) ?_
   refine g_if rfl (fun c1 => ?_) (fun c1 => ?_)
   ·have hkl : k < l1.length := by omega
    obtain ⟨x, hx⟩ : ∃ x, l1[k]? = some x := ⟨_, List.getElem?_eq_getElem hkl⟩
    obtain ⟨y, hy⟩ : ∃ y, l2[k]? = some y := ⟨_, List.getElem?_eq_getElem (by omega)⟩
    obtain ⟨bp, op_, cs, T, rfl, hbp, hcp0⟩ := Rd.el hkP h1 hx
    have hcp := dt_of hcp0
    obtain ⟨bp2, op2, cs2, T2, rfl, hbp2, hcp20⟩ := Rd.el hkP h2 hy
    have hcp2 := dt_of hcp20
    refine g_skip ?_
    refine g_seq ?_
    refine g_block ?_
    refine g_seq ?_
    refine rD mixed hH fun w hH => ?_
    refine pM 0 (lv rfl) rfl rfl ?_
    refine pM 1 (lv rfl) rfl rfl ?_
    refine pM 2 (lv rfl) rfl rfl ?_
    refine d_p (i := 3) (lv rfl) rfl (fun w => (r_ia el_48 rfl rfl ?_ ?_)) (by kernel_rfl) ?_; omega; omega
    refine d_ldN (i := 4) [9] (lv rfl) rfl lk_54 rfl (by kernel_rfl) ⟨_, _, _, hH.old hbp, _, hcp, rfl, ?_⟩
    refine pM 5 (lv rfl) rfl rfl ?_
    refine pM 6 (lv rfl) rfl rfl ?_
    refine d_p (i := 7) (lv rfl) rfl (fun w => (r_ia el_48 rfl rfl ?_ ?_)) (by kernel_rfl) ?_; omega; omega
    refine d_ldN (i := 8) [9] (lv rfl) rfl lk_54 rfl (by kernel_rfl) ⟨_, _, _, hH.old hbp2, _, hcp2, rfl, ?_⟩
    refine d_l (j := 9) (by kernel_rfl) ?_
    refine o_callv (lv rfl) rfl (first := []) (cap := []) rfl en_56 rfl rfl (plain_1 x y hH) ?_
    rintro _ w ⟨rfl, hH⟩
    refine ⟨(keeps_in rfl (keeps_in rfl trivial)), ?_⟩
    refine d_p (i := 10) (lv rfl) rfl (fun w => (r_notD rfl)) (by kernel_rfl) ?_
    refine d_end (by kernel_rfl) ?_
    refine g_if rfl (fun c2 => ?_) (fun c2 => ?_)
    ·refine g_seq ?_
     refine g_region (l := [0]) rfl ?_
     refine vA (lv rfl) rfl rfl ?_
     refine g_rq Tryz.func55 (res_t rfl res_0) ?_
     exact ⟨bv (by symm; apply decide_eq_false; intro h; rw [h, hy] at hx; cases hx; simp at c2), (hH.sel (by repeat' (first | exact Sel.refl _)))⟩
    ·refine g_skip ?_
     refine g_inBlock ?_
     refine g_region (l := [0, 1, 2]) rfl ?_
     refine vM (lv rfl) rfl rfl ?_
     refine o_v (lv rfl) rfl (r_addI rfl rfl ?_) ?_; omega
     refine vA (lv rfl) rfl rfl ?_
     exact hback _ _ _ ⟨k + 1, _, by omega, rfl, fun j x' y' hj hx' hy' => by
       by_cases hjk : j = k
       ·subst hjk; rw [hx] at hx'; rw [hy] at hy'; cases hx'; cases hy'
        simpa using c2
       ·exact hno j x' y' (by omega) hx' hy', (J_self (has_s rfl (has_s rfl (has_s rfl (has_s rfl has_0))))), hH⟩ (by omega)
   ·refine g_exit rfl ?_
    refine g_seq ?_
    refine g_region (l := [0]) rfl ?_
    refine vA (lv rfl) rfl rfl ?_
    refine g_rq Tryz.func55 (res_t rfl res_0) ?_
    exact ⟨bv (by symm; apply decide_eq_true; exact eq_of_get (by omega) (fun j x y hx hy => hno j x y (by have := (List.getElem?_eq_some_iff.1 hx).1; omega) hx hy)), (hH.sel (by repeat' (first | exact Sel.refl _)))⟩
theorem help_PlainP {v1 v2 : Value} {l1 l2 : List Packet} (h1 : Rd encP v1 l1 R.h) (h2 : Rd encP v2 l2 R.h) (hl : l1.length ≤ 2147483648) (hH : Holds R F w) :
    Ret Tryz.prog 25 [v1, v2] w fun v w' => v = .bool (decide (l1 = l2)) ∧ Holds R F w' := by
  refine ret_of_g (n := 8) Tryz.func25 rfl rfl (by simp) ?_
  refine g_seq ?_
  refine g_region (l := [0]) rfl ?_
  refine vA (lv rfl) rfl rfl ?_
  refine g_seq ?_
  refine g_region (l := [0, 1, 2, 3]) rfl ?_
  refine vM (lv rfl) rfl rfl ?_
  refine vM (lv rfl) rfl rfl ?_
  refine o_call (lv rfl) rfl en_55 rfl (help_Plain h1 h2 hl hH) ?_
  rintro _ w ⟨rfl, hH⟩
  refine vA (lv rfl) rfl rfl ?_
  refine g_rq Tryz.func25 (res_t rfl res_0) ?_
  exact ⟨rfl, hH⟩
theorem wit_same {r1 r2 : Rt} {v1 v2 : Value} (h1 : Rd encP v1 r1.packets R.h) (h2 : Rd encP v2 r2.packets R.h) (hl : r1.packets.length ≤ 2147483648) (hH : Holds R F w) :
    Ret Tryz.prog 59 [vR r1 v1, vR r2 v2] w fun v w' => v = .bool (decide (r1 = r2)) ∧ Holds R F w' := by
  obtain ⟨a1, cap1, rfl, -⟩ := h1.len
  obtain ⟨a2, cap2, rfl, -⟩ := h2.len
  refine ret_of_g (n := 31) Tryz.func59 rfl rfl (by simp) ?_
  refine g_seq ?_
  refine g_region (l := [0, 1, 2]) rfl ?_
  refine o_box (lv rfl) rfl (cs := [_, _, _, _]) rfl rfl hH ?_
  intro b2 w hH
  refine o_box (lv rfl) rfl (cs := [_, _, _, _]) rfl rfl hH ?_
  intro b3 w hH
  refine vA (lv rfl) rfl rfl ?_
  refine g_seq ?_
  refine g_region (l := [0, 1, 2, 3, 4, 5, 6, 7, 8, 9, 10, 11, 12, 13, 14, 15, 16, 17, 18, 19, 20, 21, 22, 23, 24, 25, 26]) rfl ?_
  refine o_v (lv rfl) rfl (r_fa fa_57_0 rfl) ?_
  refine o_ld (lv rfl) rfl lk_55 rfl ⟨_, _, _, hH.c1, _, rfl, ?_⟩
  refine o_v (lv rfl) rfl (r_fa fa_57_0 rfl) ?_
  refine o_ld (lv rfl) rfl lk_55 rfl ⟨_, _, _, hH.c0, _, rfl, ?_⟩
  refine o_v (lv rfl) rfl (r_eq rfl rfl) ?_
  refine vM (lv rfl) rfl rfl ?_
  refine s_ops (fun g1_5 => ?_) (fun g1_5 => ?_)
  ·refine o_v (lvg rfl rfl rfl) rfl (r_fa fa_57_2 rfl) ?_
   refine o_ld (lvg rfl rfl rfl) rfl lk_3 rfl ⟨_, _, _, hH.c1, _, rfl, ?_⟩
   refine o_v (lvg rfl rfl rfl) rfl (r_fa fa_57_2 rfl) ?_
   refine o_ld (lvg rfl rfl rfl) rfl lk_3 rfl ⟨_, _, _, hH.c0, _, rfl, ?_⟩
   refine o_v (lvg rfl rfl rfl) rfl (r_eq rfl rfl) ?_
   refine o_v (lv rfl) rfl (r_pickT rfl rfl) ?_
   refine vM (lv rfl) rfl rfl ?_
   refine s_ops (fun g1_12 => ?_) (fun g1_12 => ?_)
   ·refine o_v (lvg rfl rfl rfl) rfl (r_fa fa_57_3 rfl) ?_
    refine o_ld (lvg rfl rfl rfl) rfl lk_22 rfl ⟨_, _, _, hH.c1, _, rfl, ?_⟩
    refine o_v (lvg rfl rfl rfl) rfl (r_fa fa_57_3 rfl) ?_
    refine o_ld (lvg rfl rfl rfl) rfl lk_22 rfl ⟨_, _, _, hH.c0, _, rfl, ?_⟩
    refine o_v (lvg rfl rfl rfl) rfl (r_eq rfl rfl) ?_
    refine o_v (lv rfl) rfl (r_pickT rfl rfl) ?_
    refine vM (lv rfl) rfl rfl ?_
    refine s_ops (fun g1_19 => ?_) (fun g1_19 => ?_)
    ·refine o_v (lvg rfl rfl rfl) rfl (r_fa fa_57_1 rfl) ?_
     refine o_ld (lvg rfl rfl rfl) rfl lk_48 rfl ⟨_, _, _, hH.c1, _, rfl, ?_⟩
     refine o_v (lvg rfl rfl rfl) rfl (r_fa fa_57_1 rfl) ?_
     refine o_ld (lvg rfl rfl rfl) rfl lk_48 rfl ⟨_, _, _, hH.c0, _, rfl, ?_⟩
     refine o_call (lvg rfl rfl rfl) rfl en_87 rfl (slices_Equal h1 h2 hl hH) ?_
     rintro _ w ⟨rfl, hH⟩
     refine o_v (lv rfl) rfl (r_pickT rfl rfl) ?_
     refine vA (lv rfl) rfl rfl ?_
     refine g_rq Tryz.func59 (res_t rfl res_0) ?_
     refine ⟨bv ?_, (hH.sel (by repeat' (first | exact Sel.refl _ | refine Sel.skip _ ?_)))⟩
     obtain ⟨e1, p1, n1, u1⟩ := r1
     obtain ⟨e2, p2, n2, u2⟩ := r2
     (simp only at g1_5 g1_12 g1_19
      subst g1_5 g1_12 g1_19
      simp)
    ·refine o_no rfl rfl rfl rfl ?_
     refine o_no rfl rfl rfl rfl ?_
     refine o_no rfl rfl rfl rfl ?_
     refine o_no rfl rfl rfl rfl ?_
     refine o_no rfl rfl rfl rfl ?_
     refine o_v (lv rfl) rfl (r_pickF rfl rfl) ?_
     refine vA (lv rfl) rfl rfl ?_
     refine g_rq Tryz.func59 (res_t rfl res_0) ?_
     refine ⟨bv ?_, (hH.sel (by repeat' (first | exact Sel.refl _ | refine Sel.skip _ ?_)))⟩
     obtain ⟨e1, p1, n1, u1⟩ := r1
     obtain ⟨e2, p2, n2, u2⟩ := r2
     (symm; apply decide_eq_false; intro h; cases h; exact g1_19 rfl)
   ·refine o_no rfl rfl rfl rfl ?_
    refine o_no rfl rfl rfl rfl ?_
    refine o_no rfl rfl rfl rfl ?_
    refine o_no rfl rfl rfl rfl ?_
    refine o_no rfl rfl rfl rfl ?_
    refine o_v (lv rfl) rfl (r_pickF rfl rfl) ?_
    refine vM (lv rfl) rfl rfl ?_
    refine o_no rfl rfl rfl rfl ?_
    refine o_no rfl rfl rfl rfl ?_
    refine o_no rfl rfl rfl rfl ?_
    refine o_no rfl rfl rfl rfl ?_
    refine o_no rfl rfl rfl rfl ?_
    refine o_v (lv rfl) rfl (r_pickF rfl rfl) ?_
    refine vA (lv rfl) rfl rfl ?_
    refine g_rq Tryz.func59 (res_t rfl res_0) ?_
    refine ⟨bv ?_, (hH.sel (by repeat' (first | exact Sel.refl _ | refine Sel.skip _ ?_)))⟩
    obtain ⟨e1, p1, n1, u1⟩ := r1
    obtain ⟨e2, p2, n2, u2⟩ := r2
    (symm; apply decide_eq_false; intro h; cases h; exact g1_12 rfl)
  ·refine o_no rfl rfl rfl rfl ?_
   refine o_no rfl rfl rfl rfl ?_
   refine o_no rfl rfl rfl rfl ?_
   refine o_no rfl rfl rfl rfl ?_
   refine o_no rfl rfl rfl rfl ?_
   refine o_v (lv rfl) rfl (r_pickF rfl rfl) ?_
   refine vM (lv rfl) rfl rfl ?_
   refine o_no rfl rfl rfl rfl ?_
   refine o_no rfl rfl rfl rfl ?_
   refine o_no rfl rfl rfl rfl ?_
   refine o_no rfl rfl rfl rfl ?_
   refine o_no rfl rfl rfl rfl ?_
   refine o_v (lv rfl) rfl (r_pickF rfl rfl) ?_
   refine vM (lv rfl) rfl rfl ?_
   refine o_no rfl rfl rfl rfl ?_
   refine o_no rfl rfl rfl rfl ?_
   refine o_no rfl rfl rfl rfl ?_
   refine o_no rfl rfl rfl rfl ?_
   refine o_no rfl rfl rfl rfl ?_
   refine o_v (lv rfl) rfl (r_pickF rfl rfl) ?_
   refine vA (lv rfl) rfl rfl ?_
   refine g_rq Tryz.func59 (res_t rfl res_0) ?_
   refine ⟨bv ?_, (hH.sel (by repeat' (first | exact Sel.refl _ | refine Sel.skip _ ?_)))⟩
   obtain ⟨e1, p1, n1, u1⟩ := r1
   obtain ⟨e2, p2, n2, u2⟩ := r2
   (symm; apply decide_eq_false; intro h; cases h; exact g1_5 rfl)
theorem help_Ret {r1 r2 : Rt} {v1 v2 : Value} (h1 : Rd encP v1 r1.packets R.h) (h2 : Rd encP v2 r2.packets R.h) (hl : r1.packets.length ≤ 2147483648) (hH : Holds R F w) :
    Ret Tryz.prog 54 [vR r1 v1, vR r2 v2] w fun v w' => v = .bool (decide (r1 = r2)) ∧ Holds R F w' := by
  obtain ⟨a1, cap1, rfl, -⟩ := h1.len
  obtain ⟨a2, cap2, rfl, -⟩ := h2.len
  refine ret_of_g (n := 31) Tryz.func54 rfl rfl (by simp) ?_
  refine g_seq ?_
  refine g_region (l := [0, 1, 2]) rfl ?_
  refine o_box (lv rfl) rfl (cs := [_, _, _, _]) rfl rfl hH ?_
  intro b2 w hH
  refine o_box (lv rfl) rfl (cs := [_, _, _, _]) rfl rfl hH ?_
  intro b3 w hH
  refine vA (lv rfl) rfl rfl ?_
  refine g_seq ?_
  refine g_region (l := [0, 1, 2, 3, 4, 5, 6, 7, 8, 9, 10, 11, 12, 13, 14, 15, 16, 17, 18, 19, 20, 21, 22, 23, 24, 25, 26]) rfl ?_
  refine o_v (lv rfl) rfl (r_fa fa_57_0 rfl) ?_
  refine o_ld (lv rfl) rfl lk_55 rfl ⟨_, _, _, hH.c1, _, rfl, ?_⟩
  refine o_v (lv rfl) rfl (r_fa fa_57_0 rfl) ?_
  refine o_ld (lv rfl) rfl lk_55 rfl ⟨_, _, _, hH.c0, _, rfl, ?_⟩
  refine o_v (lv rfl) rfl (r_eq rfl rfl) ?_
  refine vM (lv rfl) rfl rfl ?_
  refine s_ops (fun g1_5 => ?_) (fun g1_5 => ?_)
  ·refine o_v (lvg rfl rfl rfl) rfl (r_fa fa_57_2 rfl) ?_
   refine o_ld (lvg rfl rfl rfl) rfl lk_3 rfl ⟨_, _, _, hH.c1, _, rfl, ?_⟩
   refine o_v (lvg rfl rfl rfl) rfl (r_fa fa_57_2 rfl) ?_
   refine o_ld (lvg rfl rfl rfl) rfl lk_3 rfl ⟨_, _, _, hH.c0, _, rfl, ?_⟩
   refine o_v (lvg rfl rfl rfl) rfl (r_eq rfl rfl) ?_
   refine o_v (lv rfl) rfl (r_pickT rfl rfl) ?_
   refine vM (lv rfl) rfl rfl ?_
   refine s_ops (fun g1_12 => ?_) (fun g1_12 => ?_)
   ·refine o_v (lvg rfl rfl rfl) rfl (r_fa fa_57_3 rfl) ?_
    refine o_ld (lvg rfl rfl rfl) rfl lk_22 rfl ⟨_, _, _, hH.c1, _, rfl, ?_⟩
    refine o_v (lvg rfl rfl rfl) rfl (r_fa fa_57_3 rfl) ?_
    refine o_ld (lvg rfl rfl rfl) rfl lk_22 rfl ⟨_, _, _, hH.c0, _, rfl, ?_⟩
    refine o_v (lvg rfl rfl rfl) rfl (r_eq rfl rfl) ?_
    refine o_v (lv rfl) rfl (r_pickT rfl rfl) ?_
    refine vM (lv rfl) rfl rfl ?_
    refine s_ops (fun g1_19 => ?_) (fun g1_19 => ?_)
    ·refine o_v (lvg rfl rfl rfl) rfl (r_fa fa_57_1 rfl) ?_
     refine o_ld (lvg rfl rfl rfl) rfl lk_48 rfl ⟨_, _, _, hH.c1, _, rfl, ?_⟩
     refine o_v (lvg rfl rfl rfl) rfl (r_fa fa_57_1 rfl) ?_
     refine o_ld (lvg rfl rfl rfl) rfl lk_48 rfl ⟨_, _, _, hH.c0, _, rfl, ?_⟩
     refine o_call (lvg rfl rfl rfl) rfl en_25 rfl (help_PlainP h1 h2 hl hH) ?_
     rintro _ w ⟨rfl, hH⟩
     refine o_v (lv rfl) rfl (r_pickT rfl rfl) ?_
     refine vA (lv rfl) rfl rfl ?_
     refine g_rq Tryz.func54 (res_t rfl res_0) ?_
     refine ⟨bv ?_, (hH.sel (by repeat' (first | exact Sel.refl _ | refine Sel.skip _ ?_)))⟩
     obtain ⟨e1, p1, n1, u1⟩ := r1
     obtain ⟨e2, p2, n2, u2⟩ := r2
     (simp only at g1_5 g1_12 g1_19
      subst g1_5 g1_12 g1_19
      simp)
    ·refine o_no rfl rfl rfl rfl ?_
     refine o_no rfl rfl rfl rfl ?_
     refine o_no rfl rfl rfl rfl ?_
     refine o_no rfl rfl rfl rfl ?_
     refine o_no rfl rfl rfl rfl ?_
     refine o_v (lv rfl) rfl (r_pickF rfl rfl) ?_
     refine vA (lv rfl) rfl rfl ?_
     refine g_rq Tryz.func54 (res_t rfl res_0) ?_
     refine ⟨bv ?_, (hH.sel (by repeat' (first | exact Sel.refl _ | refine Sel.skip _ ?_)))⟩
     obtain ⟨e1, p1, n1, u1⟩ := r1
     obtain ⟨e2, p2, n2, u2⟩ := r2
     (symm; apply decide_eq_false; intro h; cases h; exact g1_19 rfl)
   ·refine o_no rfl rfl rfl rfl ?_
    refine o_no rfl rfl rfl rfl ?_
    refine o_no rfl rfl rfl rfl ?_
    refine o_no rfl rfl rfl rfl ?_
    refine o_no rfl rfl rfl rfl ?_
    refine o_v (lv rfl) rfl (r_pickF rfl rfl) ?_
    refine vM (lv rfl) rfl rfl ?_
    refine o_no rfl rfl rfl rfl ?_
    refine o_no rfl rfl rfl rfl ?_
    refine o_no rfl rfl rfl rfl ?_
    refine o_no rfl rfl rfl rfl ?_
    refine o_no rfl rfl rfl rfl ?_
    refine o_v (lv rfl) rfl (r_pickF rfl rfl) ?_
    refine vA (lv rfl) rfl rfl ?_
    refine g_rq Tryz.func54 (res_t rfl res_0) ?_
    refine ⟨bv ?_, (hH.sel (by repeat' (first | exact Sel.refl _ | refine Sel.skip _ ?_)))⟩
    obtain ⟨e1, p1, n1, u1⟩ := r1
    obtain ⟨e2, p2, n2, u2⟩ := r2
    (symm; apply decide_eq_false; intro h; cases h; exact g1_12 rfl)
  ·refine o_no rfl rfl rfl rfl ?_
   refine o_no rfl rfl rfl rfl ?_
   refine o_no rfl rfl rfl rfl ?_
   refine o_no rfl rfl rfl rfl ?_
   refine o_no rfl rfl rfl rfl ?_
   refine o_v (lv rfl) rfl (r_pickF rfl rfl) ?_
   refine vM (lv rfl) rfl rfl ?_
   refine o_no rfl rfl rfl rfl ?_
   refine o_no rfl rfl rfl rfl ?_
   refine o_no rfl rfl rfl rfl ?_
   refine o_no rfl rfl rfl rfl ?_
   refine o_no rfl rfl rfl rfl ?_
   refine o_v (lv rfl) rfl (r_pickF rfl rfl) ?_
   refine vM (lv rfl) rfl rfl ?_
   refine o_no rfl rfl rfl rfl ?_
   refine o_no rfl rfl rfl rfl ?_
   refine o_no rfl rfl rfl rfl ?_
   refine o_no rfl rfl rfl rfl ?_
   refine o_no rfl rfl rfl rfl ?_
   refine o_v (lv rfl) rfl (r_pickF rfl rfl) ?_
   refine vA (lv rfl) rfl rfl ?_
   refine g_rq Tryz.func54 (res_t rfl res_0) ?_
   refine ⟨bv ?_, (hH.sel (by repeat' (first | exact Sel.refl _ | refine Sel.skip _ ?_)))⟩
   obtain ⟨e1, p1, n1, u1⟩ := r1
   obtain ⟨e2, p2, n2, u2⟩ := r2
   (symm; apply decide_eq_false; intro h; cases h; exact g1_5 rfl)
end
end Go.Proofs.YtkdbglfdgeldpaaGreat
