/- Contracts of package witness and of the reference's like: calls and points. Condition: numbers of 64 bits; plans and points only read. -/
import Derived.Test.YtkdbglfdgeldpaaGreatMdl2
set_option linter.unusedVariables false
namespace Go.Proofs.YtkdbglfdgeldpaaGreat
open Go.Lt
def callOf (ls : List (List Call)) (x : Point) : Call × Bool :=
  if x.who < 0 then (⟨0, 0, 0, 0⟩, false) else match ls[x.who.toNat]? with
    | none => (⟨0, 0, 0, 0⟩, false)
    | some l => if x.place < 0 then (⟨0, 0, 0, 0⟩, false) else match l[x.place.toNat]? with
      | none => (⟨0, 0, 0, 0⟩, false)
      | some c => if c.op = 5 ∧ x.ret.e ≠ 1 then (⟨4, 0, 0, 0⟩, true) else (c, true)
section
variable {R : Base} {F : List HP} {w : World}
theorem wit_Call {c : Config} {lv pv : Value} {ls : List (List Call)} (hP : RLists lv ls R.h) (hb : ls.length ≤ 2147483648) (x : Point) (hH : Holds R F w) :
    Ret Tryz.prog 58 [vPlan c lv, vPt x pv] w fun v w' => v = .tuple #[vC (callOf ls x).1, .bool (callOf ls x).2] ∧ Holds R F w' := by
  obtain ⟨vs, hvs, hrd, hin⟩ := hP
  obtain ⟨a, cap, rfl, hcap⟩ := hrd.len
  refine ret_of_g (n := 57) Tryz.func58 rfl rfl (by simp) ?_
  refine g_seq ?_
  refine g_region (l := [0, 1, 2, 3]) rfl ?_
  refine o_box (lv rfl) rfl (cs := [_, _, _, _, _, _]) rfl rfl hH ?_
  intro b2 w hH
  refine o_box (lv rfl) rfl (cs := [_, _, _, _, _, _, _]) rfl rfl hH ?_
  intro b3 w hH
  refine o_al (lv rfl) rfl ze_46 hH ?_
  intro b4 w hH
  refine vA (lv rfl) rfl rfl ?_
  refine g_seq ?_
  refine g_seq ?_
  refine rD mixed hH fun w hH => ?_
  refine pF 0 (lv rfl) rfl fa_59_1 rfl ?_
  refine d_ld (i := 1) [] (lv rfl) rfl lk_3 rfl (by kernel_rfl) ⟨_, _, _, hH.c1, _, rfl, ?_⟩
  refine d_p (i := 2) (lv rfl) rfl (fun w => (r_lt rfl rfl)) (by kernel_rfl) ?_
  refine pM 3 (lv rfl) rfl rfl ?_
  refine s_opd (fun g1_3 => ?_) (fun g1_3 => ?_)
  ·refine pO 4 rfl rfl rfl rfl ?_
   refine pO 5 rfl rfl rfl rfl ?_
   refine pO 6 rfl rfl rfl rfl ?_
   refine pO 7 rfl rfl rfl rfl ?_
   refine pO 8 rfl rfl rfl rfl ?_
   refine pO 9 rfl rfl rfl rfl ?_
   refine d_p (i := 10) (lv rfl) rfl (fun w => (r_pickT rfl rfl)) (by kernel_rfl) ?_
   refine pM 11 (lv rfl) rfl rfl ?_
   refine pO 12 rfl rfl rfl rfl ?_
   refine pO 13 rfl rfl rfl rfl ?_
   refine pO 14 rfl rfl rfl rfl ?_
   refine d_p (i := 15) (lv rfl) rfl (fun w => (r_pickT rfl rfl)) (by kernel_rfl) ?_
   refine pM 16 (lv rfl) rfl rfl ?_
   refine pO 17 rfl rfl rfl rfl ?_
   refine pO 18 rfl rfl rfl rfl ?_
   refine pO 19 rfl rfl rfl rfl ?_
   refine pO 20 rfl rfl rfl rfl ?_
   refine pO 21 rfl rfl rfl rfl ?_
   refine pO 22 rfl rfl rfl rfl ?_
   refine pO 23 rfl rfl rfl rfl ?_
   refine pO 24 rfl rfl rfl rfl ?_
   refine pO 25 rfl rfl rfl rfl ?_
   refine pO 26 rfl rfl rfl rfl ?_
   refine d_p (i := 27) (lv rfl) rfl (fun w => (r_pickT rfl rfl)) (by kernel_rfl) ?_
   refine d_end (by kernel_rfl) ?_
   refine g_true rfl ?_
   refine g_seq ?_
   refine g_region (l := [0, 1, 2]) rfl ?_
   refine o_v (lv rfl) rfl (r_bld (ps := []) (cs := [_, _, _, _]) pl_46 rfl rfl) ?_
   refine o_st (lv rfl) rfl lk_46 rfl (vs := [_, _, _, _]) rfl rfl (by exact hH) rfl rfl (by simp) rfl ?_
   intro w hH; dsimp only [setL, List.set] at hH
   refine vA (lv rfl) rfl rfl ?_
   refine g_rq Tryz.func58 (res_cell rfl (run_loadVarN (vs := [_, _, _, _]) lk_46 (cells_of hH.c0 rfl)) (res_t rfl res_0)) ?_
   first
   | (rw [show callOf ls x = (⟨0, 0, 0, 0⟩, false) from by unfold callOf; rw [if_pos g1_3]]; exact ⟨rfl, (hH.sel (by repeat' (first | exact Sel.refl _ | refine Sel.skip _ ?_)))⟩)
   | (rw [show callOf ls x = (⟨0, 0, 0, 0⟩, false) from by unfold callOf; rw [if_neg g1_3, List.getElem?_eq_none (by omega)]]; exact ⟨rfl, (hH.sel (by repeat' (first | exact Sel.refl _)))⟩)
   | (rw [show callOf ls x = (⟨0, 0, 0, 0⟩, false) from by unfold callOf; rw [if_neg g1_3, hl]; simp only; rw [if_pos g1_16]]; exact ⟨rfl, (hH.sel (by repeat' (first | exact Sel.refl _)))⟩)
   | (rw [show callOf ls x = (⟨0, 0, 0, 0⟩, false) from by unfold callOf; rw [if_neg g1_3, hl]; simp only; rw [if_neg g1_16, List.getElem?_eq_none (by omega)]]; exact ⟨rfl, (hH.sel (by repeat' (first | exact Sel.refl _)))⟩)
   | (rw [show callOf ls x = (⟨4, 0, 0, 0⟩, true) from by unfold callOf; rw [if_neg g1_3, hl]; simp only; rw [if_neg g1_16, hy]; simp only; rw [if_pos ⟨g4_3, c1⟩]]; exact ⟨rfl, (hH.sel (by repeat' (first | exact Sel.refl _)))⟩)
   | (rw [show callOf ls x = (y, true) from by unfold callOf; rw [if_neg g1_3, hl]; simp only; rw [if_neg g1_16, hy]; simp only; rw [if_neg (fun h => c1 h.2)]]; exact ⟨rfl, (hH.sel (by repeat' (first | exact Sel.refl _)))⟩)
   | (rw [show callOf ls x = (y, true) from by unfold callOf; rw [if_neg g1_3, hl]; simp only; rw [if_neg g1_16, hy]; simp only; rw [if_neg (fun h => g4_3 h.1)]]; exact ⟨rfl, (hH.sel (by repeat' (first | exact Sel.refl _)))⟩)
  ·refine pF 4 (lvg rfl rfl rfl) rfl fa_59_1 rfl ?_
   refine d_ld (i := 5) [] (lvg rfl rfl rfl) rfl lk_3 rfl (by kernel_rfl) ⟨_, _, _, hH.c1, _, rfl, ?_⟩
   refine pF 6 (lvg rfl rfl rfl) rfl fa_28_1 rfl ?_
   refine d_ld (i := 7) [] (lvg rfl rfl rfl) rfl lk_25 rfl (by kernel_rfl) ⟨_, _, _, hH.c2, _, rfl, ?_⟩
   refine d_p (i := 8) (lvg rfl rfl rfl) rfl (fun w => (r_len el_25 rfl)) (by kernel_rfl) ?_
   refine d_p (i := 9) (lvg rfl rfl rfl) rfl (fun w => (r_ge rfl rfl)) (by kernel_rfl) ?_
   refine d_p (i := 10) (lv rfl) rfl (fun w => (r_pickF rfl rfl)) (by kernel_rfl) ?_
   refine pM 11 (lv rfl) rfl rfl ?_
   refine s_opd (fun g1_11 => ?_) (fun g1_11 => ?_)
   ·refine pO 12 rfl rfl rfl rfl ?_
    refine pO 13 rfl rfl rfl rfl ?_
    refine pO 14 rfl rfl rfl rfl ?_
    refine d_p (i := 15) (lv rfl) rfl (fun w => (r_pickT rfl rfl)) (by kernel_rfl) ?_
    refine pM 16 (lv rfl) rfl rfl ?_
    refine pO 17 rfl rfl rfl rfl ?_
    refine pO 18 rfl rfl rfl rfl ?_
    refine pO 19 rfl rfl rfl rfl ?_
    refine pO 20 rfl rfl rfl rfl ?_
    refine pO 21 rfl rfl rfl rfl ?_
    refine pO 22 rfl rfl rfl rfl ?_
    refine pO 23 rfl rfl rfl rfl ?_
    refine pO 24 rfl rfl rfl rfl ?_
    refine pO 25 rfl rfl rfl rfl ?_
    refine pO 26 rfl rfl rfl rfl ?_
    refine d_p (i := 27) (lv rfl) rfl (fun w => (r_pickT rfl rfl)) (by kernel_rfl) ?_
    refine d_end (by kernel_rfl) ?_
    refine g_true rfl ?_
    refine g_seq ?_
    refine g_region (l := [0, 1, 2]) rfl ?_
    refine o_v (lv rfl) rfl (r_bld (ps := []) (cs := [_, _, _, _]) pl_46 rfl rfl) ?_
    refine o_st (lv rfl) rfl lk_46 rfl (vs := [_, _, _, _]) rfl rfl (by exact hH) rfl rfl (by simp) rfl ?_
    intro w hH; dsimp only [setL, List.set] at hH
    refine vA (lv rfl) rfl rfl ?_
    refine g_rq Tryz.func58 (res_cell rfl (run_loadVarN (vs := [_, _, _, _]) lk_46 (cells_of hH.c0 rfl)) (res_t rfl res_0)) ?_
    first
    | (rw [show callOf ls x = (⟨0, 0, 0, 0⟩, false) from by unfold callOf; rw [if_pos g1_3]]; exact ⟨rfl, (hH.sel (by repeat' (first | exact Sel.refl _)))⟩)
    | (rw [show callOf ls x = (⟨0, 0, 0, 0⟩, false) from by unfold callOf; rw [if_neg g1_3, List.getElem?_eq_none (by omega)]]; exact ⟨rfl, (hH.sel (by repeat' (first | exact Sel.refl _ | refine Sel.skip _ ?_)))⟩)
    | (rw [show callOf ls x = (⟨0, 0, 0, 0⟩, false) from by unfold callOf; rw [if_neg g1_3, hl]; simp only; rw [if_pos g1_16]]; exact ⟨rfl, (hH.sel (by repeat' (first | exact Sel.refl _)))⟩)
    | (rw [show callOf ls x = (⟨0, 0, 0, 0⟩, false) from by unfold callOf; rw [if_neg g1_3, hl]; simp only; rw [if_neg g1_16, List.getElem?_eq_none (by omega)]]; exact ⟨rfl, (hH.sel (by repeat' (first | exact Sel.refl _)))⟩)
    | (rw [show callOf ls x = (⟨4, 0, 0, 0⟩, true) from by unfold callOf; rw [if_neg g1_3, hl]; simp only; rw [if_neg g1_16, hy]; simp only; rw [if_pos ⟨g4_3, c1⟩]]; exact ⟨rfl, (hH.sel (by repeat' (first | exact Sel.refl _)))⟩)
    | (rw [show callOf ls x = (y, true) from by unfold callOf; rw [if_neg g1_3, hl]; simp only; rw [if_neg g1_16, hy]; simp only; rw [if_neg (fun h => c1 h.2)]]; exact ⟨rfl, (hH.sel (by repeat' (first | exact Sel.refl _)))⟩)
    | (rw [show callOf ls x = (y, true) from by unfold callOf; rw [if_neg g1_3, hl]; simp only; rw [if_neg g1_16, hy]; simp only; rw [if_neg (fun h => g4_3 h.1)]]; exact ⟨rfl, (hH.sel (by repeat' (first | exact Sel.refl _)))⟩)
   ·obtain ⟨l, hl⟩ : ∃ l, ls[x.who.toNat]? = some l := ⟨_, List.getElem?_eq_getElem (by omega)⟩
    obtain ⟨vv, hvv⟩ : ∃ vv, vs[x.who.toNat]? = some vv := ⟨_, List.getElem?_eq_getElem (by omega)⟩
    have hrl := hin _ _ _ hvv hl
    obtain ⟨a2, cap2, rfl, hcap2⟩ := hrl.len
    obtain ⟨bp, op_, cs, T, rfl, hbp, hcp0⟩ := Rd.el hkV hrd hvv
    have hcp := hcp0 0 _ rfl
    refine pF 12 (lvg rfl rfl rfl) rfl fa_59_2 rfl ?_
    refine d_ld (i := 13) [] (lvg rfl rfl rfl) rfl lk_3 rfl (by kernel_rfl) ⟨_, _, _, hH.c1, _, rfl, ?_⟩
    refine d_p (i := 14) (lvg rfl rfl rfl) rfl (fun w => (r_lt rfl rfl)) (by kernel_rfl) ?_
    refine d_p (i := 15) (lv rfl) rfl (fun w => (r_pickF rfl rfl)) (by kernel_rfl) ?_
    refine pM 16 (lv rfl) rfl rfl ?_
    refine s_opd (fun g1_16 => ?_) (fun g1_16 => ?_)
    ·refine pO 17 rfl rfl rfl rfl ?_
     refine pO 18 rfl rfl rfl rfl ?_
     refine pO 19 rfl rfl rfl rfl ?_
     refine pO 20 rfl rfl rfl rfl ?_
     refine pO 21 rfl rfl rfl rfl ?_
     refine pO 22 rfl rfl rfl rfl ?_
     refine pO 23 rfl rfl rfl rfl ?_
     refine pO 24 rfl rfl rfl rfl ?_
     refine pO 25 rfl rfl rfl rfl ?_
     refine pO 26 rfl rfl rfl rfl ?_
     refine d_p (i := 27) (lv rfl) rfl (fun w => (r_pickT rfl rfl)) (by kernel_rfl) ?_
     refine d_end (by kernel_rfl) ?_
     refine g_true rfl ?_
     refine g_seq ?_
     refine g_region (l := [0, 1, 2]) rfl ?_
     refine o_v (lv rfl) rfl (r_bld (ps := []) (cs := [_, _, _, _]) pl_46 rfl rfl) ?_
     refine o_st (lv rfl) rfl lk_46 rfl (vs := [_, _, _, _]) rfl rfl (by exact hH) rfl rfl (by simp) rfl ?_
     intro w hH; dsimp only [setL, List.set] at hH
     refine vA (lv rfl) rfl rfl ?_
     refine g_rq Tryz.func58 (res_cell rfl (run_loadVarN (vs := [_, _, _, _]) lk_46 (cells_of hH.c0 rfl)) (res_t rfl res_0)) ?_
     first
     | (rw [show callOf ls x = (⟨0, 0, 0, 0⟩, false) from by unfold callOf; rw [if_pos g1_3]]; exact ⟨rfl, (hH.sel (by repeat' (first | exact Sel.refl _)))⟩)
     | (rw [show callOf ls x = (⟨0, 0, 0, 0⟩, false) from by unfold callOf; rw [if_neg g1_3, List.getElem?_eq_none (by omega)]]; exact ⟨rfl, (hH.sel (by repeat' (first | exact Sel.refl _)))⟩)
     | (rw [show callOf ls x = (⟨0, 0, 0, 0⟩, false) from by unfold callOf; rw [if_neg g1_3, hl]; simp only; rw [if_pos g1_16]]; exact ⟨rfl, (hH.sel (by repeat' (first | exact Sel.refl _ | refine Sel.skip _ ?_)))⟩)
     | (rw [show callOf ls x = (⟨0, 0, 0, 0⟩, false) from by unfold callOf; rw [if_neg g1_3, hl]; simp only; rw [if_neg g1_16, List.getElem?_eq_none (by omega)]]; exact ⟨rfl, (hH.sel (by repeat' (first | exact Sel.refl _)))⟩)
     | (rw [show callOf ls x = (⟨4, 0, 0, 0⟩, true) from by unfold callOf; rw [if_neg g1_3, hl]; simp only; rw [if_neg g1_16, hy]; simp only; rw [if_pos ⟨g4_3, c1⟩]]; exact ⟨rfl, (hH.sel (by repeat' (first | exact Sel.refl _)))⟩)
     | (rw [show callOf ls x = (y, true) from by unfold callOf; rw [if_neg g1_3, hl]; simp only; rw [if_neg g1_16, hy]; simp only; rw [if_neg (fun h => c1 h.2)]]; exact ⟨rfl, (hH.sel (by repeat' (first | exact Sel.refl _)))⟩)
     | (rw [show callOf ls x = (y, true) from by unfold callOf; rw [if_neg g1_3, hl]; simp only; rw [if_neg g1_16, hy]; simp only; rw [if_neg (fun h => g4_3 h.1)]]; exact ⟨rfl, (hH.sel (by repeat' (first | exact Sel.refl _)))⟩)
    ·refine pF 17 (lvg rfl rfl rfl) rfl fa_59_2 rfl ?_
     refine d_ld (i := 18) [] (lvg rfl rfl rfl) rfl lk_3 rfl (by kernel_rfl) ⟨_, _, _, hH.c1, _, rfl, ?_⟩
     refine pF 19 (lvg rfl rfl rfl) rfl fa_28_1 rfl ?_
     refine d_ld (i := 20) [] (lvg rfl rfl rfl) rfl lk_25 rfl (by kernel_rfl) ⟨_, _, _, hH.c2, _, rfl, ?_⟩
     refine pF 21 (lvg rfl rfl rfl) rfl fa_59_1 rfl ?_
     refine d_ld (i := 22) [] (lvg rfl rfl rfl) rfl lk_3 rfl (by kernel_rfl) ⟨_, _, _, hH.c1, _, rfl, ?_⟩
     refine d_p (i := 23) (lvg rfl rfl rfl) rfl (fun w => (r_ia el_25 rfl rfl ?_ ?_)) (by kernel_rfl) ?_; omega; omega
     refine d_ld (i := 24) [] (lvg rfl rfl rfl) rfl lk_39 rfl (by kernel_rfl) ⟨_, _, _, hH.old hbp, _, hcp, ?_⟩
     refine d_p (i := 25) (lvg rfl rfl rfl) rfl (fun w => (r_len el_39 rfl)) (by kernel_rfl) ?_
     refine d_p (i := 26) (lvg rfl rfl rfl) rfl (fun w => (r_ge rfl rfl)) (by kernel_rfl) ?_
     refine d_p (i := 27) (lv rfl) rfl (fun w => (r_pickF rfl rfl)) (by kernel_rfl) ?_
     refine d_end (by kernel_rfl) ?_
     refine g_if rfl (fun c0 => ?_) (fun c0 => ?_)
     ·refine g_seq ?_
      refine g_region (l := [0, 1, 2]) rfl ?_
      refine o_v (lv rfl) rfl (r_bld (ps := []) (cs := [_, _, _, _]) pl_46 rfl rfl) ?_
      refine o_st (lv rfl) rfl lk_46 rfl (vs := [_, _, _, _]) rfl rfl (by exact hH) rfl rfl (by simp) rfl ?_
      intro w hH; dsimp only [setL, List.set] at hH
      refine vA (lv rfl) rfl rfl ?_
      refine g_rq Tryz.func58 (res_cell rfl (run_loadVarN (vs := [_, _, _, _]) lk_46 (cells_of hH.c0 rfl)) (res_t rfl res_0)) ?_
      first
      | (rw [show callOf ls x = (⟨0, 0, 0, 0⟩, false) from by unfold callOf; rw [if_pos g1_3]]; exact ⟨rfl, (hH.sel (by repeat' (first | exact Sel.refl _)))⟩)
      | (rw [show callOf ls x = (⟨0, 0, 0, 0⟩, false) from by unfold callOf; rw [if_neg g1_3, List.getElem?_eq_none (by omega)]]; exact ⟨rfl, (hH.sel (by repeat' (first | exact Sel.refl _)))⟩)
      | (rw [show callOf ls x = (⟨0, 0, 0, 0⟩, false) from by unfold callOf; rw [if_neg g1_3, hl]; simp only; rw [if_pos g1_16]]; exact ⟨rfl, (hH.sel (by repeat' (first | exact Sel.refl _)))⟩)
      | (rw [show callOf ls x = (⟨0, 0, 0, 0⟩, false) from by unfold callOf; rw [if_neg g1_3, hl]; simp only; rw [if_neg g1_16, List.getElem?_eq_none (by omega)]]; exact ⟨rfl, (hH.sel (by repeat' (first | exact Sel.refl _ | refine Sel.skip _ ?_)))⟩)
      | (rw [show callOf ls x = (⟨4, 0, 0, 0⟩, true) from by unfold callOf; rw [if_neg g1_3, hl]; simp only; rw [if_neg g1_16, hy]; simp only; rw [if_pos ⟨g4_3, c1⟩]]; exact ⟨rfl, (hH.sel (by repeat' (first | exact Sel.refl _)))⟩)
      | (rw [show callOf ls x = (y, true) from by unfold callOf; rw [if_neg g1_3, hl]; simp only; rw [if_neg g1_16, hy]; simp only; rw [if_neg (fun h => c1 h.2)]]; exact ⟨rfl, (hH.sel (by repeat' (first | exact Sel.refl _)))⟩)
      | (rw [show callOf ls x = (y, true) from by unfold callOf; rw [if_neg g1_3, hl]; simp only; rw [if_neg g1_16, hy]; simp only; rw [if_neg (fun h => g4_3 h.1)]]; exact ⟨rfl, (hH.sel (by repeat' (first | exact Sel.refl _)))⟩)
     ·obtain ⟨y, hy⟩ : ∃ y, l[x.place.toNat]? = some y := ⟨_, List.getElem?_eq_getElem (by omega)⟩
      obtain ⟨bp2, op2, cs2, T2, rfl, hbp2, hcp20⟩ := Rd.el hkC hrl hy
      have hcp2 := dt_of hcp20
      refine g_skip ?_
      refine g_seq ?_
      refine rD mixed hH fun w hH => ?_
      refine pF 0 (lv rfl) rfl fa_28_1 rfl ?_
      refine d_ld (i := 1) [11] (lv rfl) rfl lk_25 rfl (by kernel_rfl) ⟨_, _, _, hH.c2, _, rfl, ?_⟩
      refine pF 2 (lv rfl) rfl fa_59_1 rfl ?_
      refine d_ld (i := 3) [11] (lv rfl) rfl lk_3 rfl (by kernel_rfl) ⟨_, _, _, hH.c1, _, rfl, ?_⟩
      refine d_p (i := 4) (lv rfl) rfl (fun w => (r_ia el_25 rfl rfl ?_ ?_)) (by kernel_rfl) ?_; omega; omega
      refine d_ld (i := 5) [11] (lv rfl) rfl lk_39 rfl (by kernel_rfl) ⟨_, _, _, hH.old hbp, _, hcp, ?_⟩
      refine pF 6 (lv rfl) rfl fa_59_2 rfl ?_
      refine d_ld (i := 7) [11] (lv rfl) rfl lk_3 rfl (by kernel_rfl) ⟨_, _, _, hH.c1, _, rfl, ?_⟩
      refine d_p (i := 8) (lv rfl) rfl (fun w => (r_ia el_39 rfl rfl ?_ ?_)) (by kernel_rfl) ?_; omega; omega
      refine d_ldN (i := 9) [11] (lv rfl) rfl lk_46 rfl (by kernel_rfl) ⟨_, _, _, hH.old hbp2, _, hcp2, rfl, ?_⟩
      refine d_l (j := 10) (by kernel_rfl) ?_
      refine o_al (lv rfl) rfl ze_46 hH ?_
      intro b6 w hH
      refine ⟨(keeps_cons (fun _ => (by exact hH.old ‹_›)) (keeps_cons (fun _ => (by exact hH.c2)) (keeps_cons (fun _ => (by exact hH.old ‹_›)) (keeps_cons (fun _ => (by exact hH.c2)) (keeps_cons (fun _ => (by exact hH.c3)) trivial))))), ?_⟩
      refine d_l (j := 11) (by kernel_rfl) ?_
      refine o_st (lv rfl) rfl lk_46 rfl (vs := [_, _, _, _]) rfl rfl (by exact hH) rfl rfl (by simp) rfl ?_
      intro w hH; dsimp only [setL, List.set] at hH
      refine ⟨(keeps_in rfl (keeps_in rfl (keeps_in rfl (keeps_in rfl (keeps_in rfl trivial))))), ?_⟩
      refine d_end (by kernel_rfl) ?_
      refine g_seq ?_
      refine g_seq ?_
      refine g_region (l := [0, 1, 2, 3, 4, 5, 6, 7, 8]) rfl ?_
      refine o_v (lv rfl) rfl (r_fa fa_46_0 rfl) ?_
      refine o_ld (lv rfl) rfl lk_3 rfl ⟨_, _, _, hH.c0, _, rfl, ?_⟩
      refine o_v (lv rfl) rfl (r_eq rfl rfl) ?_
      refine vM (lv rfl) rfl rfl ?_
      refine s_ops (fun g4_3 => ?_) (fun g4_3 => ?_)
      ·refine o_v (lvg rfl rfl rfl) rfl (r_fa fa_59_3 rfl) ?_
       refine o_v (lvg rfl rfl rfl) rfl (r_fa fa_57_0 rfl) ?_
       refine o_ld (lvg rfl rfl rfl) rfl lk_55 rfl ⟨_, _, _, hH.c2, _, rfl, ?_⟩
       refine o_v (lvg rfl rfl rfl) rfl (r_ne rfl rfl) ?_
       refine o_v (lv rfl) rfl (r_pickT rfl rfl) ?_
       refine g_if rfl (fun c1 => ?_) (fun c1 => ?_)
       ·refine g_region (l := [0, 1]) rfl ?_
        refine o_v (lv rfl) rfl (r_bld (ps := [_]) (cs := [_, _, _, _]) pl_46 rfl rfl) ?_
        refine o_st (lv rfl) rfl lk_46 rfl (vs := [_, _, _, _]) rfl rfl (by exact hH) rfl rfl (by simp) rfl ?_
        intro w hH; dsimp only [setL, List.set] at hH
        refine g_seq ?_
        refine g_region (l := [0, 1, 2]) rfl ?_
        refine o_ldN (lv rfl) rfl lk_46 rfl ⟨_, _, _, hH.c0, [_, _, _, _], rfl, rfl, ?_⟩
        refine o_st (lv rfl) rfl lk_46 rfl (vs := [_, _, _, _]) rfl rfl (by exact hH.p1) rfl rfl (by simp) rfl ?_
        intro w hH; dsimp only [setL, List.set] at hH
        refine vA (lv rfl) rfl rfl ?_
        refine g_rq Tryz.func58 (res_cell rfl (run_loadVarN (vs := [_, _, _, _]) lk_46 (cells_of hH.c0 rfl)) (res_t rfl res_0)) ?_
        first
        | (rw [show callOf ls x = (⟨0, 0, 0, 0⟩, false) from by unfold callOf; rw [if_pos g1_3]]; exact ⟨rfl, (hH.sel (by repeat' (first | exact Sel.refl _)))⟩)
        | (rw [show callOf ls x = (⟨0, 0, 0, 0⟩, false) from by unfold callOf; rw [if_neg g1_3, List.getElem?_eq_none (by omega)]]; exact ⟨rfl, (hH.sel (by repeat' (first | exact Sel.refl _)))⟩)
        | (rw [show callOf ls x = (⟨0, 0, 0, 0⟩, false) from by unfold callOf; rw [if_neg g1_3, hl]; simp only; rw [if_pos g1_16]]; exact ⟨rfl, (hH.sel (by repeat' (first | exact Sel.refl _)))⟩)
        | (rw [show callOf ls x = (⟨0, 0, 0, 0⟩, false) from by unfold callOf; rw [if_neg g1_3, hl]; simp only; rw [if_neg g1_16, List.getElem?_eq_none (by omega)]]; exact ⟨rfl, (hH.sel (by repeat' (first | exact Sel.refl _)))⟩)
        | (rw [show callOf ls x = (⟨4, 0, 0, 0⟩, true) from by unfold callOf; rw [if_neg g1_3, hl]; simp only; rw [if_neg g1_16, hy]; simp only; rw [if_pos ⟨g4_3, c1⟩]]; exact ⟨rfl, (hH.sel (by repeat' (first | exact Sel.refl _ | refine Sel.skip _ ?_)))⟩)
        | (rw [show callOf ls x = (y, true) from by unfold callOf; rw [if_neg g1_3, hl]; simp only; rw [if_neg g1_16, hy]; simp only; rw [if_neg (fun h => c1 h.2)]]; exact ⟨rfl, (hH.sel (by repeat' (first | exact Sel.refl _)))⟩)
        | (rw [show callOf ls x = (y, true) from by unfold callOf; rw [if_neg g1_3, hl]; simp only; rw [if_neg g1_16, hy]; simp only; rw [if_neg (fun h => g4_3 h.1)]]; exact ⟨rfl, (hH.sel (by repeat' (first | exact Sel.refl _)))⟩)
       ·refine g_skip ?_
        refine g_seq ?_
        refine g_region (l := [0, 1, 2]) rfl ?_
        refine o_ldN (lv rfl) rfl lk_46 rfl ⟨_, _, _, hH.c0, [_, _, _, _], rfl, rfl, ?_⟩
        refine o_st (lv rfl) rfl lk_46 rfl (vs := [_, _, _, _]) rfl rfl (by exact hH.p1) rfl rfl (by simp) rfl ?_
        intro w hH; dsimp only [setL, List.set] at hH
        refine vA (lv rfl) rfl rfl ?_
        refine g_rq Tryz.func58 (res_cell rfl (run_loadVarN (vs := [_, _, _, _]) lk_46 (cells_of hH.c0 rfl)) (res_t rfl res_0)) ?_
        first
        | (rw [show callOf ls x = (⟨0, 0, 0, 0⟩, false) from by unfold callOf; rw [if_pos g1_3]]; exact ⟨rfl, (hH.sel (by repeat' (first | exact Sel.refl _)))⟩)
        | (rw [show callOf ls x = (⟨0, 0, 0, 0⟩, false) from by unfold callOf; rw [if_neg g1_3, List.getElem?_eq_none (by omega)]]; exact ⟨rfl, (hH.sel (by repeat' (first | exact Sel.refl _)))⟩)
        | (rw [show callOf ls x = (⟨0, 0, 0, 0⟩, false) from by unfold callOf; rw [if_neg g1_3, hl]; simp only; rw [if_pos g1_16]]; exact ⟨rfl, (hH.sel (by repeat' (first | exact Sel.refl _)))⟩)
        | (rw [show callOf ls x = (⟨0, 0, 0, 0⟩, false) from by unfold callOf; rw [if_neg g1_3, hl]; simp only; rw [if_neg g1_16, List.getElem?_eq_none (by omega)]]; exact ⟨rfl, (hH.sel (by repeat' (first | exact Sel.refl _)))⟩)
        | (rw [show callOf ls x = (⟨4, 0, 0, 0⟩, true) from by unfold callOf; rw [if_neg g1_3, hl]; simp only; rw [if_neg g1_16, hy]; simp only; rw [if_pos ⟨g4_3, c1⟩]]; exact ⟨rfl, (hH.sel (by repeat' (first | exact Sel.refl _ | refine Sel.skip _ ?_)))⟩)
        | (rw [show callOf ls x = (y, true) from by unfold callOf; rw [if_neg g1_3, hl]; simp only; rw [if_neg g1_16, hy]; simp only; rw [if_neg (fun h => c1 h.2)]]; exact ⟨rfl, (hH.sel (by repeat' (first | exact Sel.refl _ | refine Sel.skip _ ?_)))⟩)
        | (rw [show callOf ls x = (y, true) from by unfold callOf; rw [if_neg g1_3, hl]; simp only; rw [if_neg g1_16, hy]; simp only; rw [if_neg (fun h => g4_3 h.1)]]; exact ⟨rfl, (hH.sel (by repeat' (first | exact Sel.refl _)))⟩)
      ·refine o_no rfl rfl rfl rfl ?_
       refine o_no rfl rfl rfl rfl ?_
       refine o_no rfl rfl rfl rfl ?_
       refine o_no rfl rfl rfl rfl ?_
       refine o_v (lv rfl) rfl (r_pickF rfl rfl) ?_
       refine g_false rfl ?_
       refine g_skip ?_
       refine g_seq ?_
       refine g_region (l := [0, 1, 2]) rfl ?_
       refine o_ldN (lv rfl) rfl lk_46 rfl ⟨_, _, _, hH.c0, [_, _, _, _], rfl, rfl, ?_⟩
       refine o_st (lv rfl) rfl lk_46 rfl (vs := [_, _, _, _]) rfl rfl (by exact hH.p1) rfl rfl (by simp) rfl ?_
       intro w hH; dsimp only [setL, List.set] at hH
       refine vA (lv rfl) rfl rfl ?_
       refine g_rq Tryz.func58 (res_cell rfl (run_loadVarN (vs := [_, _, _, _]) lk_46 (cells_of hH.c0 rfl)) (res_t rfl res_0)) ?_
       first
       | (rw [show callOf ls x = (⟨0, 0, 0, 0⟩, false) from by unfold callOf; rw [if_pos g1_3]]; exact ⟨rfl, (hH.sel (by repeat' (first | exact Sel.refl _)))⟩)
       | (rw [show callOf ls x = (⟨0, 0, 0, 0⟩, false) from by unfold callOf; rw [if_neg g1_3, List.getElem?_eq_none (by omega)]]; exact ⟨rfl, (hH.sel (by repeat' (first | exact Sel.refl _)))⟩)
       | (rw [show callOf ls x = (⟨0, 0, 0, 0⟩, false) from by unfold callOf; rw [if_neg g1_3, hl]; simp only; rw [if_pos g1_16]]; exact ⟨rfl, (hH.sel (by repeat' (first | exact Sel.refl _)))⟩)
       | (rw [show callOf ls x = (⟨0, 0, 0, 0⟩, false) from by unfold callOf; rw [if_neg g1_3, hl]; simp only; rw [if_neg g1_16, List.getElem?_eq_none (by omega)]]; exact ⟨rfl, (hH.sel (by repeat' (first | exact Sel.refl _)))⟩)
       | (rw [show callOf ls x = (⟨4, 0, 0, 0⟩, true) from by unfold callOf; rw [if_neg g1_3, hl]; simp only; rw [if_neg g1_16, hy]; simp only; rw [if_pos ⟨g4_3, c1⟩]]; exact ⟨rfl, (hH.sel (by repeat' (first | exact Sel.refl _ | refine Sel.skip _ ?_)))⟩)
       | (rw [show callOf ls x = (y, true) from by unfold callOf; rw [if_neg g1_3, hl]; simp only; rw [if_neg g1_16, hy]; simp only; rw [if_neg (fun h => c1 h.2)]]; exact ⟨rfl, (hH.sel (by repeat' (first | exact Sel.refl _)))⟩)
       | (rw [show callOf ls x = (y, true) from by unfold callOf; rw [if_neg g1_3, hl]; simp only; rw [if_neg g1_16, hy]; simp only; rw [if_neg (fun h => g4_3 h.1)]]; exact ⟨rfl, (hH.sel (by repeat' (first | exact Sel.refl _ | refine Sel.skip _ ?_)))⟩)
theorem r27_Call {c : Config} {lv pv : Value} {ls : List (List Call)} (hP : RLists lv ls R.h) (hb : ls.length ≤ 2147483648) (x : Point) (hH : Holds R F w) :
    Ret Tryz.prog 48 [vPlan c lv, vPt x pv] w fun v w' => v = .tuple #[vC (callOf ls x).1, .bool (callOf ls x).2] ∧ Holds R F w' := by
  obtain ⟨vs, hvs, hrd, hin⟩ := hP
  obtain ⟨a, cap, rfl, hcap⟩ := hrd.len
  refine ret_of_g (n := 57) Tryz.func48 rfl rfl (by simp) ?_
  refine g_seq ?_
  refine g_region (l := [0, 1, 2, 3]) rfl ?_
  refine o_box (lv rfl) rfl (cs := [_, _, _, _, _, _]) rfl rfl hH ?_
  intro b2 w hH
  refine o_box (lv rfl) rfl (cs := [_, _, _, _, _, _, _]) rfl rfl hH ?_
  intro b3 w hH
  refine o_al (lv rfl) rfl ze_46 hH ?_
  intro b4 w hH
  refine vA (lv rfl) rfl rfl ?_
  refine g_seq ?_
  refine g_seq ?_
  refine rD mixed hH fun w hH => ?_
  refine pF 0 (lv rfl) rfl fa_59_1 rfl ?_
  refine d_ld (i := 1) [] (lv rfl) rfl lk_3 rfl (by kernel_rfl) ⟨_, _, _, hH.c1, _, rfl, ?_⟩
  refine d_p (i := 2) (lv rfl) rfl (fun w => (r_lt rfl rfl)) (by kernel_rfl) ?_
  refine pM 3 (lv rfl) rfl rfl ?_
  refine s_opd (fun g1_3 => ?_) (fun g1_3 => ?_)
  ·refine pO 4 rfl rfl rfl rfl ?_
   refine pO 5 rfl rfl rfl rfl ?_
   refine pO 6 rfl rfl rfl rfl ?_
   refine pO 7 rfl rfl rfl rfl ?_
   refine pO 8 rfl rfl rfl rfl ?_
   refine pO 9 rfl rfl rfl rfl ?_
   refine d_p (i := 10) (lv rfl) rfl (fun w => (r_pickT rfl rfl)) (by kernel_rfl) ?_
   refine pM 11 (lv rfl) rfl rfl ?_
   refine pO 12 rfl rfl rfl rfl ?_
   refine pO 13 rfl rfl rfl rfl ?_
   refine pO 14 rfl rfl rfl rfl ?_
   refine d_p (i := 15) (lv rfl) rfl (fun w => (r_pickT rfl rfl)) (by kernel_rfl) ?_
   refine pM 16 (lv rfl) rfl rfl ?_
   refine pO 17 rfl rfl rfl rfl ?_
   refine pO 18 rfl rfl rfl rfl ?_
   refine pO 19 rfl rfl rfl rfl ?_
   refine pO 20 rfl rfl rfl rfl ?_
   refine pO 21 rfl rfl rfl rfl ?_
   refine pO 22 rfl rfl rfl rfl ?_
   refine pO 23 rfl rfl rfl rfl ?_
   refine pO 24 rfl rfl rfl rfl ?_
   refine pO 25 rfl rfl rfl rfl ?_
   refine pO 26 rfl rfl rfl rfl ?_
   refine d_p (i := 27) (lv rfl) rfl (fun w => (r_pickT rfl rfl)) (by kernel_rfl) ?_
   refine d_end (by kernel_rfl) ?_
   refine g_true rfl ?_
   refine g_seq ?_
   refine g_region (l := [0, 1, 2]) rfl ?_
   refine o_v (lv rfl) rfl (r_bld (ps := []) (cs := [_, _, _, _]) pl_46 rfl rfl) ?_
   refine o_st (lv rfl) rfl lk_46 rfl (vs := [_, _, _, _]) rfl rfl (by exact hH) rfl rfl (by simp) rfl ?_
   intro w hH; dsimp only [setL, List.set] at hH
   refine vA (lv rfl) rfl rfl ?_
   refine g_rq Tryz.func48 (res_cell rfl (run_loadVarN (vs := [_, _, _, _]) lk_46 (cells_of hH.c0 rfl)) (res_t rfl res_0)) ?_
   first
   | (rw [show callOf ls x = (⟨0, 0, 0, 0⟩, false) from by unfold callOf; rw [if_pos g1_3]]; exact ⟨rfl, (hH.sel (by repeat' (first | exact Sel.refl _ | refine Sel.skip _ ?_)))⟩)
   | (rw [show callOf ls x = (⟨0, 0, 0, 0⟩, false) from by unfold callOf; rw [if_neg g1_3, List.getElem?_eq_none (by omega)]]; exact ⟨rfl, (hH.sel (by repeat' (first | exact Sel.refl _)))⟩)
   | (rw [show callOf ls x = (⟨0, 0, 0, 0⟩, false) from by unfold callOf; rw [if_neg g1_3, hl]; simp only; rw [if_pos g1_16]]; exact ⟨rfl, (hH.sel (by repeat' (first | exact Sel.refl _)))⟩)
   | (rw [show callOf ls x = (⟨0, 0, 0, 0⟩, false) from by unfold callOf; rw [if_neg g1_3, hl]; simp only; rw [if_neg g1_16, List.getElem?_eq_none (by omega)]]; exact ⟨rfl, (hH.sel (by repeat' (first | exact Sel.refl _)))⟩)
   | (rw [show callOf ls x = (⟨4, 0, 0, 0⟩, true) from by unfold callOf; rw [if_neg g1_3, hl]; simp only; rw [if_neg g1_16, hy]; simp only; rw [if_pos ⟨g4_3, c1⟩]]; exact ⟨rfl, (hH.sel (by repeat' (first | exact Sel.refl _)))⟩)
   | (rw [show callOf ls x = (y, true) from by unfold callOf; rw [if_neg g1_3, hl]; simp only; rw [if_neg g1_16, hy]; simp only; rw [if_neg (fun h => c1 h.2)]]; exact ⟨rfl, (hH.sel (by repeat' (first | exact Sel.refl _)))⟩)
   | (rw [show callOf ls x = (y, true) from by unfold callOf; rw [if_neg g1_3, hl]; simp only; rw [if_neg g1_16, hy]; simp only; rw [if_neg (fun h => g4_3 h.1)]]; exact ⟨rfl, (hH.sel (by repeat' (first | exact Sel.refl _)))⟩)
  ·refine pF 4 (lvg rfl rfl rfl) rfl fa_59_1 rfl ?_
   refine d_ld (i := 5) [] (lvg rfl rfl rfl) rfl lk_3 rfl (by kernel_rfl) ⟨_, _, _, hH.c1, _, rfl, ?_⟩
   refine pF 6 (lvg rfl rfl rfl) rfl fa_28_1 rfl ?_
   refine d_ld (i := 7) [] (lvg rfl rfl rfl) rfl lk_25 rfl (by kernel_rfl) ⟨_, _, _, hH.c2, _, rfl, ?_⟩
   refine d_p (i := 8) (lvg rfl rfl rfl) rfl (fun w => (r_len el_25 rfl)) (by kernel_rfl) ?_
   refine d_p (i := 9) (lvg rfl rfl rfl) rfl (fun w => (r_ge rfl rfl)) (by kernel_rfl) ?_
   refine d_p (i := 10) (lv rfl) rfl (fun w => (r_pickF rfl rfl)) (by kernel_rfl) ?_
   refine pM 11 (lv rfl) rfl rfl ?_
   refine s_opd (fun g1_11 => ?_) (fun g1_11 => ?_)
   ·refine pO 12 rfl rfl rfl rfl ?_
    refine pO 13 rfl rfl rfl rfl ?_
    refine pO 14 rfl rfl rfl rfl ?_
    refine d_p (i := 15) (lv rfl) rfl (fun w => (r_pickT rfl rfl)) (by kernel_rfl) ?_
    refine pM 16 (lv rfl) rfl rfl ?_
    refine pO 17 rfl rfl rfl rfl ?_
    refine pO 18 rfl rfl rfl rfl ?_
    refine pO 19 rfl rfl rfl rfl ?_
    refine pO 20 rfl rfl rfl rfl ?_
    refine pO 21 rfl rfl rfl rfl ?_
    refine pO 22 rfl rfl rfl rfl ?_
    refine pO 23 rfl rfl rfl rfl ?_
    refine pO 24 rfl rfl rfl rfl ?_
    refine pO 25 rfl rfl rfl rfl ?_
    refine pO 26 rfl rfl rfl rfl ?_
    refine d_p (i := 27) (lv rfl) rfl (fun w => (r_pickT rfl rfl)) (by kernel_rfl) ?_
    refine d_end (by kernel_rfl) ?_
    refine g_true rfl ?_
    refine g_seq ?_
    refine g_region (l := [0, 1, 2]) rfl ?_
    refine o_v (lv rfl) rfl (r_bld (ps := []) (cs := [_, _, _, _]) pl_46 rfl rfl) ?_
    refine o_st (lv rfl) rfl lk_46 rfl (vs := [_, _, _, _]) rfl rfl (by exact hH) rfl rfl (by simp) rfl ?_
    intro w hH; dsimp only [setL, List.set] at hH
    refine vA (lv rfl) rfl rfl ?_
    refine g_rq Tryz.func48 (res_cell rfl (run_loadVarN (vs := [_, _, _, _]) lk_46 (cells_of hH.c0 rfl)) (res_t rfl res_0)) ?_
    first
    | (rw [show callOf ls x = (⟨0, 0, 0, 0⟩, false) from by unfold callOf; rw [if_pos g1_3]]; exact ⟨rfl, (hH.sel (by repeat' (first | exact Sel.refl _)))⟩)
    | (rw [show callOf ls x = (⟨0, 0, 0, 0⟩, false) from by unfold callOf; rw [if_neg g1_3, List.getElem?_eq_none (by omega)]]; exact ⟨rfl, (hH.sel (by repeat' (first | exact Sel.refl _ | refine Sel.skip _ ?_)))⟩)
    | (rw [show callOf ls x = (⟨0, 0, 0, 0⟩, false) from by unfold callOf; rw [if_neg g1_3, hl]; simp only; rw [if_pos g1_16]]; exact ⟨rfl, (hH.sel (by repeat' (first | exact Sel.refl _)))⟩)
    | (rw [show callOf ls x = (⟨0, 0, 0, 0⟩, false) from by unfold callOf; rw [if_neg g1_3, hl]; simp only; rw [if_neg g1_16, List.getElem?_eq_none (by omega)]]; exact ⟨rfl, (hH.sel (by repeat' (first | exact Sel.refl _)))⟩)
    | (rw [show callOf ls x = (⟨4, 0, 0, 0⟩, true) from by unfold callOf; rw [if_neg g1_3, hl]; simp only; rw [if_neg g1_16, hy]; simp only; rw [if_pos ⟨g4_3, c1⟩]]; exact ⟨rfl, (hH.sel (by repeat' (first | exact Sel.refl _)))⟩)
    | (rw [show callOf ls x = (y, true) from by unfold callOf; rw [if_neg g1_3, hl]; simp only; rw [if_neg g1_16, hy]; simp only; rw [if_neg (fun h => c1 h.2)]]; exact ⟨rfl, (hH.sel (by repeat' (first | exact Sel.refl _)))⟩)
    | (rw [show callOf ls x = (y, true) from by unfold callOf; rw [if_neg g1_3, hl]; simp only; rw [if_neg g1_16, hy]; simp only; rw [if_neg (fun h => g4_3 h.1)]]; exact ⟨rfl, (hH.sel (by repeat' (first | exact Sel.refl _)))⟩)
   ·obtain ⟨l, hl⟩ : ∃ l, ls[x.who.toNat]? = some l := ⟨_, List.getElem?_eq_getElem (by omega)⟩
    obtain ⟨vv, hvv⟩ : ∃ vv, vs[x.who.toNat]? = some vv := ⟨_, List.getElem?_eq_getElem (by omega)⟩
    have hrl := hin _ _ _ hvv hl
    obtain ⟨a2, cap2, rfl, hcap2⟩ := hrl.len
    obtain ⟨bp, op_, cs, T, rfl, hbp, hcp0⟩ := Rd.el hkV hrd hvv
    have hcp := hcp0 0 _ rfl
    refine pF 12 (lvg rfl rfl rfl) rfl fa_59_2 rfl ?_
    refine d_ld (i := 13) [] (lvg rfl rfl rfl) rfl lk_3 rfl (by kernel_rfl) ⟨_, _, _, hH.c1, _, rfl, ?_⟩
    refine d_p (i := 14) (lvg rfl rfl rfl) rfl (fun w => (r_lt rfl rfl)) (by kernel_rfl) ?_
    refine d_p (i := 15) (lv rfl) rfl (fun w => (r_pickF rfl rfl)) (by kernel_rfl) ?_
    refine pM 16 (lv rfl) rfl rfl ?_
    refine s_opd (fun g1_16 => ?_) (fun g1_16 => ?_)
    ·refine pO 17 rfl rfl rfl rfl ?_
     refine pO 18 rfl rfl rfl rfl ?_
     refine pO 19 rfl rfl rfl rfl ?_
     refine pO 20 rfl rfl rfl rfl ?_
     refine pO 21 rfl rfl rfl rfl ?_
     refine pO 22 rfl rfl rfl rfl ?_
     refine pO 23 rfl rfl rfl rfl ?_
     refine pO 24 rfl rfl rfl rfl ?_
     refine pO 25 rfl rfl rfl rfl ?_
     refine pO 26 rfl rfl rfl rfl ?_
     refine d_p (i := 27) (lv rfl) rfl (fun w => (r_pickT rfl rfl)) (by kernel_rfl) ?_
     refine d_end (by kernel_rfl) ?_
     refine g_true rfl ?_
     refine g_seq ?_
     refine g_region (l := [0, 1, 2]) rfl ?_
     refine o_v (lv rfl) rfl (r_bld (ps := []) (cs := [_, _, _, _]) pl_46 rfl rfl) ?_
     refine o_st (lv rfl) rfl lk_46 rfl (vs := [_, _, _, _]) rfl rfl (by exact hH) rfl rfl (by simp) rfl ?_
     intro w hH; dsimp only [setL, List.set] at hH
     refine vA (lv rfl) rfl rfl ?_
     refine g_rq Tryz.func48 (res_cell rfl (run_loadVarN (vs := [_, _, _, _]) lk_46 (cells_of hH.c0 rfl)) (res_t rfl res_0)) ?_
     first
     | (rw [show callOf ls x = (⟨0, 0, 0, 0⟩, false) from by unfold callOf; rw [if_pos g1_3]]; exact ⟨rfl, (hH.sel (by repeat' (first | exact Sel.refl _)))⟩)
     | (rw [show callOf ls x = (⟨0, 0, 0, 0⟩, false) from by unfold callOf; rw [if_neg g1_3, List.getElem?_eq_none (by omega)]]; exact ⟨rfl, (hH.sel (by repeat' (first | exact Sel.refl _)))⟩)
     | (rw [show callOf ls x = (⟨0, 0, 0, 0⟩, false) from by unfold callOf; rw [if_neg g1_3, hl]; simp only; rw [if_pos g1_16]]; exact ⟨rfl, (hH.sel (by repeat' (first | exact Sel.refl _ | refine Sel.skip _ ?_)))⟩)
     | (rw [show callOf ls x = (⟨0, 0, 0, 0⟩, false) from by unfold callOf; rw [if_neg g1_3, hl]; simp only; rw [if_neg g1_16, List.getElem?_eq_none (by omega)]]; exact ⟨rfl, (hH.sel (by repeat' (first | exact Sel.refl _)))⟩)
     | (rw [show callOf ls x = (⟨4, 0, 0, 0⟩, true) from by unfold callOf; rw [if_neg g1_3, hl]; simp only; rw [if_neg g1_16, hy]; simp only; rw [if_pos ⟨g4_3, c1⟩]]; exact ⟨rfl, (hH.sel (by repeat' (first | exact Sel.refl _)))⟩)
     | (rw [show callOf ls x = (y, true) from by unfold callOf; rw [if_neg g1_3, hl]; simp only; rw [if_neg g1_16, hy]; simp only; rw [if_neg (fun h => c1 h.2)]]; exact ⟨rfl, (hH.sel (by repeat' (first | exact Sel.refl _)))⟩)
     | (rw [show callOf ls x = (y, true) from by unfold callOf; rw [if_neg g1_3, hl]; simp only; rw [if_neg g1_16, hy]; simp only; rw [if_neg (fun h => g4_3 h.1)]]; exact ⟨rfl, (hH.sel (by repeat' (first | exact Sel.refl _)))⟩)
    ·refine pF 17 (lvg rfl rfl rfl) rfl fa_59_2 rfl ?_
     refine d_ld (i := 18) [] (lvg rfl rfl rfl) rfl lk_3 rfl (by kernel_rfl) ⟨_, _, _, hH.c1, _, rfl, ?_⟩
     refine pF 19 (lvg rfl rfl rfl) rfl fa_28_1 rfl ?_
     refine d_ld (i := 20) [] (lvg rfl rfl rfl) rfl lk_25 rfl (by kernel_rfl) ⟨_, _, _, hH.c2, _, rfl, ?_⟩
     refine pF 21 (lvg rfl rfl rfl) rfl fa_59_1 rfl ?_
     refine d_ld (i := 22) [] (lvg rfl rfl rfl) rfl lk_3 rfl (by kernel_rfl) ⟨_, _, _, hH.c1, _, rfl, ?_⟩
     refine d_p (i := 23) (lvg rfl rfl rfl) rfl (fun w => (r_ia el_25 rfl rfl ?_ ?_)) (by kernel_rfl) ?_; omega; omega
     refine d_ld (i := 24) [] (lvg rfl rfl rfl) rfl lk_39 rfl (by kernel_rfl) ⟨_, _, _, hH.old hbp, _, hcp, ?_⟩
     refine d_p (i := 25) (lvg rfl rfl rfl) rfl (fun w => (r_len el_39 rfl)) (by kernel_rfl) ?_
     refine d_p (i := 26) (lvg rfl rfl rfl) rfl (fun w => (r_ge rfl rfl)) (by kernel_rfl) ?_
     refine d_p (i := 27) (lv rfl) rfl (fun w => (r_pickF rfl rfl)) (by kernel_rfl) ?_
     refine d_end (by kernel_rfl) ?_
     refine g_if rfl (fun c0 => ?_) (fun c0 => ?_)
     ·refine g_seq ?_
      refine g_region (l := [0, 1, 2]) rfl ?_
      refine o_v (lv rfl) rfl (r_bld (ps := []) (cs := [_, _, _, _]) pl_46 rfl rfl) ?_
      refine o_st (lv rfl) rfl lk_46 rfl (vs := [_, _, _, _]) rfl rfl (by exact hH) rfl rfl (by simp) rfl ?_
      intro w hH; dsimp only [setL, List.set] at hH
      refine vA (lv rfl) rfl rfl ?_
      refine g_rq Tryz.func48 (res_cell rfl (run_loadVarN (vs := [_, _, _, _]) lk_46 (cells_of hH.c0 rfl)) (res_t rfl res_0)) ?_
      first
      | (rw [show callOf ls x = (⟨0, 0, 0, 0⟩, false) from by unfold callOf; rw [if_pos g1_3]]; exact ⟨rfl, (hH.sel (by repeat' (first | exact Sel.refl _)))⟩)
      | (rw [show callOf ls x = (⟨0, 0, 0, 0⟩, false) from by unfold callOf; rw [if_neg g1_3, List.getElem?_eq_none (by omega)]]; exact ⟨rfl, (hH.sel (by repeat' (first | exact Sel.refl _)))⟩)
      | (rw [show callOf ls x = (⟨0, 0, 0, 0⟩, false) from by unfold callOf; rw [if_neg g1_3, hl]; simp only; rw [if_pos g1_16]]; exact ⟨rfl, (hH.sel (by repeat' (first | exact Sel.refl _)))⟩)
      | (rw [show callOf ls x = (⟨0, 0, 0, 0⟩, false) from by unfold callOf; rw [if_neg g1_3, hl]; simp only; rw [if_neg g1_16, List.getElem?_eq_none (by omega)]]; exact ⟨rfl, (hH.sel (by repeat' (first | exact Sel.refl _ | refine Sel.skip _ ?_)))⟩)
      | (rw [show callOf ls x = (⟨4, 0, 0, 0⟩, true) from by unfold callOf; rw [if_neg g1_3, hl]; simp only; rw [if_neg g1_16, hy]; simp only; rw [if_pos ⟨g4_3, c1⟩]]; exact ⟨rfl, (hH.sel (by repeat' (first | exact Sel.refl _)))⟩)
      | (rw [show callOf ls x = (y, true) from by unfold callOf; rw [if_neg g1_3, hl]; simp only; rw [if_neg g1_16, hy]; simp only; rw [if_neg (fun h => c1 h.2)]]; exact ⟨rfl, (hH.sel (by repeat' (first | exact Sel.refl _)))⟩)
      | (rw [show callOf ls x = (y, true) from by unfold callOf; rw [if_neg g1_3, hl]; simp only; rw [if_neg g1_16, hy]; simp only; rw [if_neg (fun h => g4_3 h.1)]]; exact ⟨rfl, (hH.sel (by repeat' (first | exact Sel.refl _)))⟩)
     ·obtain ⟨y, hy⟩ : ∃ y, l[x.place.toNat]? = some y := ⟨_, List.getElem?_eq_getElem (by omega)⟩
      obtain ⟨bp2, op2, cs2, T2, rfl, hbp2, hcp20⟩ := Rd.el hkC hrl hy
      have hcp2 := dt_of hcp20
      refine g_skip ?_
      refine g_seq ?_
      refine rD mixed hH fun w hH => ?_
      refine pF 0 (lv rfl) rfl fa_28_1 rfl ?_
      refine d_ld (i := 1) [11] (lv rfl) rfl lk_25 rfl (by kernel_rfl) ⟨_, _, _, hH.c2, _, rfl, ?_⟩
      refine pF 2 (lv rfl) rfl fa_59_1 rfl ?_
      refine d_ld (i := 3) [11] (lv rfl) rfl lk_3 rfl (by kernel_rfl) ⟨_, _, _, hH.c1, _, rfl, ?_⟩
      refine d_p (i := 4) (lv rfl) rfl (fun w => (r_ia el_25 rfl rfl ?_ ?_)) (by kernel_rfl) ?_; omega; omega
      refine d_ld (i := 5) [11] (lv rfl) rfl lk_39 rfl (by kernel_rfl) ⟨_, _, _, hH.old hbp, _, hcp, ?_⟩
      refine pF 6 (lv rfl) rfl fa_59_2 rfl ?_
      refine d_ld (i := 7) [11] (lv rfl) rfl lk_3 rfl (by kernel_rfl) ⟨_, _, _, hH.c1, _, rfl, ?_⟩
      refine d_p (i := 8) (lv rfl) rfl (fun w => (r_ia el_39 rfl rfl ?_ ?_)) (by kernel_rfl) ?_; omega; omega
      refine d_ldN (i := 9) [11] (lv rfl) rfl lk_46 rfl (by kernel_rfl) ⟨_, _, _, hH.old hbp2, _, hcp2, rfl, ?_⟩
      refine d_l (j := 10) (by kernel_rfl) ?_
      refine o_al (lv rfl) rfl ze_46 hH ?_
      intro b6 w hH
      refine ⟨(keeps_cons (fun _ => (by exact hH.old ‹_›)) (keeps_cons (fun _ => (by exact hH.c2)) (keeps_cons (fun _ => (by exact hH.old ‹_›)) (keeps_cons (fun _ => (by exact hH.c2)) (keeps_cons (fun _ => (by exact hH.c3)) trivial))))), ?_⟩
      refine d_l (j := 11) (by kernel_rfl) ?_
      refine o_st (lv rfl) rfl lk_46 rfl (vs := [_, _, _, _]) rfl rfl (by exact hH) rfl rfl (by simp) rfl ?_
      intro w hH; dsimp only [setL, List.set] at hH
      refine ⟨(keeps_in rfl (keeps_in rfl (keeps_in rfl (keeps_in rfl (keeps_in rfl trivial))))), ?_⟩
      refine d_end (by kernel_rfl) ?_
      refine g_seq ?_
      refine g_seq ?_
      refine g_region (l := [0, 1, 2, 3, 4, 5, 6, 7, 8]) rfl ?_
      refine o_v (lv rfl) rfl (r_fa fa_46_0 rfl) ?_
      refine o_ld (lv rfl) rfl lk_3 rfl ⟨_, _, _, hH.c0, _, rfl, ?_⟩
      refine o_v (lv rfl) rfl (r_eq rfl rfl) ?_
      refine vM (lv rfl) rfl rfl ?_
      refine s_ops (fun g4_3 => ?_) (fun g4_3 => ?_)
      ·refine o_v (lvg rfl rfl rfl) rfl (r_fa fa_59_3 rfl) ?_
       refine o_v (lvg rfl rfl rfl) rfl (r_fa fa_57_0 rfl) ?_
       refine o_ld (lvg rfl rfl rfl) rfl lk_55 rfl ⟨_, _, _, hH.c2, _, rfl, ?_⟩
       refine o_v (lvg rfl rfl rfl) rfl (r_ne rfl rfl) ?_
       refine o_v (lv rfl) rfl (r_pickT rfl rfl) ?_
       refine g_if rfl (fun c1 => ?_) (fun c1 => ?_)
       ·refine g_seq ?_
        refine g_region (l := [0, 1, 2]) rfl ?_
        refine o_v (lv rfl) rfl (r_bld (ps := [_]) (cs := [_, _, _, _]) pl_46 rfl rfl) ?_
        refine o_st (lv rfl) rfl lk_46 rfl (vs := [_, _, _, _]) rfl rfl (by exact hH.p1) rfl rfl (by simp) rfl ?_
        intro w hH; dsimp only [setL, List.set] at hH
        refine vA (lv rfl) rfl rfl ?_
        refine g_rq Tryz.func48 (res_cell rfl (run_loadVarN (vs := [_, _, _, _]) lk_46 (cells_of hH.c0 rfl)) (res_t rfl res_0)) ?_
        first
        | (rw [show callOf ls x = (⟨0, 0, 0, 0⟩, false) from by unfold callOf; rw [if_pos g1_3]]; exact ⟨rfl, (hH.sel (by repeat' (first | exact Sel.refl _)))⟩)
        | (rw [show callOf ls x = (⟨0, 0, 0, 0⟩, false) from by unfold callOf; rw [if_neg g1_3, List.getElem?_eq_none (by omega)]]; exact ⟨rfl, (hH.sel (by repeat' (first | exact Sel.refl _)))⟩)
        | (rw [show callOf ls x = (⟨0, 0, 0, 0⟩, false) from by unfold callOf; rw [if_neg g1_3, hl]; simp only; rw [if_pos g1_16]]; exact ⟨rfl, (hH.sel (by repeat' (first | exact Sel.refl _)))⟩)
        | (rw [show callOf ls x = (⟨0, 0, 0, 0⟩, false) from by unfold callOf; rw [if_neg g1_3, hl]; simp only; rw [if_neg g1_16, List.getElem?_eq_none (by omega)]]; exact ⟨rfl, (hH.sel (by repeat' (first | exact Sel.refl _)))⟩)
        | (rw [show callOf ls x = (⟨4, 0, 0, 0⟩, true) from by unfold callOf; rw [if_neg g1_3, hl]; simp only; rw [if_neg g1_16, hy]; simp only; rw [if_pos ⟨g4_3, c1⟩]]; exact ⟨rfl, (hH.sel (by repeat' (first | exact Sel.refl _ | refine Sel.skip _ ?_)))⟩)
        | (rw [show callOf ls x = (y, true) from by unfold callOf; rw [if_neg g1_3, hl]; simp only; rw [if_neg g1_16, hy]; simp only; rw [if_neg (fun h => c1 h.2)]]; exact ⟨rfl, (hH.sel (by repeat' (first | exact Sel.refl _)))⟩)
        | (rw [show callOf ls x = (y, true) from by unfold callOf; rw [if_neg g1_3, hl]; simp only; rw [if_neg g1_16, hy]; simp only; rw [if_neg (fun h => g4_3 h.1)]]; exact ⟨rfl, (hH.sel (by repeat' (first | exact Sel.refl _)))⟩)
       ·refine g_skip ?_
        refine g_seq ?_
        refine g_region (l := [0, 1, 2]) rfl ?_
        refine o_ldN (lv rfl) rfl lk_46 rfl ⟨_, _, _, hH.c0, [_, _, _, _], rfl, rfl, ?_⟩
        refine o_st (lv rfl) rfl lk_46 rfl (vs := [_, _, _, _]) rfl rfl (by exact hH.p1) rfl rfl (by simp) rfl ?_
        intro w hH; dsimp only [setL, List.set] at hH
        refine vA (lv rfl) rfl rfl ?_
        refine g_rq Tryz.func48 (res_cell rfl (run_loadVarN (vs := [_, _, _, _]) lk_46 (cells_of hH.c0 rfl)) (res_t rfl res_0)) ?_
        first
        | (rw [show callOf ls x = (⟨0, 0, 0, 0⟩, false) from by unfold callOf; rw [if_pos g1_3]]; exact ⟨rfl, (hH.sel (by repeat' (first | exact Sel.refl _)))⟩)
        | (rw [show callOf ls x = (⟨0, 0, 0, 0⟩, false) from by unfold callOf; rw [if_neg g1_3, List.getElem?_eq_none (by omega)]]; exact ⟨rfl, (hH.sel (by repeat' (first | exact Sel.refl _)))⟩)
        | (rw [show callOf ls x = (⟨0, 0, 0, 0⟩, false) from by unfold callOf; rw [if_neg g1_3, hl]; simp only; rw [if_pos g1_16]]; exact ⟨rfl, (hH.sel (by repeat' (first | exact Sel.refl _)))⟩)
        | (rw [show callOf ls x = (⟨0, 0, 0, 0⟩, false) from by unfold callOf; rw [if_neg g1_3, hl]; simp only; rw [if_neg g1_16, List.getElem?_eq_none (by omega)]]; exact ⟨rfl, (hH.sel (by repeat' (first | exact Sel.refl _)))⟩)
        | (rw [show callOf ls x = (⟨4, 0, 0, 0⟩, true) from by unfold callOf; rw [if_neg g1_3, hl]; simp only; rw [if_neg g1_16, hy]; simp only; rw [if_pos ⟨g4_3, c1⟩]]; exact ⟨rfl, (hH.sel (by repeat' (first | exact Sel.refl _ | refine Sel.skip _ ?_)))⟩)
        | (rw [show callOf ls x = (y, true) from by unfold callOf; rw [if_neg g1_3, hl]; simp only; rw [if_neg g1_16, hy]; simp only; rw [if_neg (fun h => c1 h.2)]]; exact ⟨rfl, (hH.sel (by repeat' (first | exact Sel.refl _ | refine Sel.skip _ ?_)))⟩)
        | (rw [show callOf ls x = (y, true) from by unfold callOf; rw [if_neg g1_3, hl]; simp only; rw [if_neg g1_16, hy]; simp only; rw [if_neg (fun h => g4_3 h.1)]]; exact ⟨rfl, (hH.sel (by repeat' (first | exact Sel.refl _)))⟩)
      ·refine o_no rfl rfl rfl rfl ?_
       refine o_no rfl rfl rfl rfl ?_
       refine o_no rfl rfl rfl rfl ?_
       refine o_no rfl rfl rfl rfl ?_
       refine o_v (lv rfl) rfl (r_pickF rfl rfl) ?_
       refine g_false rfl ?_
       refine g_skip ?_
       refine g_seq ?_
       refine g_region (l := [0, 1, 2]) rfl ?_
       refine o_ldN (lv rfl) rfl lk_46 rfl ⟨_, _, _, hH.c0, [_, _, _, _], rfl, rfl, ?_⟩
       refine o_st (lv rfl) rfl lk_46 rfl (vs := [_, _, _, _]) rfl rfl (by exact hH.p1) rfl rfl (by simp) rfl ?_
       intro w hH; dsimp only [setL, List.set] at hH
       refine vA (lv rfl) rfl rfl ?_
       refine g_rq Tryz.func48 (res_cell rfl (run_loadVarN (vs := [_, _, _, _]) lk_46 (cells_of hH.c0 rfl)) (res_t rfl res_0)) ?_
       first
       | (rw [show callOf ls x = (⟨0, 0, 0, 0⟩, false) from by unfold callOf; rw [if_pos g1_3]]; exact ⟨rfl, (hH.sel (by repeat' (first | exact Sel.refl _)))⟩)
       | (rw [show callOf ls x = (⟨0, 0, 0, 0⟩, false) from by unfold callOf; rw [if_neg g1_3, List.getElem?_eq_none (by omega)]]; exact ⟨rfl, (hH.sel (by repeat' (first | exact Sel.refl _)))⟩)
       | (rw [show callOf ls x = (⟨0, 0, 0, 0⟩, false) from by unfold callOf; rw [if_neg g1_3, hl]; simp only; rw [if_pos g1_16]]; exact ⟨rfl, (hH.sel (by repeat' (first | exact Sel.refl _)))⟩)
       | (rw [show callOf ls x = (⟨0, 0, 0, 0⟩, false) from by unfold callOf; rw [if_neg g1_3, hl]; simp only; rw [if_neg g1_16, List.getElem?_eq_none (by omega)]]; exact ⟨rfl, (hH.sel (by repeat' (first | exact Sel.refl _)))⟩)
       | (rw [show callOf ls x = (⟨4, 0, 0, 0⟩, true) from by unfold callOf; rw [if_neg g1_3, hl]; simp only; rw [if_neg g1_16, hy]; simp only; rw [if_pos ⟨g4_3, c1⟩]]; exact ⟨rfl, (hH.sel (by repeat' (first | exact Sel.refl _ | refine Sel.skip _ ?_)))⟩)
       | (rw [show callOf ls x = (y, true) from by unfold callOf; rw [if_neg g1_3, hl]; simp only; rw [if_neg g1_16, hy]; simp only; rw [if_neg (fun h => c1 h.2)]]; exact ⟨rfl, (hH.sel (by repeat' (first | exact Sel.refl _)))⟩)
       | (rw [show callOf ls x = (y, true) from by unfold callOf; rw [if_neg g1_3, hl]; simp only; rw [if_neg g1_16, hy]; simp only; rw [if_neg (fun h => g4_3 h.1)]]; exact ⟨rfl, (hH.sel (by repeat' (first | exact Sel.refl _ | refine Sel.skip _ ?_)))⟩)
end
end Go.Proofs.YtkdbglfdgeldpaaGreat
