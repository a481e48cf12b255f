/- Contracts of package model: its calls. Condition: numbers of 64 bits. -/
import Derived.Test.YtkdbglfdgeldpaaGreatMdl
import Derived.Test.YtkdbglfdgeldpaaGreatRMdl3
set_option linter.unusedVariables false
namespace Go.Proofs.YtkdbglfdgeldpaaGreat
open Go.Lt
section
variable {R : Base} {F : List HP} {w : World}
theorem do_op1 (m : Mdl) (c : Call) (h : c.op = 1) : m.do c = (code (m.register c).1, (m.register c).2) := by unfold Mdl.do; rw [if_pos h]
theorem do_op2 (m : Mdl) (c : Call) (h : c.op = 2) : m.do c = (code (m.close c.flow).1, (m.close c.flow).2) := by unfold Mdl.do; rw [if_neg (by omega), if_pos h]
theorem do_op4 (m : Mdl) (c : Call) (h : c.op = 4) : m.do c = m.one := by unfold Mdl.do; rw [if_neg (by omega), if_neg (by omega), if_neg (by omega), if_pos h]
theorem do_op5 (m : Mdl) (c : Call) (h : c.op = 5) : m.do c = m.batch c.a := by unfold Mdl.do; rw [if_neg (by omega), if_neg (by omega), if_neg (by omega), if_neg (by omega), if_pos h]
theorem do_op6 (m : Mdl) (c : Call) (h : c.op = 6) : m.do c = (⟨0, [], m.served, m.s.v⟩, m) := by unfold Mdl.do; rw [if_neg (by omega), if_neg (by omega), if_neg (by omega), if_neg (by omega), if_neg (by omega), if_pos h]
theorem sfq_V {b : Nat} {s : Sq} (hH : Holds R (SfqC b s :: F) w) :
    Ret Tryz.prog 64 [.pointer (some ⟨b, 0, none⟩)] w fun v w' => v = .int .u64 s.v ∧ Holds R (SfqC b s :: F) w' := by
  obtain ⟨mb, Q, hpm, hn, hH⟩ := SfqC.op hH
  refine ret_of_g (n := 7) Tryz.func64 rfl rfl (by simp) ?_
  refine g_seq ?_
  refine g_region (l := [0]) rfl ?_
  refine vA (lv rfl) rfl rfl ?_
  refine g_seq ?_
  refine g_region (l := [0, 1, 2, 3, 4]) rfl ?_
  refine vM (lv rfl) rfl rfl ?_
  refine o_v (lv rfl) rfl (r_nil rfl) ?_
  refine o_v (lv rfl) rfl (r_fa fa_160_1 rfl) ?_
  refine o_ld (lv rfl) rfl lk_22 rfl ⟨_, _, _, hH.c0, _, rfl, ?_⟩
  refine vA (lv rfl) rfl rfl ?_
  refine g_rq Tryz.func64 (res_t rfl res_0) ?_
  exact ⟨rfl, SfqC.mk hpm (hH.sel (by repeat' (first | exact Sel.refl _)))⟩
theorem model_register {b : Nat} {m : Mdl} (hcfg : cfgOk m.c) (hok : m.s.ok) (c : Call) (hc : c.ok) {hop : c.op = 1} (hH : Holds R (MdlC b m :: F) w) :
    Ret Tryz.prog 88 [.pointer (some ⟨b, 0, none⟩), vC c] w fun v w' => ∃ pv, v = vR (m.do c).1 pv ∧ Holds R (Vec 54 3 encP pv (m.do c).1.packets :: MdlC b (m.do c).2 :: F) w' := by
  rw [do_op1 m c hop]
  obtain ⟨sb, lm, LL, hpm, hn, hH⟩ := MdlC.op hH
  have hcfg' := hcfg; unfold cfgOk at hcfg'
  have hc' := hc; unfold Call.ok I at hc'
  cases hat : m.s.at c.flow with
  | some k =>
    obtain ⟨x, hx, hxi⟩ := Sq.at_spec hat
    refine ret_of_g (n := 77) Tryz.func88 rfl rfl (by simp) ?_
    refine g_seq ?_
    refine g_region (l := [0, 1]) rfl ?_
    refine o_box (lv rfl) rfl (cs := [_, _, _, _]) rfl rfl hH ?_
    intro b3 w hH
    refine o_al (lv rfl) rfl ze_57 hH ?_
    intro b4 w hH
    refine g_seq ?_
    refine g_seq ?_
    refine g_region (l := [0, 1, 2, 3]) rfl ?_
    refine o_v (lv rfl) rfl (r_fa fa_46_1 rfl) ?_
    refine o_ld (lv rfl) rfl lk_3 rfl ⟨_, _, _, hH.c1, _, rfl, ?_⟩
    refine o_call (lv rfl) rfl en_94 rfl (model_within _ _ _ hH) ?_
    rintro _ w ⟨rfl, hH⟩
    refine o_v (lv rfl) rfl (r_notD rfl) ?_
    refine g_if rfl (fun c0 => ?_) (fun c0 => ?_)
    ·refine g_seq ?_
     refine g_region (l := [0, 1]) rfl ?_
     refine o_call (lv rfl) rfl en_95 rfl (model_refused _ hH) ?_
     rintro _ w ⟨rfl, hH⟩
     refine o_st (lv rfl) rfl lk_57 rfl (vs := [_, _, _, _]) rfl rfl (by exact hH) rfl rfl (by simp) rfl ?_
     intro w hH; dsimp only [setL, List.set] at hH
     refine g_rq Tryz.func88 (res_cell rfl (run_loadVarN (vs := [_, _, _, _]) lk_57 (cells_of hH.c0 rfl)) res_0) ?_
     (rw [show m.register c = (1, m) from by unfold Mdl.register; rw [if_pos (by simp at c0; omega)]]; exact ⟨_, rfl, Holds.vnil _ _ _ (MdlC.mk hpm (hH.sel (by repeat' (first | exact Sel.refl _ | refine Sel.q2 ?_ | refine Sel.skip _ ?_))))⟩)
    ·have h0 : ¬ (c.flow < 0 ∨ 1048576 < c.flow) := by simp at c0; omega
     refine g_skip ?_
     refine g_seq ?_
     refine rD mixed hH fun w hH => ?_
     refine pM 0 (lv rfl) rfl rfl ?_
     refine pN 1 (lv rfl) rfl rfl ?_
     refine pF 2 (lv rfl) rfl fa_121_0 rfl ?_
     refine pF 3 (lv rfl) rfl fa_24_4 rfl ?_
     refine d_ld (i := 4) [7] (lv rfl) rfl lk_22 rfl (by kernel_rfl) ⟨_, _, _, hH.c2, _, rfl, ?_⟩
     refine pF 5 (lv rfl) rfl fa_46_2 rfl ?_
     refine d_ld (i := 6) [7] (lv rfl) rfl lk_3 rfl (by kernel_rfl) ⟨_, _, _, hH.c1, _, rfl, ?_⟩
     refine d_l (j := 7) (by kernel_rfl) ?_
     refine o_call (lv rfl) rfl en_113 rfl (tag_Inverse m.c.unit c.a (by unfold U; omega) (by unfold I; omega) hH) ?_
     rintro _ w ⟨rfl, hH⟩
     refine ⟨(keeps_in rfl (keeps_in rfl trivial)), ?_⟩
     refine pM 8 (lv rfl) rfl rfl ?_
     refine pE 9 (lv rfl) rfl rfl rfl ?_
     refine pE 10 (lv rfl) rfl rfl rfl ?_
     refine pA 11 (lv rfl) rfl rfl ?_
     refine pA 12 (lv rfl) rfl rfl ?_
     refine d_end (by kernel_rfl) ?_
     refine g_seq ?_
     refine rD mixed hH fun w hH => ?_
     refine pM 0 (lv rfl) rfl rfl ?_
     refine pN 1 (lv rfl) rfl rfl ?_
     refine pF 2 (lv rfl) rfl fa_121_2 rfl ?_
     refine d_ld (i := 3) [] (lv rfl) rfl lk_119 rfl (by kernel_rfl) ⟨_, _, _, hH.c2, _, rfl, ?_⟩
     refine pF 4 (lv rfl) rfl fa_46_1 rfl ?_
     refine d_ld (i := 5) [] (lv rfl) rfl lk_3 rfl (by kernel_rfl) ⟨_, _, _, hH.c1, _, rfl, ?_⟩
     refine d_q (i := 6) (fun w => MapR _ _ (Go.Lt.hp w)) [] (lv rfl) rfl (fun w hS => r_lkv2 mp_119 rfl rfl hS (hxi ▸ l_get hpm hn hx)) (by exact hH.p4.mrd) (by kernel_rfl) ?_
     refine pM 7 (lv rfl) rfl rfl ?_
     refine pE 8 (lv rfl) rfl rfl rfl ?_
     refine pE 9 (lv rfl) rfl rfl rfl ?_
     refine pA 10 (lv rfl) rfl rfl ?_
     refine pA 11 (lv rfl) rfl rfl ?_
     refine d_end (by kernel_rfl) ?_
     refine g_seq ?_
     refine g_block ?_
     refine g_seq ?_
     refine g_region (l := [0, 1, 2]) rfl ?_
     refine vM (lv rfl) rfl rfl ?_
     refine o_v (lv rfl) rfl (r_notD rfl) ?_
     refine vA (lv rfl) rfl rfl ?_
     refine g_if rfl (fun c1 => ?_) (fun c1 => ?_)
     ·refine g_seq ?_
      refine g_region (l := [0, 1]) rfl ?_
      refine o_call (lv rfl) rfl en_95 rfl (model_refused _ hH) ?_
      rintro _ w ⟨rfl, hH⟩
      refine o_st (lv rfl) rfl lk_57 rfl (vs := [_, _, _, _]) rfl rfl (by exact hH) rfl rfl (by simp) rfl ?_
      intro w hH; dsimp only [setL, List.set] at hH
      refine g_rq Tryz.func88 (res_cell rfl (run_loadVarN (vs := [_, _, _, _]) lk_57 (cells_of hH.c0 rfl)) res_0) ?_
      (rw [show m.register c = (4, m) from by unfold Mdl.register; rw [if_neg h0, if_pos (by simp [invOk] at c1; omega)]]; exact ⟨_, rfl, Holds.vnil _ _ _ (MdlC.mk hpm (hH.sel (by repeat' (first | exact Sel.refl _ | refine Sel.q2 ?_ | refine Sel.skip _ ?_))))⟩)
     ·have h1 : invOk m.c.unit c.a := by simpa using c1
      have h1' := h1; unfold invOk at h1'
      refine g_seq ?_
      refine g_region (l := [0, 1, 2, 3, 4]) rfl ?_
      refine o_v (lv rfl) rfl (r_fa fa_46_3 rfl) ?_
      refine o_ld (lv rfl) rfl lk_3 rfl ⟨_, _, _, hH.c1, _, rfl, ?_⟩
      refine o_call (lv rfl) rfl en_94 rfl (model_within _ _ _ hH) ?_
      rintro _ w ⟨rfl, hH⟩
      refine o_v (lv rfl) rfl (r_notD rfl) ?_
      refine vA (lv rfl) rfl rfl ?_
      refine g_if rfl (fun c2 => ?_) (fun c2 => ?_)
      ·refine g_seq ?_
       refine g_region (l := [0, 1]) rfl ?_
       refine o_call (lv rfl) rfl en_95 rfl (model_refused _ hH) ?_
       rintro _ w ⟨rfl, hH⟩
       refine o_st (lv rfl) rfl lk_57 rfl (vs := [_, _, _, _]) rfl rfl (by exact hH) rfl rfl (by simp) rfl ?_
       intro w hH; dsimp only [setL, List.set] at hH
       refine g_rq Tryz.func88 (res_cell rfl (run_loadVarN (vs := [_, _, _, _]) lk_57 (cells_of hH.c0 rfl)) res_0) ?_
       (rw [show m.register c = (1, m) from by unfold Mdl.register; rw [if_neg h0, if_neg (by omega), if_pos (by simp at c2; omega)]]; exact ⟨_, rfl, Holds.vnil _ _ _ (MdlC.mk hpm (hH.sel (by repeat' (first | exact Sel.refl _ | refine Sel.q2 ?_ | refine Sel.skip _ ?_))))⟩)
      ·have h2 : ¬ (c.b < 1 ∨ 8 < c.b) := by simp at c2; omega
       refine g_seq ?_
       refine g_region (l := [0, 1]) rfl ?_
       refine vM (lv rfl) rfl rfl ?_
       refine vA (lv rfl) rfl rfl ?_
       refine g_true rfl ?_
       refine g_seq ?_
       refine g_region (l := [0, 1]) rfl ?_
       refine o_call (lv rfl) rfl en_95 rfl (model_refused _ hH) ?_
       rintro _ w ⟨rfl, hH⟩
       refine o_st (lv rfl) rfl lk_57 rfl (vs := [_, _, _, _]) rfl rfl (by exact hH) rfl rfl (by simp) rfl ?_
       intro w hH; dsimp only [setL, List.set] at hH
       refine g_rq Tryz.func88 (res_cell rfl (run_loadVarN (vs := [_, _, _, _]) lk_57 (cells_of hH.c0 rfl)) res_0) ?_
       (rw [show m.register c = (6, m) from by unfold Mdl.register; rw [if_neg h0, if_neg (by omega), if_neg h2, if_pos (by rw [hat]; rfl)]]; exact ⟨_, rfl, Holds.vnil _ _ _ (MdlC.mk hpm (hH.sel (by repeat' (first | exact Sel.refl _ | refine Sel.q2 ?_ | refine Sel.skip _ ?_))))⟩)
  | none =>
    refine ret_of_g (n := 77) Tryz.func88 rfl rfl (by simp) ?_
    refine g_seq ?_
    refine g_region (l := [0, 1]) rfl ?_
    refine o_box (lv rfl) rfl (cs := [_, _, _, _]) rfl rfl hH ?_
    intro b3 w hH
    refine o_al (lv rfl) rfl ze_57 hH ?_
    intro b4 w hH
    refine g_seq ?_
    refine g_seq ?_
    refine g_region (l := [0, 1, 2, 3]) rfl ?_
    refine o_v (lv rfl) rfl (r_fa fa_46_1 rfl) ?_
    refine o_ld (lv rfl) rfl lk_3 rfl ⟨_, _, _, hH.c1, _, rfl, ?_⟩
    refine o_call (lv rfl) rfl en_94 rfl (model_within _ _ _ hH) ?_
    rintro _ w ⟨rfl, hH⟩
    refine o_v (lv rfl) rfl (r_notD rfl) ?_
    refine g_if rfl (fun c0 => ?_) (fun c0 => ?_)
    ·refine g_seq ?_
     refine g_region (l := [0, 1]) rfl ?_
     refine o_call (lv rfl) rfl en_95 rfl (model_refused _ hH) ?_
     rintro _ w ⟨rfl, hH⟩
     refine o_st (lv rfl) rfl lk_57 rfl (vs := [_, _, _, _]) rfl rfl (by exact hH) rfl rfl (by simp) rfl ?_
     intro w hH; dsimp only [setL, List.set] at hH
     refine g_rq Tryz.func88 (res_cell rfl (run_loadVarN (vs := [_, _, _, _]) lk_57 (cells_of hH.c0 rfl)) res_0) ?_
     (rw [show m.register c = (1, m) from by unfold Mdl.register; rw [if_pos (by simp at c0; omega)]]; exact ⟨_, rfl, Holds.vnil _ _ _ (MdlC.mk hpm (hH.sel (by repeat' (first | exact Sel.refl _ | refine Sel.q2 ?_ | refine Sel.skip _ ?_))))⟩)
    ·have h0 : ¬ (c.flow < 0 ∨ 1048576 < c.flow) := by simp at c0; omega
     refine g_skip ?_
     refine g_seq ?_
     refine rD mixed hH fun w hH => ?_
     refine pM 0 (lv rfl) rfl rfl ?_
     refine pN 1 (lv rfl) rfl rfl ?_
     refine pF 2 (lv rfl) rfl fa_121_0 rfl ?_
     refine pF 3 (lv rfl) rfl fa_24_4 rfl ?_
     refine d_ld (i := 4) [7] (lv rfl) rfl lk_22 rfl (by kernel_rfl) ⟨_, _, _, hH.c2, _, rfl, ?_⟩
     refine pF 5 (lv rfl) rfl fa_46_2 rfl ?_
     refine d_ld (i := 6) [7] (lv rfl) rfl lk_3 rfl (by kernel_rfl) ⟨_, _, _, hH.c1, _, rfl, ?_⟩
     refine d_l (j := 7) (by kernel_rfl) ?_
     refine o_call (lv rfl) rfl en_113 rfl (tag_Inverse m.c.unit c.a (by unfold U; omega) (by unfold I; omega) hH) ?_
     rintro _ w ⟨rfl, hH⟩
     refine ⟨(keeps_in rfl (keeps_in rfl trivial)), ?_⟩
     refine pM 8 (lv rfl) rfl rfl ?_
     refine pE 9 (lv rfl) rfl rfl rfl ?_
     refine pE 10 (lv rfl) rfl rfl rfl ?_
     refine pA 11 (lv rfl) rfl rfl ?_
     refine pA 12 (lv rfl) rfl rfl ?_
     refine d_end (by kernel_rfl) ?_
     refine g_seq ?_
     refine rD mixed hH fun w hH => ?_
     refine pM 0 (lv rfl) rfl rfl ?_
     refine pN 1 (lv rfl) rfl rfl ?_
     refine pF 2 (lv rfl) rfl fa_121_2 rfl ?_
     refine d_ld (i := 3) [] (lv rfl) rfl lk_119 rfl (by kernel_rfl) ⟨_, _, _, hH.c2, _, rfl, ?_⟩
     refine pF 4 (lv rfl) rfl fa_46_1 rfl ?_
     refine d_ld (i := 5) [] (lv rfl) rfl lk_3 rfl (by kernel_rfl) ⟨_, _, _, hH.c1, _, rfl, ?_⟩
     refine d_q (i := 6) (fun w => MapR _ _ (Go.Lt.hp w)) [] (lv rfl) rfl (fun w hS => r_lkv2 mp_119 rfl rfl hS (mget_none (l_none hpm (at_none_ne hat)))) (by exact hH.p4.mrd) (by kernel_rfl) ?_
     refine pM 7 (lv rfl) rfl rfl ?_
     refine pE 8 (lv rfl) rfl rfl rfl ?_
     refine pE 9 (lv rfl) rfl rfl rfl ?_
     refine pA 10 (lv rfl) rfl rfl ?_
     refine pA 11 (lv rfl) rfl rfl ?_
     refine d_end (by kernel_rfl) ?_
     refine g_seq ?_
     refine g_block ?_
     refine g_seq ?_
     refine g_region (l := [0, 1, 2]) rfl ?_
     refine vM (lv rfl) rfl rfl ?_
     refine o_v (lv rfl) rfl (r_notD rfl) ?_
     refine vA (lv rfl) rfl rfl ?_
     refine g_if rfl (fun c1 => ?_) (fun c1 => ?_)
     ·refine g_seq ?_
      refine g_region (l := [0, 1]) rfl ?_
      refine o_call (lv rfl) rfl en_95 rfl (model_refused _ hH) ?_
      rintro _ w ⟨rfl, hH⟩
      refine o_st (lv rfl) rfl lk_57 rfl (vs := [_, _, _, _]) rfl rfl (by exact hH) rfl rfl (by simp) rfl ?_
      intro w hH; dsimp only [setL, List.set] at hH
      refine g_rq Tryz.func88 (res_cell rfl (run_loadVarN (vs := [_, _, _, _]) lk_57 (cells_of hH.c0 rfl)) res_0) ?_
      (rw [show m.register c = (4, m) from by unfold Mdl.register; rw [if_neg h0, if_pos (by simp [invOk] at c1; omega)]]; exact ⟨_, rfl, Holds.vnil _ _ _ (MdlC.mk hpm (hH.sel (by repeat' (first | exact Sel.refl _ | refine Sel.q2 ?_ | refine Sel.skip _ ?_))))⟩)
     ·have h1 : invOk m.c.unit c.a := by simpa using c1
      have h1' := h1; unfold invOk at h1'
      refine g_seq ?_
      refine g_region (l := [0, 1, 2, 3, 4]) rfl ?_
      refine o_v (lv rfl) rfl (r_fa fa_46_3 rfl) ?_
      refine o_ld (lv rfl) rfl lk_3 rfl ⟨_, _, _, hH.c1, _, rfl, ?_⟩
      refine o_call (lv rfl) rfl en_94 rfl (model_within _ _ _ hH) ?_
      rintro _ w ⟨rfl, hH⟩
      refine o_v (lv rfl) rfl (r_notD rfl) ?_
      refine vA (lv rfl) rfl rfl ?_
      refine g_if rfl (fun c2 => ?_) (fun c2 => ?_)
      ·refine g_seq ?_
       refine g_region (l := [0, 1]) rfl ?_
       refine o_call (lv rfl) rfl en_95 rfl (model_refused _ hH) ?_
       rintro _ w ⟨rfl, hH⟩
       refine o_st (lv rfl) rfl lk_57 rfl (vs := [_, _, _, _]) rfl rfl (by exact hH) rfl rfl (by simp) rfl ?_
       intro w hH; dsimp only [setL, List.set] at hH
       refine g_rq Tryz.func88 (res_cell rfl (run_loadVarN (vs := [_, _, _, _]) lk_57 (cells_of hH.c0 rfl)) res_0) ?_
       (rw [show m.register c = (1, m) from by unfold Mdl.register; rw [if_neg h0, if_neg (by omega), if_pos (by simp at c2; omega)]]; exact ⟨_, rfl, Holds.vnil _ _ _ (MdlC.mk hpm (hH.sel (by repeat' (first | exact Sel.refl _ | refine Sel.q2 ?_ | refine Sel.skip _ ?_))))⟩)
      ·have h2 : ¬ (c.b < 1 ∨ 8 < c.b) := by simp at c2; omega
       refine g_seq ?_
       refine g_region (l := [0, 1]) rfl ?_
       refine vM (lv rfl) rfl rfl ?_
       refine vA (lv rfl) rfl rfl ?_
       refine g_false rfl ?_
       refine g_seq ?_
       refine rD mixed hH fun w hH => ?_
       refine pM 0 (lv rfl) rfl rfl ?_
       refine pF 1 (lv rfl) rfl fa_46_1 rfl ?_
       refine d_ld (i := 2) [3] (lv rfl) rfl lk_3 rfl (by kernel_rfl) ⟨_, _, _, hH.c1, _, rfl, ?_⟩
       refine pM 4 (lv rfl) rfl rfl ?_
       refine pN 5 (lv rfl) rfl rfl ?_
       refine pF 6 (lv rfl) rfl fa_121_0 rfl ?_
       refine pF 7 (lv rfl) rfl fa_24_1 rfl ?_
       refine d_ld (i := 8) [] (lv rfl) rfl lk_3 rfl (by kernel_rfl) ⟨_, _, _, hH.c2, _, rfl, ?_⟩
       refine d_l (j := 3) (by kernel_rfl) ?_
       refine o_call (lv rfl) rfl en_119 rfl (model_mates hpm hcfg hok c.flow (by unfold Nm; omega) hH.p4.p4.p4) ?_
       rintro _ w ⟨rfl, hH⟩
       refine ⟨(keeps_cons (fun _ => (by exact hH.c0)) (keeps_in rfl trivial)), ?_⟩
       refine d_p (i := 9) (lv rfl) rfl (fun w => (r_ge rfl rfl)) (by kernel_rfl) ?_
       refine pA 10 (lv rfl) rfl rfl ?_
       refine d_end (by kernel_rfl) ?_
       refine g_if rfl (fun c4 => ?_) (fun c4 => ?_)
       ·refine g_seq ?_
        refine g_region (l := [0, 1]) rfl ?_
        refine o_call (lv rfl) rfl en_95 rfl (model_refused _ hH) ?_
        rintro _ w ⟨rfl, hH⟩
        refine o_st (lv rfl) rfl lk_57 rfl (vs := [_, _, _, _]) rfl rfl (by exact hH.p3) rfl rfl (by simp) rfl ?_
        intro w hH; dsimp only [setL, List.set] at hH
        refine g_rq Tryz.func88 (res_cell rfl (run_loadVarN (vs := [_, _, _, _]) lk_57 (cells_of hH.c0 rfl)) res_0) ?_
        (rw [show m.register c = (7, m) from by unfold Mdl.register; rw [if_neg h0, if_neg (by omega), if_neg h2, hat, if_neg (by simp), if_pos (by omega)]]; exact ⟨_, rfl, Holds.vnil _ _ _ (MdlC.mk hpm (hH.sel (by repeat' (first | exact Sel.refl _ | refine Sel.q1 ?_ | refine Sel.skip _ ?_))))⟩)
       ·refine g_skip ?_
        refine g_inBlock ?_
        refine g_seq ?_
        refine rD mixed hH fun w hH => ?_
        refine pM 0 (lv rfl) rfl rfl ?_
        refine pN 1 (lv rfl) rfl rfl ?_
        refine pF 2 (lv rfl) rfl fa_121_1 rfl ?_
        refine d_ld (i := 3) [9] (lv rfl) rfl lk_118 rfl (by kernel_rfl) ⟨_, _, _, hH.c0, _, rfl, ?_⟩
        refine pF 4 (lv rfl) rfl fa_46_1 rfl ?_
        refine d_ld (i := 5) [9] (lv rfl) rfl lk_3 rfl (by kernel_rfl) ⟨_, _, _, hH.c4, _, rfl, ?_⟩
        refine pM 6 (lv rfl) rfl rfl ?_
        refine pF 7 (lv rfl) rfl fa_46_3 rfl ?_
        refine d_ld (i := 8) [9] (lv rfl) rfl lk_3 rfl (by kernel_rfl) ⟨_, _, _, hH.c4, _, rfl, ?_⟩
        refine d_l (j := 9) (by kernel_rfl) ?_
        refine o_call (lv rfl) rfl en_120 rfl (sfq_Add c.flow _ c.b hat (by exact hH.p1)) ?_
        rintro _ w ⟨rfl, hH⟩
        refine ⟨(keeps_in rfl (keeps_in rfl (keeps_in rfl trivial))), ?_⟩
        refine d_end (by kernel_rfl) ?_
        refine g_seq ?_
        refine rD mixed hH fun w hH => ?_
        refine pM 0 (lv rfl) rfl rfl ?_
        refine pN 1 (lv rfl) rfl rfl ?_
        refine pF 2 (lv rfl) rfl fa_121_2 rfl ?_
        refine d_ld (i := 3) [6] (lv rfl) rfl lk_119 rfl (by kernel_rfl) ⟨_, _, _, hH.c1, _, rfl, ?_⟩
        refine pF 4 (lv rfl) rfl fa_46_1 rfl ?_
        refine d_ld (i := 5) [6] (lv rfl) rfl lk_3 rfl (by kernel_rfl) ⟨_, _, _, hH.c4, _, rfl, ?_⟩
        refine d_l (j := 6) (by kernel_rfl) ?_
        refine o_mu (lv rfl) rfl mp_119 rfl rfl rfl (by exact hH.p2) ?_
        intro w hH
        refine ⟨(keeps_in rfl (keeps_in rfl trivial)), ?_⟩
        refine d_end (by kernel_rfl) ?_
        refine g_seq ?_
        refine g_region (l := [0, 1]) rfl ?_
        refine o_v (lv rfl) rfl (r_bld (ps := []) (cs := [_, _, _, _]) pl_57 rfl rfl) ?_
        refine o_st (lv rfl) rfl lk_57 rfl (vs := [_, _, _, _]) rfl rfl (by exact hH.p3) rfl rfl (by simp) rfl ?_
        intro w hH; dsimp only [setL, List.set] at hH
        refine g_rq Tryz.func88 (res_cell rfl (run_loadVarN (vs := [_, _, _, _]) lk_57 (cells_of hH.c0 rfl)) res_0) ?_
        (rw [if_pos h1] at hH
         rw [show m.register c = (0, { m with s := m.s.add c.flow (inverse m.c.unit c.a) c.b }) from by unfold Mdl.register; rw [if_neg h0, if_neg (by omega), if_neg h2, hat, if_neg (by simp), if_neg (by omega)]]
         exact ⟨_, rfl, Holds.vnil _ _ _ (MdlC.mk (m := { m with s := m.s.add c.flow (inverse m.c.unit c.a) c.b }) (LL := mput LL c.flow (.int .i64 0)) (l_add hpm (at_none_ne hat) _ _) (hH.sel (by repeat' (first | exact Sel.refl _ | refine Sel.q1 ?_ | refine Sel.q2 ?_ | refine Sel.q3 ?_ | refine Sel.skip _ ?_))))⟩)
theorem model_shut {b : Nat} {m : Mdl} (hok : m.s.ok) (c : Call) {hop : c.op = 2} (hH : Holds R (MdlC b m :: F) w) :
    Ret Tryz.prog 89 [.pointer (some ⟨b, 0, none⟩), vC c] w fun v w' => ∃ pv, v = vR (m.do c).1 pv ∧ Holds R (Vec 54 3 encP pv (m.do c).1.packets :: MdlC b (m.do c).2 :: F) w' := by
  rw [do_op2 m c hop, close_eq]
  obtain ⟨sb, lm, LL, hpm, hn, hH⟩ := MdlC.op hH
  refine ret_of_g (n := 24) Tryz.func89 rfl rfl (by simp) ?_
  refine g_seq ?_
  refine g_region (l := [0, 1]) rfl ?_
  refine o_box (lv rfl) rfl (cs := [_, _, _, _]) rfl rfl hH ?_
  intro b3 w hH
  refine o_al (lv rfl) rfl ze_57 hH ?_
  intro b4 w hH
  refine g_seq ?_
  refine g_seq ?_
  refine rD mixed hH fun w hH => ?_
  refine pM 0 (lv rfl) rfl rfl ?_
  refine pN 1 (lv rfl) rfl rfl ?_
  refine pF 2 (lv rfl) rfl fa_121_1 rfl ?_
  refine d_ld (i := 3) [6] (lv rfl) rfl lk_118 rfl (by kernel_rfl) ⟨_, _, _, hH.c2, _, rfl, ?_⟩
  refine pF 4 (lv rfl) rfl fa_46_1 rfl ?_
  refine d_ld (i := 5) [6] (lv rfl) rfl lk_3 rfl (by kernel_rfl) ⟨_, _, _, hH.c1, _, rfl, ?_⟩
  refine d_l (j := 6) (by kernel_rfl) ?_
  refine o_call (lv rfl) rfl en_121 rfl (sfq_Remove c.flow (by exact hH.p3)) ?_
  rintro _ w ⟨rfl, hH⟩
  refine ⟨(keeps_in rfl (keeps_in rfl trivial)), ?_⟩
  refine pA 7 (lv rfl) rfl rfl ?_
  refine d_end (by kernel_rfl) ?_
  refine g_seq ?_
  refine g_region (l := [0, 1]) rfl ?_
  refine vM (lv rfl) rfl rfl ?_
  refine o_v (lv rfl) rfl (r_ne rfl rfl) ?_
  refine g_if rfl (fun c0 => ?_) (fun c0 => ?_)
  ·refine g_seq ?_
   refine g_region (l := [0, 1, 2]) rfl ?_
   refine vM (lv rfl) rfl rfl ?_
   refine o_call (lv rfl) rfl en_95 rfl (model_refused _ hH) ?_
   rintro _ w ⟨rfl, hH⟩
   refine o_st (lv rfl) rfl lk_57 rfl (vs := [_, _, _, _]) rfl rfl (by exact hH.p1) rfl rfl (by simp) rfl ?_
   intro w hH; dsimp only [setL, List.set] at hH
   refine g_rq Tryz.func89 (res_cell rfl (run_loadVarN (vs := [_, _, _, _]) lk_57 (cells_of hH.c0 rfl)) res_0) ?_
   (have hrs : m.s.removeS c.flow = m.s := by
      unfold Sq.removeE at c0; unfold Sq.removeS
      cases h1 : m.s.at c.flow with
      | none => rfl
      | some i =>
        rw [h1] at c0; simp only at c0 ⊢
        cases h2 : m.s.F[i]? with
        | none => rfl
        | some x =>
          rw [h2] at c0; simp only at c0 ⊢
          by_cases h3 : x.2.l.length ≠ 0
          ·rw [if_pos h3]
          ·rw [if_neg h3] at c0; exact absurd rfl c0
    rw [hrs] at hH ⊢
    exact ⟨_, rfl, Holds.vnil _ _ _ (MdlC.mk hpm (hH.sel (by repeat' (first | exact Sel.refl _ | refine Sel.q1 ?_ | refine Sel.q2 ?_ | refine Sel.q3 ?_ | refine Sel.skip _ ?_))))⟩)
  ·refine g_skip ?_
   refine g_seq ?_
   refine rD mixed hH fun w hH => ?_
   refine pM 0 (lv rfl) rfl rfl ?_
   refine pN 1 (lv rfl) rfl rfl ?_
   refine pF 2 (lv rfl) rfl fa_121_2 rfl ?_
   refine d_ld (i := 3) [6] (lv rfl) rfl lk_119 rfl (by kernel_rfl) ⟨_, _, _, hH.c3, _, rfl, ?_⟩
   refine pF 4 (lv rfl) rfl fa_46_1 rfl ?_
   refine d_ld (i := 5) [6] (lv rfl) rfl lk_3 rfl (by kernel_rfl) ⟨_, _, _, hH.c2, _, rfl, ?_⟩
   refine d_l (j := 6) (by kernel_rfl) ?_
   refine o_del (lv rfl) rfl mp_119 rfl rfl (by exact hH.p4) ?_
   intro w hH
   refine ⟨(keeps_in rfl (keeps_in rfl trivial)), ?_⟩
   refine d_end (by kernel_rfl) ?_
   refine g_seq ?_
   refine g_region (l := [0, 1]) rfl ?_
   refine o_v (lv rfl) rfl (r_bld (ps := []) (cs := [_, _, _, _]) pl_57 rfl rfl) ?_
   refine o_st (lv rfl) rfl lk_57 rfl (vs := [_, _, _, _]) rfl rfl (by exact hH.p2) rfl rfl (by simp) rfl ?_
   intro w hH; dsimp only [setL, List.set] at hH
   refine g_rq Tryz.func89 (res_cell rfl (run_loadVarN (vs := [_, _, _, _]) lk_57 (cells_of hH.c0 rfl)) res_0) ?_
   (have he : m.s.removeE c.flow = 0 := by omega
    obtain ⟨i, x, hx, hxi, hrs⟩ : ∃ (i : Nat) (x : Int × Flw), m.s.F[i]? = some x ∧ x.1 = c.flow ∧ m.s.removeS c.flow = m.s.cut i := by
      unfold Sq.removeE at he; unfold Sq.removeS
      cases h1 : m.s.at c.flow with
      | none => rw [h1] at he; simp at he
      | some i =>
        obtain ⟨x, hx, hxi⟩ := Sq.at_spec h1
        rw [h1] at he; simp only [hx] at he ⊢
        by_cases h3 : x.2.l.length ≠ 0
        ·rw [if_pos h3] at he; omega
        ·rw [if_neg h3]; exact ⟨i, x, hx, hxi, rfl⟩
    rw [hrs] at hH ⊢; rw [he]; rw [← hxi] at hH
    exact ⟨_, rfl, Holds.vnil _ _ _ (MdlC.mk (m := { m with s := m.s.cut i }) (LL := mdel LL x.1) (l_cut hpm hn hx) (hH.sel (by repeat' (first | exact Sel.refl _ | refine Sel.q1 ?_ | refine Sel.q2 ?_ | refine Sel.q4 ?_ | refine Sel.skip _ ?_))))⟩)
theorem model_enqueue {b : Nat} {m : Mdl} (hok : m.s.ok) (c : Call) (hc : c.ok) {hop : c.op = 3} (hH : Holds R (MdlC b m :: F) w) :
    Ret Tryz.prog 90 [.pointer (some ⟨b, 0, none⟩), vC c] w fun v w' => ∃ pv, v = vR (m.do c).1 pv ∧ Holds R (Vec 54 3 encP pv (m.do c).1.packets :: MdlC b (m.do c).2 :: F) w' := by
  obtain ⟨sb, lm, LL, hpm, hn, hH⟩ := MdlC.op hH
  refine ret_of_g (n := 36) Tryz.func90 rfl rfl (by simp) ?_
  refine g_seq ?_
  refine g_region (l := [0, 1]) rfl ?_
  refine o_box (lv rfl) rfl (cs := [_, _, _, _]) rfl rfl hH ?_
  intro b3 w hH
  refine o_al (lv rfl) rfl ze_57 hH ?_
  intro b4 w hH
  refine g_seq ?_
  refine g_seq ?_
  refine g_region (l := [0, 1, 2, 3]) rfl ?_
  refine o_v (lv rfl) rfl (r_fa fa_46_2 rfl) ?_
  refine o_ld (lv rfl) rfl lk_3 rfl ⟨_, _, _, hH.c1, _, rfl, ?_⟩
  refine o_call (lv rfl) rfl en_94 rfl (model_within _ _ _ hH) ?_
  rintro _ w ⟨rfl, hH⟩
  refine o_v (lv rfl) rfl (r_notD rfl) ?_
  refine g_if rfl (fun c0 => ?_) (fun c0 => ?_)
  ·refine g_seq ?_
   refine g_region (l := [0, 1]) rfl ?_
   refine o_call (lv rfl) rfl en_95 rfl (model_refused _ hH) ?_
   rintro _ w ⟨rfl, hH⟩
   refine o_st (lv rfl) rfl lk_57 rfl (vs := [_, _, _, _]) rfl rfl (by exact hH) rfl rfl (by simp) rfl ?_
   intro w hH; dsimp only [setL, List.set] at hH
   refine g_rq Tryz.func90 (res_cell rfl (run_loadVarN (vs := [_, _, _, _]) lk_57 (cells_of hH.c0 rfl)) res_0) ?_
   rw [show m.do c = (code 3, m) from by unfold Mdl.do; rw [if_neg (by omega), if_neg (by omega), if_pos hop, if_pos (by simp at c0; omega)]]
   exact ⟨_, rfl, Holds.vnil _ _ _ (MdlC.mk hpm (hH.sel (by repeat' (first | exact Sel.refl _ | refine Sel.q2 ?_ | refine Sel.skip _ ?_))))⟩
  ·have hdo : m.do c = (code (m.s.arrive ⟨c.flow, c.a, c.b⟩).1, { m with s := (m.s.arrive ⟨c.flow, c.a, c.b⟩).2 }) := by
     unfold Mdl.do; rw [if_neg (by omega), if_neg (by omega), if_pos hop, if_neg (by simp at c0; omega)]
   refine g_skip ?_
   refine g_seq ?_
   refine g_seq ?_
   refine rD mixed hH fun w hH => ?_
   refine pM 0 (lv rfl) rfl rfl ?_
   refine pN 1 (lv rfl) rfl rfl ?_
   refine pF 2 (lv rfl) rfl fa_121_1 rfl ?_
   refine d_ld (i := 3) [11] (lv rfl) rfl lk_118 rfl (by kernel_rfl) ⟨_, _, _, hH.c2, _, rfl, ?_⟩
   refine pF 4 (lv rfl) rfl fa_46_1 rfl ?_
   refine d_ld (i := 5) [11] (lv rfl) rfl lk_3 rfl (by kernel_rfl) ⟨_, _, _, hH.c1, _, rfl, ?_⟩
   refine pF 6 (lv rfl) rfl fa_46_2 rfl ?_
   refine d_ld (i := 7) [11] (lv rfl) rfl lk_3 rfl (by kernel_rfl) ⟨_, _, _, hH.c1, _, rfl, ?_⟩
   refine pF 8 (lv rfl) rfl fa_46_3 rfl ?_
   refine d_ld (i := 9) [11] (lv rfl) rfl lk_3 rfl (by kernel_rfl) ⟨_, _, _, hH.c1, _, rfl, ?_⟩
   refine d_p (i := 10) (lv rfl) rfl (fun w => (r_bld (ps := [_, _, _]) (cs := [_, _, _]) pl_54 rfl rfl)) (by kernel_rfl) ?_
   refine d_l (j := 11) (by kernel_rfl) ?_
   refine o_call (lv rfl) rfl en_122 rfl (sfq_Arrive hok ⟨c.flow, c.a, c.b⟩ (by exact hH.p3)) ?_
   rintro _ w ⟨rfl, hH⟩
   refine ⟨(keeps_in rfl (keeps_in rfl (keeps_in rfl (keeps_in rfl trivial)))), ?_⟩
   refine pA 12 (lv rfl) rfl rfl ?_
   refine d_end (by kernel_rfl) ?_
   refine g_seq ?_
   refine g_region (l := [0, 1]) rfl ?_
   refine vM (lv rfl) rfl rfl ?_
   refine o_v (lv rfl) rfl (r_ne rfl rfl) ?_
   refine g_if rfl (fun c1 => ?_) (fun c1 => ?_)
   ·refine g_seq ?_
    refine g_region (l := [0, 1, 2]) rfl ?_
    refine vM (lv rfl) rfl rfl ?_
    refine o_call (lv rfl) rfl en_95 rfl (model_refused _ hH) ?_
    rintro _ w ⟨rfl, hH⟩
    refine o_st (lv rfl) rfl lk_57 rfl (vs := [_, _, _, _]) rfl rfl (by exact hH.p1) rfl rfl (by simp) rfl ?_
    intro w hH; dsimp only [setL, List.set] at hH
    refine g_rq Tryz.func90 (res_cell rfl (run_loadVarN (vs := [_, _, _, _]) lk_57 (cells_of hH.c0 rfl)) res_0) ?_
    have hrs : (m.s.arrive ⟨c.flow, c.a, c.b⟩).2 = m.s := by
      unfold Sq.arrive at c1 ⊢
      cases h1 : m.s.at c.flow with
      | none => rfl
      | some i =>
        obtain ⟨x, hx, hxi⟩ := Sq.at_spec h1
        simp only [h1, hx] at c1 ⊢
        by_cases h3 : (x.2.l.length : Int) = x.2.most
        ·rw [if_pos h3]
        ·rw [if_neg h3] at c1; exact absurd rfl c1
    rw [hdo]
    rw [hrs] at hH ⊢
    exact ⟨_, rfl, Holds.vnil _ _ _ (MdlC.mk hpm (hH.sel (by repeat' (first | exact Sel.refl _ | refine Sel.q1 ?_ | refine Sel.q2 ?_ | refine Sel.q3 ?_ | refine Sel.skip _ ?_))))⟩
   ·obtain ⟨i, x, hx, hxi, hne, hrs⟩ : ∃ (i : Nat) (x : Int × Flw), m.s.F[i]? = some x ∧ x.1 = c.flow ∧ (x.2.l.length : Int) ≠ x.2.most ∧ m.s.arrive ⟨c.flow, c.a, c.b⟩ = (0, m.s.put i (x.1, x.2.arrive m.s.v ⟨c.flow, c.a, c.b⟩)) := by
      unfold Sq.arrive at c1 ⊢
      cases h1 : m.s.at c.flow with
      | none => rw [h1] at c1; simp at c1
      | some i =>
        obtain ⟨x, hx, hxi⟩ := Sq.at_spec h1
        simp only [h1, hx] at c1 ⊢
        by_cases h3 : (x.2.l.length : Int) = x.2.most
        ·rw [if_pos h3] at c1; simp at c1
        ·exact ⟨i, x, hx, hxi, h3, by rw [if_neg h3]⟩
    have hxo := (Sq.flw_ok' hok hx).2; unfold Flw.ok at hxo
    rw [hrs] at hH hdo
    refine g_skip ?_
    refine g_seq ?_
    refine rD mixed hH fun w hH => ?_
    refine pM 0 (lv rfl) rfl rfl ?_
    refine pN 1 (lv rfl) rfl rfl ?_
    refine pF 2 (lv rfl) rfl fa_121_2 rfl ?_
    refine d_ld (i := 3) [8] (lv rfl) rfl lk_119 rfl (by kernel_rfl) ⟨_, _, _, hH.c3, _, rfl, ?_⟩
    refine pF 4 (lv rfl) rfl fa_46_1 rfl ?_
    refine d_ld (i := 5) [8] (lv rfl) rfl lk_3 rfl (by kernel_rfl) ⟨_, _, _, hH.c2, _, rfl, ?_⟩
    refine d_q (i := 6) (fun w => MapR _ _ (Go.Lt.hp w)) [8] (lv rfl) rfl (fun w hS => r_lkv mp_119 rfl rfl hS (hxi ▸ l_get hpm hn hx)) (by exact hH.p4.mrd) (by kernel_rfl) ?_
    refine d_p (i := 7) (lv rfl) rfl (fun w => (r_addI rfl rfl ?_)) (by kernel_rfl) ?_; omega
    refine d_l (j := 8) (by kernel_rfl) ?_
    refine o_mu (lv rfl) rfl mp_119 rfl rfl rfl (by exact hH.p4) ?_
    intro w hH
    refine ⟨(keeps_in rfl (keeps_in rfl (keeps_in rfl trivial))), ?_⟩
    refine d_end (by kernel_rfl) ?_
    refine g_seq ?_
    refine g_region (l := [0, 1]) rfl ?_
    refine o_v (lv rfl) rfl (r_bld (ps := []) (cs := [_, _, _, _]) pl_57 rfl rfl) ?_
    refine o_st (lv rfl) rfl lk_57 rfl (vs := [_, _, _, _]) rfl rfl (by exact hH.p2) rfl rfl (by simp) rfl ?_
    intro w hH; dsimp only [setL, List.set] at hH
    refine g_rq Tryz.func90 (res_cell rfl (run_loadVarN (vs := [_, _, _, _]) lk_57 (cells_of hH.c0 rfl)) res_0) ?_
    rw [hdo]
    have hl2 : ((x.2.arrive m.s.v ⟨c.flow, c.a, c.b⟩).l.length : Int) = x.2.l.length + 1 := by simp [Flw.arrive]
    have hlp := l_put hpm hn hx (x.2.arrive m.s.v ⟨c.flow, c.a, c.b⟩)
    rw [hl2, show mput LL x.1 = mput LL c.flow from by rw [hxi]] at hlp
    exact ⟨_, rfl, Holds.vnil _ _ _ (MdlC.mk (m := { m with s := m.s.put i (x.1, x.2.arrive m.s.v ⟨c.flow, c.a, c.b⟩) }) hlp (hH.sel (by repeat' (first | exact Sel.refl _ | refine Sel.q1 ?_ | refine Sel.q2 ?_ | refine Sel.q4 ?_ | refine Sel.skip _ ?_))))⟩
theorem model_dequeue {b : Nat} {m : Mdl} (hok : m.s.ok) (hinv : m.s.inv) (hs : 0 ≤ m.served ∧ m.served ≤ 4611686018427387904) (c : Call) (hH : Holds R (MdlC b m :: F) w) :
    Ret Tryz.prog 91 [.pointer (some ⟨b, 0, none⟩), vC c] w fun v w' => ∃ pv, v = vR m.one.1 pv ∧ Holds R (Vec 54 3 encP pv m.one.1.packets :: MdlC b m.one.2 :: F) w' := by
  obtain ⟨sb, lm, LL, hpm, hn, hH⟩ := MdlC.op hH
  rcases hsv : m.s.serve with ⟨o, s'⟩
  cases o with
  | none =>
    have e1 : m.one = (code 10, { m with s := s' }) := by unfold Mdl.one; rw [hsv]
    have hF : s'.F = m.s.F := by
      have := serve_F m.s; rw [hsv] at this; exact this rfl
    rw [e1]
    refine ret_of_g (n := 36) Tryz.func91 rfl rfl (by simp) ?_
    refine g_seq ?_
    refine g_region (l := [0, 1]) rfl ?_
    refine o_box (lv rfl) rfl (cs := [_, _, _, _]) rfl rfl hH ?_
    intro b3 w hH
    refine o_al (lv rfl) rfl ze_57 hH ?_
    intro b4 w hH
    refine g_seq ?_
    refine g_region (l := [0, 1, 2, 3, 4, 5, 6, 7, 8, 9, 10]) rfl ?_
    refine vM (lv rfl) rfl rfl ?_
    refine o_v (lv rfl) rfl (r_nil rfl) ?_
    refine o_v (lv rfl) rfl (r_fa fa_121_1 rfl) ?_
    refine o_ld (lv rfl) rfl lk_118 rfl ⟨_, _, _, hH.c2, _, rfl, ?_⟩
    refine o_call (lv rfl) rfl en_123 rfl (sfq_Serve hok hinv.1 (by exact hH.p3)) ?_
    rintro _ w ⟨rfl, hH⟩
    rw [hsv] at hH ⊢
    refine vM (lv rfl) rfl rfl ?_
    refine o_v (lv rfl) rfl (r_ex rfl rfl) ?_
    refine o_v (lv rfl) rfl (r_ex rfl rfl) ?_
    refine o_al (lv rfl) rfl ze_54 hH ?_
    intro b5 w hH
    refine o_st (lv rfl) rfl lk_54 rfl (vs := [_, _, _]) rfl rfl (by exact hH) rfl rfl (by simp) rfl ?_
    intro w hH; dsimp only [setL, List.set] at hH
    refine vA (lv rfl) rfl rfl ?_
    refine g_seq ?_
    refine g_seq ?_
    refine g_region (l := [0, 1]) rfl ?_
    refine vM (lv rfl) rfl rfl ?_
    refine o_v (lv rfl) rfl (r_not rfl) ?_
    refine g_true rfl ?_
    refine g_seq ?_
    refine g_region (l := [0, 1]) rfl ?_
    refine o_call (lv rfl) rfl en_95 rfl (model_refused _ hH) ?_
    rintro _ w ⟨rfl, hH⟩
    refine o_st (lv rfl) rfl lk_57 rfl (vs := [_, _, _, _]) rfl rfl (by exact hH.p2) rfl rfl (by simp) rfl ?_
    intro w hH; dsimp only [setL, List.set] at hH
    refine g_rq Tryz.func91 (res_cell rfl (run_loadVarN (vs := [_, _, _, _]) lk_57 (cells_of hH.c0 rfl)) res_0) ?_
    exact ⟨_, rfl, Holds.vnil _ _ _ (MdlC.mk (m := { m with s := s' }) (LL := LL) (by rw [hF]; exact hpm) (hH.sel (by repeat' (first | exact Sel.refl _ | refine Sel.q2 ?_ | refine Sel.q3 ?_ | refine Sel.q4 ?_ | refine Sel.skip _ ?_))))⟩
  | some p =>
    have e1 : m.one = (⟨0, [p], 0, 0⟩, { m with s := s', served := m.served + 1 }) := by unfold Mdl.one; rw [hsv]
    obtain ⟨i, x, l, hx, hl, hF⟩ := serve_P m.s hsv
    have hpf : p.flow = x.1 := hinv.2 x (List.mem_of_getElem? hx) p (by rw [hl]; simp)
    have hxo := (Sq.flw_ok' hok hx).2; unfold Flw.ok at hxo
    rw [e1]
    refine ret_of_g (n := 36) Tryz.func91 rfl rfl (by simp) ?_
    refine g_seq ?_
    refine g_region (l := [0, 1]) rfl ?_
    refine o_box (lv rfl) rfl (cs := [_, _, _, _]) rfl rfl hH ?_
    intro b3 w hH
    refine o_al (lv rfl) rfl ze_57 hH ?_
    intro b4 w hH
    refine g_seq ?_
    refine g_region (l := [0, 1, 2, 3, 4, 5, 6, 7, 8, 9, 10]) rfl ?_
    refine vM (lv rfl) rfl rfl ?_
    refine o_v (lv rfl) rfl (r_nil rfl) ?_
    refine o_v (lv rfl) rfl (r_fa fa_121_1 rfl) ?_
    refine o_ld (lv rfl) rfl lk_118 rfl ⟨_, _, _, hH.c2, _, rfl, ?_⟩
    refine o_call (lv rfl) rfl en_123 rfl (sfq_Serve hok hinv.1 (by exact hH.p3)) ?_
    rintro _ w ⟨rfl, hH⟩
    rw [hsv] at hH ⊢
    refine vM (lv rfl) rfl rfl ?_
    refine o_v (lv rfl) rfl (r_ex rfl rfl) ?_
    refine o_v (lv rfl) rfl (r_ex rfl rfl) ?_
    refine o_al (lv rfl) rfl ze_54 hH ?_
    intro b5 w hH
    refine o_st (lv rfl) rfl lk_54 rfl (vs := [_, _, _]) rfl rfl (by exact hH) rfl rfl (by simp) rfl ?_
    intro w hH; dsimp only [setL, List.set] at hH
    refine vA (lv rfl) rfl rfl ?_
    refine g_seq ?_
    refine g_seq ?_
    refine g_region (l := [0, 1]) rfl ?_
    refine vM (lv rfl) rfl rfl ?_
    refine o_v (lv rfl) rfl (r_not rfl) ?_
    refine g_false rfl ?_
    refine g_skip ?_
    refine g_seq ?_
    refine rD mixed hH fun w hH => ?_
    refine pM 0 (lv rfl) rfl rfl ?_
    refine pN 1 (lv rfl) rfl rfl ?_
    refine pF 2 (lv rfl) rfl fa_121_2 rfl ?_
    refine d_ld (i := 3) [8] (lv rfl) rfl lk_119 rfl (by kernel_rfl) ⟨_, _, _, hH.c4, _, rfl, ?_⟩
    refine pF 4 (lv rfl) rfl fa_54_0 rfl ?_
    refine d_ld (i := 5) [8] (lv rfl) rfl lk_3 rfl (by kernel_rfl) ⟨_, _, _, hH.c0, _, rfl, ?_⟩
    refine d_q (i := 6) (fun w => MapR _ _ (Go.Lt.hp w)) [8] (lv rfl) rfl (fun w hS => r_lkv mp_119 rfl rfl hS (hpf ▸ l_get hpm hn hx)) (by exact hH.p5.mrd) (by kernel_rfl) ?_
    refine d_p (i := 7) (lv rfl) rfl (fun w => (r_subI rfl rfl ?_)) (by kernel_rfl) ?_; omega
    refine d_l (j := 8) (by kernel_rfl) ?_
    refine o_mu (lv rfl) rfl mp_119 rfl rfl rfl (by exact hH.p5) ?_
    intro w hH
    refine ⟨(keeps_in rfl (keeps_in rfl (keeps_in rfl trivial))), ?_⟩
    refine d_end (by kernel_rfl) ?_
    refine g_seq ?_
    refine g_region (l := [0, 1, 2, 3, 4, 5, 6, 7]) rfl ?_
    refine vM (lv rfl) rfl rfl ?_
    refine o_v (lv rfl) rfl (r_nil rfl) ?_
    refine o_v (lv rfl) rfl (r_fa fa_121_3 rfl) ?_
    refine o_ld (lv rfl) rfl lk_3 rfl ⟨_, _, _, hH.c5, _, rfl, ?_⟩
    refine o_v (lv rfl) rfl (r_addI rfl rfl ?_) ?_; omega
    refine o_v (lv rfl) rfl (r_nil rfl) ?_
    refine o_v (lv rfl) rfl (r_fa fa_121_3 rfl) ?_
    refine o_st (lv rfl) rfl lk_3 rfl (vs := [_]) rfl rfl (by exact hH.p5) rfl rfl (by simp) rfl ?_
    intro w hH; dsimp only [setL, List.set] at hH
    refine g_seq ?_
    refine g_region (l := [0, 1, 2, 3]) rfl ?_
    refine o_ldN (lv rfl) rfl lk_54 rfl ⟨_, _, _, hH.c2, [_, _, _], rfl, rfl, ?_⟩
    refine o_bs (lv rfl) rfl el_48 ze_54 rfl rfl rfl (ps := [_]) rfl rfl rfl (cs := [_, _, _]) rfl hH ?_
    intro b34 w hH
    refine o_v (lv rfl) rfl (r_bld (ps := [_]) (cs := [_, _, _, _]) pl_57 rfl rfl) ?_
    refine o_st (lv rfl) rfl lk_57 rfl (vs := [_, _, _, _]) rfl rfl (by exact hH.p5) rfl rfl (by simp) rfl ?_
    intro w hH; dsimp only [setL, List.set] at hH
    refine g_rq Tryz.func91 (res_cell rfl (run_loadVarN (vs := [_, _, _, _]) lk_57 (cells_of hH.c0 rfl)) res_0) ?_
    have hl2 : ((x.2.serve p).l.length : Int) = x.2.l.length - 1 := by simp [Flw.serve, hl]
    have hlp := l_put hpm hn hx (x.2.serve p)
    rw [hl2, show mput LL x.1 = mput LL p.flow from by rw [hpf]] at hlp
    refine ⟨_, rfl, vec_of_cel (enc := encP) (l := [p]) rfl (Holds.p1 (MdlC.mk (m := { m with s := s', served := m.served + 1 }) (LL := mput LL p.flow (.int .i64 (x.2.l.length - 1))) (by rw [hF]; exact hlp) (hH.sel (by repeat' (first | exact Sel.refl _ | refine Sel.q1 ?_ | refine Sel.q2 ?_ | refine Sel.q4 ?_ | refine Sel.skip _ ?_)))))⟩
theorem model_batch {b : Nat} {m : Mdl} (hok : m.s.ok) (hinv : m.s.inv) (hs : 0 ≤ m.served ∧ m.served ≤ 2305843009213693952) (c : Call) {hop : c.op = 5} (hH : Holds R (MdlC b m :: F) w) :
    Ret Tryz.prog 92 [.pointer (some ⟨b, 0, none⟩), vC c] w fun v w' => ∃ pv, v = vR (m.do c).1 pv ∧ Holds R (Vec 54 3 encP pv (m.do c).1.packets :: MdlC b (m.do c).2 :: F) w' := by
  rw [do_op5 m c hop]
  refine ret_of_g (n := 33) Tryz.func92 rfl rfl (by simp) ?_
  refine g_seq ?_
  refine g_region (l := [0, 1]) rfl ?_
  refine o_box (lv rfl) rfl (cs := [_, _, _, _]) rfl rfl hH ?_
  intro b3 w hH
  refine o_al (lv rfl) rfl ze_57 hH ?_
  intro b4 w hH
  refine g_seq ?_
  refine g_seq ?_
  refine g_region (l := [0, 1, 2, 3]) rfl ?_
  refine o_v (lv rfl) rfl (r_fa fa_46_2 rfl) ?_
  refine o_ld (lv rfl) rfl lk_3 rfl ⟨_, _, _, hH.c1, _, rfl, ?_⟩
  refine o_call (lv rfl) rfl en_94 rfl (model_within _ _ _ hH) ?_
  rintro _ w ⟨rfl, hH⟩
  refine o_v (lv rfl) rfl (r_notD rfl) ?_
  refine g_if rfl (fun c0 => ?_) (fun c0 => ?_)
  ·refine g_seq ?_
   refine g_region (l := [0, 1]) rfl ?_
   refine o_call (lv rfl) rfl en_95 rfl (model_refused _ hH) ?_
   rintro _ w ⟨rfl, hH⟩
   refine o_st (lv rfl) rfl lk_57 rfl (vs := [_, _, _, _]) rfl rfl (by exact hH) rfl rfl (by simp) rfl ?_
   intro w hH; dsimp only [setL, List.set] at hH
   refine g_rq Tryz.func92 (res_cell rfl (run_loadVarN (vs := [_, _, _, _]) lk_57 (cells_of hH.c0 rfl)) res_0) ?_
   (have hn : c.a < 1 ∨ 16 < c.a := by simp at c0; omega
    rw [show m.batch c.a = (code 1, m) from by unfold Mdl.batch; rw [if_pos hn]]
    exact ⟨_, rfl, Holds.vnil _ _ _ (hH.sel (by repeat' (first | exact Sel.refl _ | refine Sel.q2 ?_ | refine Sel.skip _ ?_)))⟩)
  ·have hn : ¬ (c.a < 1 ∨ 16 < c.a) := by simp at c0; omega
   refine g_skip ?_
   refine g_seq ?_
   refine g_region (l := [0]) rfl ?_
   refine o_al (lv rfl) rfl ze_57 hH ?_
   intro b5 w hH
   refine g_seq ?_
   refine g_seq ?_
   refine g_region (l := [0, 1, 2]) rfl ?_
   refine o_v (lv rfl) rfl (r_fa fa_46_2 rfl) ?_
   refine o_ld (lv rfl) rfl lk_3 rfl ⟨_, _, _, hH.c2, _, rfl, ?_⟩
   refine vM (lv rfl) rfl rfl ?_
   refine g_block ?_
   refine g_loop (fun mm e w => ∃ (k : Nat) (e0 : Env) (l : List Packet) (mk : Mdl) (pv : Value), k ≤ c.a.toNat ∧ mm = c.a.toNat - k ∧ mk.s.ok ∧ mk.s.inv ∧ 0 ≤ mk.served ∧ mk.served ≤ m.served + k ∧ l.length ≤ k ∧ m.many c.a.toNat [] = mk.many (c.a.toNat - k) l ∧
       e = J e0 [(0, .pointer (some ⟨b, 0, none⟩)), (3, .pointer (some ⟨b3, 0, none⟩)), (4, .pointer (some ⟨b4, 0, none⟩)), (5, .pointer (some ⟨b5, 0, none⟩)), (13, .int .i64 c.a), (14, .int .i64 k)] ∧
       Holds R (cel b5 [.int .i64 0, pv, .int .i64 0, .int .u64 0] 57 :: Vec 54 3 encP pv l :: MdlC b mk :: cel b4 [.int .i64 0, .slice none 0 0, .int .i64 0, .int .u64 0] 57 :: cel b3 [.int .i64 c.op, .int .i64 c.flow, .int .i64 c.a, .int .i64 c.b] 46 :: F) w) c.a.toNat ⟨0, _, [], m, _, by omega, by omega, hok, hinv, by omega, by omega, by simp, rfl, (J_self (has_s rfl (has_s rfl (has_s rfl (has_s rfl (has_s rfl (has_s rfl has_0))))))), Holds.p1 (Holds.vnil _ _ _ (hH.sel (by repeat' (first | exact Sel.refl _ | refine Sel.q0 ?_ | refine Sel.q2 ?_))))⟩ ?_
   rintro mm _ w ⟨k, e0, l, mk, pv, hk, hm, hmk, hmi, hs0, hs1, hll, her, rfl, hH⟩ hback
   obtain ⟨a, cap, rfl, hcap⟩ := hH.p1.rd.len
   refine g_seq ?_
   refine g_region (l := [0]) rfl ?_
   refine o_v (lv rfl) rfl (r_lt rfl rfl) ?_
   refine g_seq ?_
   refine g_if rfl (fun c1 => ?_) (fun c1 => ?_)
   ·refine g_skip ?_
    refine g_seq ?_
    refine g_block ?_
    refine g_seq ?_
    refine g_region (l := [0, 1, 2, 3, 4]) rfl ?_
    refine vM (lv rfl) rfl rfl ?_
    refine o_ldN (lv rfl) rfl lk_46 rfl ⟨_, _, _, hH.c4, [_, _, _, _], rfl, rfl, ?_⟩
    refine o_call (lv rfl) rfl en_91 rfl (model_dequeue hmk hmi ⟨hs0, by omega⟩ _ hH.p2) ?_
    rintro _ w ⟨pv2, rfl, hH⟩
    obtain ⟨a2, cap2, rfl, -⟩ := hH.rd.len; have hone := Mdl.one_ok hmk; have hst := many_S mk (c.a.toNat - (k + 1)) l; rw [show c.a.toNat - (k + 1) + 1 = c.a.toNat - k from by omega] at hst
    refine o_al (lv rfl) rfl ze_57 hH ?_
    intro b6 w hH
    refine o_st (lv rfl) rfl lk_57 rfl (vs := [_, _, _, _]) rfl rfl (by exact hH) rfl rfl (by simp) rfl ?_
    intro w hH; dsimp only [setL, List.set] at hH
    refine g_seq ?_
    refine g_seq ?_
    refine g_region (l := [0, 1, 2, 3]) rfl ?_
    refine o_v (lv rfl) rfl (r_fa fa_57_0 rfl) ?_
    refine o_ld (lv rfl) rfl lk_55 rfl ⟨_, _, _, hH.c0, _, rfl, ?_⟩
    refine o_v (lv rfl) rfl (r_fa fa_57_0 rfl) ?_
    refine o_st (lv rfl) rfl lk_55 rfl (vs := [_]) rfl rfl (by exact hH.p3) rfl rfl (by simp) rfl ?_
    intro w hH; dsimp only [setL, List.set] at hH
    refine g_seq ?_
    refine g_region (l := [0, 1, 2]) rfl ?_
    refine o_v (lv rfl) rfl (r_fa fa_57_0 rfl) ?_
    refine o_ld (lv rfl) rfl lk_55 rfl ⟨_, _, _, hH.c0, _, rfl, ?_⟩
    refine o_v (lv rfl) rfl (r_ne rfl rfl) ?_
    refine g_if rfl (fun c2 => ?_) (fun c2 => ?_)
    ·refine g_exit rfl ?_
     refine g_seq ?_
     refine g_region (l := [0, 1]) rfl ?_
     refine o_ldN (lv rfl) rfl lk_57 rfl ⟨_, _, _, hH.c0, [_, _, _, _], rfl, rfl, ?_⟩
     refine o_st (lv rfl) rfl lk_57 rfl (vs := [_, _, _, _]) rfl rfl (by exact hH.p5) rfl rfl (by simp) rfl ?_
     intro w hH; dsimp only [setL, List.set] at hH
     refine g_rq Tryz.func92 (res_cell rfl (run_loadVarN (vs := [_, _, _, _]) lk_57 (cells_of hH.c0 rfl)) res_0) ?_
     (rw [if_pos (show mk.one.1.e ≠ 0 from c2)] at hst
      rw [show m.batch c.a = (⟨mk.one.1.e, l ++ mk.one.1.packets, 0, 0⟩, mk.one.2) from by unfold Mdl.batch; rw [if_neg hn, her, hst]]
      have hnil : mk.one.1.packets = [] := one_nil c2
      rw [hnil, List.append_nil]
      exact ⟨_, rfl, (hH.sel (by repeat' (first | exact Sel.refl _ | refine Sel.q4 ?_ | refine Sel.q5 ?_ | refine Sel.skip _ ?_)))⟩)
    ·refine g_skip ?_
     refine g_region (l := [0, 1, 2, 3, 4, 5, 6]) rfl ?_
     refine o_v (lv rfl) rfl (r_fa fa_57_1 rfl) ?_
     refine o_ld (lv rfl) rfl lk_48 rfl ⟨_, _, _, hH.c0, _, rfl, ?_⟩
     refine o_v (lv rfl) rfl (r_fa fa_57_1 rfl) ?_
     refine o_ld (lv rfl) rfl lk_48 rfl ⟨_, _, _, hH.c1, _, rfl, ?_⟩
     refine o_app (enc := encP) (lv rfl) rfl el_48 ze_54 rfl (fun _ => rfl) (fun _ => rfl) rfl rfl (by exact hH.p4) (by exact hH.p2.rd) (by omega) (by omega) ?_
     intro v29 w hH; obtain ⟨a29, k29, rfl, -⟩ := hH.rd.len
     refine o_v (lv rfl) rfl (r_fa fa_57_1 rfl) ?_
     refine o_st (lv rfl) rfl lk_48 rfl (vs := [_]) rfl rfl (by exact hH.p1) rfl rfl (by simp) rfl ?_
     intro w hH; dsimp only [setL, List.set] at hH
     refine g_inBlock ?_
     refine g_region (l := [0, 1]) rfl ?_
     refine o_v (lv rfl) rfl (r_addI rfl rfl ?_) ?_; omega
     refine vM (lv rfl) rfl rfl ?_
     rw [if_neg (show ¬ mk.one.1.e ≠ 0 from by omega)] at hst
     rw [show mk.one.1.e = 0 from by omega] at hH
     exact hback _ _ _ ⟨k + 1, _, l ++ mk.one.1.packets, mk.one.2, _, by omega, rfl, hone.1, Mdl.one_inv hmi, by omega, by omega, by rw [List.length_append]; omega, by rw [her, hst], (J_self (has_s rfl (has_s rfl (has_s rfl (has_s rfl (has_s rfl (has_s rfl has_0))))))), (hH.sel (by repeat' (first | exact Sel.refl _ | refine Sel.q0 ?_ | refine Sel.q2 ?_ | refine Sel.skip _ ?_)))⟩ (by omega)
   ·refine g_exit rfl ?_
    refine g_seq ?_
    refine g_region (l := [0, 1]) rfl ?_
    refine o_ldN (lv rfl) rfl lk_57 rfl ⟨_, _, _, hH.c0, [_, _, _, _], rfl, rfl, ?_⟩
    refine o_st (lv rfl) rfl lk_57 rfl (vs := [_, _, _, _]) rfl rfl (by exact hH.p3) rfl rfl (by simp) rfl ?_
    intro w hH; dsimp only [setL, List.set] at hH
    refine g_rq Tryz.func92 (res_cell rfl (run_loadVarN (vs := [_, _, _, _]) lk_57 (cells_of hH.c0 rfl)) res_0) ?_
    (have hfin : m.many c.a.toNat [] = (⟨0, l, 0, 0⟩, mk) := by
       have hkn : k = c.a.toNat := by omega
       rw [her, hkn, Nat.sub_self]; rfl
     rw [show m.batch c.a = (⟨0, l, 0, 0⟩, mk) from by unfold Mdl.batch; rw [if_neg hn, hfin]]
     exact ⟨_, rfl, (hH.sel (by repeat' (first | exact Sel.refl _ | refine Sel.q2 ?_ | refine Sel.skip _ ?_)))⟩)
theorem model_stats {b : Nat} {m : Mdl} (c : Call) {hop : c.op = 6} (hH : Holds R (MdlC b m :: F) w) :
    Ret Tryz.prog 93 [.pointer (some ⟨b, 0, none⟩), vC c] w fun v w' => ∃ pv, v = vR (m.do c).1 pv ∧ Holds R (Vec 54 3 encP pv (m.do c).1.packets :: MdlC b (m.do c).2 :: F) w' := by
  rw [do_op6 m c hop]
  obtain ⟨sb, lm, LL, hpm, hn, hH⟩ := MdlC.op hH
  refine ret_of_g (n := 15) Tryz.func93 rfl rfl (by simp) ?_
  refine g_seq ?_
  refine g_region (l := [0, 1]) rfl ?_
  refine o_box (lv rfl) rfl (cs := [_, _, _, _]) rfl rfl hH ?_
  intro b3 w hH
  refine o_al (lv rfl) rfl ze_57 hH ?_
  intro b4 w hH
  refine g_seq ?_
  refine rD mixed hH fun w hH => ?_
  refine pM 0 (lv rfl) rfl rfl ?_
  refine pN 1 (lv rfl) rfl rfl ?_
  refine pF 2 (lv rfl) rfl fa_121_3 rfl ?_
  refine d_ld (i := 3) [10] (lv rfl) rfl lk_3 rfl (by kernel_rfl) ⟨_, _, _, hH.c2, _, rfl, ?_⟩
  refine pM 4 (lv rfl) rfl rfl ?_
  refine pN 5 (lv rfl) rfl rfl ?_
  refine pF 6 (lv rfl) rfl fa_121_1 rfl ?_
  refine d_ld (i := 7) [8, 10] (lv rfl) rfl lk_118 rfl (by kernel_rfl) ⟨_, _, _, hH.c2, _, rfl, ?_⟩
  refine d_l (j := 8) (by kernel_rfl) ?_
  refine o_call (lv rfl) rfl en_64 rfl (sfq_V (by exact hH.p3)) ?_
  rintro _ w ⟨rfl, hH⟩
  refine ⟨(keeps_in rfl (keeps_cons (fun _ => (by exact hH.c3)) trivial)), ?_⟩
  refine d_p (i := 9) (lv rfl) rfl (fun w => (r_bld (ps := [_, _]) (cs := [_, _, _, _]) pl_57 rfl rfl)) (by kernel_rfl) ?_
  refine d_l (j := 10) (by kernel_rfl) ?_
  refine o_st (lv rfl) rfl lk_57 rfl (vs := [_, _, _, _]) rfl rfl (by exact hH.p1) rfl rfl (by simp) rfl ?_
  intro w hH; dsimp only [setL, List.set] at hH
  refine ⟨(keeps_in rfl (keeps_in rfl trivial)), ?_⟩
  refine d_end (by kernel_rfl) ?_
  refine g_rq Tryz.func93 (res_cell rfl (run_loadVarN (vs := [_, _, _, _]) lk_57 (cells_of hH.c0 rfl)) res_0) ?_
  exact ⟨_, rfl, Holds.vnil _ _ _ (MdlC.mk hpm (hH.sel (by repeat' (first | exact Sel.refl _ | refine Sel.q1 ?_ | refine Sel.q2 ?_ | refine Sel.q3 ?_ | refine Sel.skip _ ?_))))⟩
theorem model_Do1 {b : Nat} {m : Mdl} (hcfg : cfgOk m.c) (hok : m.s.ok) (hfl : m.s.F.length < 2147483648) (hinv : m.s.inv) (hs : 0 ≤ m.served ∧ m.served ≤ 2305843009213693952) (fl a b2 : Int) (hc : Call.ok ⟨1, fl, a, b2⟩) (hH : Holds R (MdlC b m :: F) w) :
    Ret Tryz.prog 60 [.pointer (some ⟨b, 0, none⟩), vC ⟨1, fl, a, b2⟩] w fun v w' => ∃ pv, v = vR (m.do ⟨1, fl, a, b2⟩).1 pv ∧ Holds R (Vec 54 3 encP pv (m.do ⟨1, fl, a, b2⟩).1.packets :: MdlC b (m.do ⟨1, fl, a, b2⟩).2 :: F) w' := by
  refine ret_of_g (n := 19) Tryz.func60 rfl rfl (by simp) ?_
  refine g_seq ?_
  refine g_region (l := [0, 1]) rfl ?_
  refine o_box (lv rfl) rfl (cs := [_, _, _, _]) rfl rfl hH ?_
  intro b3 w hH
  refine o_al (lv rfl) rfl ze_57 hH ?_
  intro b4 w hH
  refine g_seq ?_
  refine g_region (l := [0, 1, 2]) rfl ?_
  refine o_v (lv rfl) rfl (r_blda (ps := [_, _, _, _, _, _]) (pl := [_, _, _, _, _, _, _]) (cs := [_, _, _, _, _, _, _]) pa_147 rfl rfl rfl) ?_
  refine o_al (lv rfl) rfl ze_147 hH ?_
  intro b5 w hH
  refine o_st (lv rfl) rfl lk_147 rfl (vs := [_, _, _, _, _, _, _]) rfl rfl (by exact hH) rfl rfl (by simp) rfl ?_
  intro w hH; dsimp only [setL, List.set] at hH
  refine g_seq ?_
  refine g_seq ?_
  refine g_region (l := [0, 1, 2, 3]) rfl ?_
  refine o_v (lv rfl) rfl (r_fa fa_46_0 rfl) ?_
  refine o_ld (lv rfl) rfl lk_3 rfl ⟨_, _, _, hH.c2, _, rfl, ?_⟩
  refine o_call (lv rfl) rfl en_94 rfl (model_within _ _ _ hH) ?_
  rintro _ w ⟨rfl, hH⟩
  refine o_v (lv rfl) rfl (r_notD rfl) ?_
  refine g_if rfl (fun c0 => ?_) (fun c0 => ?_)
  ·simp at c0
  ·refine g_skip ?_
   refine g_seq ?_
   refine rD mixed hH fun w hH => ?_
   refine pF 0 (lv rfl) rfl fa_46_0 rfl ?_
   refine d_ld (i := 1) [6, 7] (lv rfl) rfl lk_3 rfl (by kernel_rfl) ⟨_, _, _, hH.c2, _, rfl, ?_⟩
   refine d_p (i := 2) (lv rfl) rfl (fun w => (r_iaa ar_147 rfl rfl ?_ ?_)) (by kernel_rfl) ?_; omega; omega
   refine d_ld (i := 3) [6, 7] (lv rfl) rfl lk_146 rfl (by kernel_rfl) ⟨_, _, _, hH.c0, _, rfl, ?_⟩
   refine pM 4 (lv rfl) rfl rfl ?_
   refine d_ldN (i := 5) [6, 7] (lv rfl) rfl lk_46 rfl (by kernel_rfl) ⟨_, _, _, hH.c2, [_, _, _, _], rfl, rfl, ?_⟩
   refine d_l (j := 6) (by kernel_rfl) ?_
   refine o_callv (lv rfl) rfl (first := []) (cap := []) rfl en_88 rfl rfl (model_register hcfg hok ⟨1, fl, a, b2⟩ hc (hop := rfl) (by exact hH.p3)) ?_
   rintro _ w ⟨pv, rfl, hH⟩
   obtain ⟨a2, cap2, rfl, -⟩ := hH.rd.len
   refine ⟨(keeps_in rfl (keeps_in rfl (keeps_in rfl trivial))), ?_⟩
   refine d_l (j := 7) (by kernel_rfl) ?_
   refine o_st (lv rfl) rfl lk_57 rfl (vs := [_, _, _, _]) rfl rfl (by exact hH.p3) rfl rfl (by simp) rfl ?_
   intro w hH; dsimp only [setL, List.set] at hH
   refine ⟨(keeps_in rfl (keeps_in rfl (keeps_in rfl trivial))), ?_⟩
   refine d_end (by kernel_rfl) ?_
   refine g_rq Tryz.func60 (res_cell rfl (run_loadVarN (vs := [_, _, _, _]) lk_57 (cells_of hH.c0 rfl)) res_0) ?_
   exact ⟨_, rfl, (hH.sel (by repeat' (first | exact Sel.refl _ | refine Sel.q1 ?_ | refine Sel.skip _ ?_)))⟩
theorem model_Do2 {b : Nat} {m : Mdl} (hcfg : cfgOk m.c) (hok : m.s.ok) (hfl : m.s.F.length < 2147483648) (hinv : m.s.inv) (hs : 0 ≤ m.served ∧ m.served ≤ 2305843009213693952) (fl a b2 : Int) (hc : Call.ok ⟨2, fl, a, b2⟩) (hH : Holds R (MdlC b m :: F) w) :
    Ret Tryz.prog 60 [.pointer (some ⟨b, 0, none⟩), vC ⟨2, fl, a, b2⟩] w fun v w' => ∃ pv, v = vR (m.do ⟨2, fl, a, b2⟩).1 pv ∧ Holds R (Vec 54 3 encP pv (m.do ⟨2, fl, a, b2⟩).1.packets :: MdlC b (m.do ⟨2, fl, a, b2⟩).2 :: F) w' := by
  refine ret_of_g (n := 19) Tryz.func60 rfl rfl (by simp) ?_
  refine g_seq ?_
  refine g_region (l := [0, 1]) rfl ?_
  refine o_box (lv rfl) rfl (cs := [_, _, _, _]) rfl rfl hH ?_
  intro b3 w hH
  refine o_al (lv rfl) rfl ze_57 hH ?_
  intro b4 w hH
  refine g_seq ?_
  refine g_region (l := [0, 1, 2]) rfl ?_
  refine o_v (lv rfl) rfl (r_blda (ps := [_, _, _, _, _, _]) (pl := [_, _, _, _, _, _, _]) (cs := [_, _, _, _, _, _, _]) pa_147 rfl rfl rfl) ?_
  refine o_al (lv rfl) rfl ze_147 hH ?_
  intro b5 w hH
  refine o_st (lv rfl) rfl lk_147 rfl (vs := [_, _, _, _, _, _, _]) rfl rfl (by exact hH) rfl rfl (by simp) rfl ?_
  intro w hH; dsimp only [setL, List.set] at hH
  refine g_seq ?_
  refine g_seq ?_
  refine g_region (l := [0, 1, 2, 3]) rfl ?_
  refine o_v (lv rfl) rfl (r_fa fa_46_0 rfl) ?_
  refine o_ld (lv rfl) rfl lk_3 rfl ⟨_, _, _, hH.c2, _, rfl, ?_⟩
  refine o_call (lv rfl) rfl en_94 rfl (model_within _ _ _ hH) ?_
  rintro _ w ⟨rfl, hH⟩
  refine o_v (lv rfl) rfl (r_notD rfl) ?_
  refine g_if rfl (fun c0 => ?_) (fun c0 => ?_)
  ·simp at c0
  ·refine g_skip ?_
   refine g_seq ?_
   refine rD mixed hH fun w hH => ?_
   refine pF 0 (lv rfl) rfl fa_46_0 rfl ?_
   refine d_ld (i := 1) [6, 7] (lv rfl) rfl lk_3 rfl (by kernel_rfl) ⟨_, _, _, hH.c2, _, rfl, ?_⟩
   refine d_p (i := 2) (lv rfl) rfl (fun w => (r_iaa ar_147 rfl rfl ?_ ?_)) (by kernel_rfl) ?_; omega; omega
   refine d_ld (i := 3) [6, 7] (lv rfl) rfl lk_146 rfl (by kernel_rfl) ⟨_, _, _, hH.c0, _, rfl, ?_⟩
   refine pM 4 (lv rfl) rfl rfl ?_
   refine d_ldN (i := 5) [6, 7] (lv rfl) rfl lk_46 rfl (by kernel_rfl) ⟨_, _, _, hH.c2, [_, _, _, _], rfl, rfl, ?_⟩
   refine d_l (j := 6) (by kernel_rfl) ?_
   refine o_callv (lv rfl) rfl (first := []) (cap := []) rfl en_89 rfl rfl (model_shut hok ⟨2, fl, a, b2⟩ (hop := rfl) (by exact hH.p3)) ?_
   rintro _ w ⟨pv, rfl, hH⟩
   obtain ⟨a2, cap2, rfl, -⟩ := hH.rd.len
   refine ⟨(keeps_in rfl (keeps_in rfl (keeps_in rfl trivial))), ?_⟩
   refine d_l (j := 7) (by kernel_rfl) ?_
   refine o_st (lv rfl) rfl lk_57 rfl (vs := [_, _, _, _]) rfl rfl (by exact hH.p3) rfl rfl (by simp) rfl ?_
   intro w hH; dsimp only [setL, List.set] at hH
   refine ⟨(keeps_in rfl (keeps_in rfl (keeps_in rfl trivial))), ?_⟩
   refine d_end (by kernel_rfl) ?_
   refine g_rq Tryz.func60 (res_cell rfl (run_loadVarN (vs := [_, _, _, _]) lk_57 (cells_of hH.c0 rfl)) res_0) ?_
   exact ⟨_, rfl, (hH.sel (by repeat' (first | exact Sel.refl _ | refine Sel.q1 ?_ | refine Sel.skip _ ?_)))⟩
theorem model_Do3 {b : Nat} {m : Mdl} (hcfg : cfgOk m.c) (hok : m.s.ok) (hfl : m.s.F.length < 2147483648) (hinv : m.s.inv) (hs : 0 ≤ m.served ∧ m.served ≤ 2305843009213693952) (fl a b2 : Int) (hc : Call.ok ⟨3, fl, a, b2⟩) (hH : Holds R (MdlC b m :: F) w) :
    Ret Tryz.prog 60 [.pointer (some ⟨b, 0, none⟩), vC ⟨3, fl, a, b2⟩] w fun v w' => ∃ pv, v = vR (m.do ⟨3, fl, a, b2⟩).1 pv ∧ Holds R (Vec 54 3 encP pv (m.do ⟨3, fl, a, b2⟩).1.packets :: MdlC b (m.do ⟨3, fl, a, b2⟩).2 :: F) w' := by
  refine ret_of_g (n := 19) Tryz.func60 rfl rfl (by simp) ?_
  refine g_seq ?_
  refine g_region (l := [0, 1]) rfl ?_
  refine o_box (lv rfl) rfl (cs := [_, _, _, _]) rfl rfl hH ?_
  intro b3 w hH
  refine o_al (lv rfl) rfl ze_57 hH ?_
  intro b4 w hH
  refine g_seq ?_
  refine g_region (l := [0, 1, 2]) rfl ?_
  refine o_v (lv rfl) rfl (r_blda (ps := [_, _, _, _, _, _]) (pl := [_, _, _, _, _, _, _]) (cs := [_, _, _, _, _, _, _]) pa_147 rfl rfl rfl) ?_
  refine o_al (lv rfl) rfl ze_147 hH ?_
  intro b5 w hH
  refine o_st (lv rfl) rfl lk_147 rfl (vs := [_, _, _, _, _, _, _]) rfl rfl (by exact hH) rfl rfl (by simp) rfl ?_
  intro w hH; dsimp only [setL, List.set] at hH
  refine g_seq ?_
  refine g_seq ?_
  refine g_region (l := [0, 1, 2, 3]) rfl ?_
  refine o_v (lv rfl) rfl (r_fa fa_46_0 rfl) ?_
  refine o_ld (lv rfl) rfl lk_3 rfl ⟨_, _, _, hH.c2, _, rfl, ?_⟩
  refine o_call (lv rfl) rfl en_94 rfl (model_within _ _ _ hH) ?_
  rintro _ w ⟨rfl, hH⟩
  refine o_v (lv rfl) rfl (r_notD rfl) ?_
  refine g_if rfl (fun c0 => ?_) (fun c0 => ?_)
  ·simp at c0
  ·refine g_skip ?_
   refine g_seq ?_
   refine rD mixed hH fun w hH => ?_
   refine pF 0 (lv rfl) rfl fa_46_0 rfl ?_
   refine d_ld (i := 1) [6, 7] (lv rfl) rfl lk_3 rfl (by kernel_rfl) ⟨_, _, _, hH.c2, _, rfl, ?_⟩
   refine d_p (i := 2) (lv rfl) rfl (fun w => (r_iaa ar_147 rfl rfl ?_ ?_)) (by kernel_rfl) ?_; omega; omega
   refine d_ld (i := 3) [6, 7] (lv rfl) rfl lk_146 rfl (by kernel_rfl) ⟨_, _, _, hH.c0, _, rfl, ?_⟩
   refine pM 4 (lv rfl) rfl rfl ?_
   refine d_ldN (i := 5) [6, 7] (lv rfl) rfl lk_46 rfl (by kernel_rfl) ⟨_, _, _, hH.c2, [_, _, _, _], rfl, rfl, ?_⟩
   refine d_l (j := 6) (by kernel_rfl) ?_
   refine o_callv (lv rfl) rfl (first := []) (cap := []) rfl en_90 rfl rfl (model_enqueue hok ⟨3, fl, a, b2⟩ hc (hop := rfl) (by exact hH.p3)) ?_
   rintro _ w ⟨pv, rfl, hH⟩
   obtain ⟨a2, cap2, rfl, -⟩ := hH.rd.len
   refine ⟨(keeps_in rfl (keeps_in rfl (keeps_in rfl trivial))), ?_⟩
   refine d_l (j := 7) (by kernel_rfl) ?_
   refine o_st (lv rfl) rfl lk_57 rfl (vs := [_, _, _, _]) rfl rfl (by exact hH.p3) rfl rfl (by simp) rfl ?_
   intro w hH; dsimp only [setL, List.set] at hH
   refine ⟨(keeps_in rfl (keeps_in rfl (keeps_in rfl trivial))), ?_⟩
   refine d_end (by kernel_rfl) ?_
   refine g_rq Tryz.func60 (res_cell rfl (run_loadVarN (vs := [_, _, _, _]) lk_57 (cells_of hH.c0 rfl)) res_0) ?_
   exact ⟨_, rfl, (hH.sel (by repeat' (first | exact Sel.refl _ | refine Sel.q1 ?_ | refine Sel.skip _ ?_)))⟩
theorem model_Do4 {b : Nat} {m : Mdl} (hcfg : cfgOk m.c) (hok : m.s.ok) (hfl : m.s.F.length < 2147483648) (hinv : m.s.inv) (hs : 0 ≤ m.served ∧ m.served ≤ 2305843009213693952) (fl a b2 : Int) (hc : Call.ok ⟨4, fl, a, b2⟩) (hH : Holds R (MdlC b m :: F) w) :
    Ret Tryz.prog 60 [.pointer (some ⟨b, 0, none⟩), vC ⟨4, fl, a, b2⟩] w fun v w' => ∃ pv, v = vR (m.do ⟨4, fl, a, b2⟩).1 pv ∧ Holds R (Vec 54 3 encP pv (m.do ⟨4, fl, a, b2⟩).1.packets :: MdlC b (m.do ⟨4, fl, a, b2⟩).2 :: F) w' := by
  rw [do_op4 m _ rfl]
  refine ret_of_g (n := 19) Tryz.func60 rfl rfl (by simp) ?_
  refine g_seq ?_
  refine g_region (l := [0, 1]) rfl ?_
  refine o_box (lv rfl) rfl (cs := [_, _, _, _]) rfl rfl hH ?_
  intro b3 w hH
  refine o_al (lv rfl) rfl ze_57 hH ?_
  intro b4 w hH
  refine g_seq ?_
  refine g_region (l := [0, 1, 2]) rfl ?_
  refine o_v (lv rfl) rfl (r_blda (ps := [_, _, _, _, _, _]) (pl := [_, _, _, _, _, _, _]) (cs := [_, _, _, _, _, _, _]) pa_147 rfl rfl rfl) ?_
  refine o_al (lv rfl) rfl ze_147 hH ?_
  intro b5 w hH
  refine o_st (lv rfl) rfl lk_147 rfl (vs := [_, _, _, _, _, _, _]) rfl rfl (by exact hH) rfl rfl (by simp) rfl ?_
  intro w hH; dsimp only [setL, List.set] at hH
  refine g_seq ?_
  refine g_seq ?_
  refine g_region (l := [0, 1, 2, 3]) rfl ?_
  refine o_v (lv rfl) rfl (r_fa fa_46_0 rfl) ?_
  refine o_ld (lv rfl) rfl lk_3 rfl ⟨_, _, _, hH.c2, _, rfl, ?_⟩
  refine o_call (lv rfl) rfl en_94 rfl (model_within _ _ _ hH) ?_
  rintro _ w ⟨rfl, hH⟩
  refine o_v (lv rfl) rfl (r_notD rfl) ?_
  refine g_if rfl (fun c0 => ?_) (fun c0 => ?_)
  ·simp at c0
  ·refine g_skip ?_
   refine g_seq ?_
   refine rD mixed hH fun w hH => ?_
   refine pF 0 (lv rfl) rfl fa_46_0 rfl ?_
   refine d_ld (i := 1) [6, 7] (lv rfl) rfl lk_3 rfl (by kernel_rfl) ⟨_, _, _, hH.c2, _, rfl, ?_⟩
   refine d_p (i := 2) (lv rfl) rfl (fun w => (r_iaa ar_147 rfl rfl ?_ ?_)) (by kernel_rfl) ?_; omega; omega
   refine d_ld (i := 3) [6, 7] (lv rfl) rfl lk_146 rfl (by kernel_rfl) ⟨_, _, _, hH.c0, _, rfl, ?_⟩
   refine pM 4 (lv rfl) rfl rfl ?_
   refine d_ldN (i := 5) [6, 7] (lv rfl) rfl lk_46 rfl (by kernel_rfl) ⟨_, _, _, hH.c2, [_, _, _, _], rfl, rfl, ?_⟩
   refine d_l (j := 6) (by kernel_rfl) ?_
   refine o_callv (lv rfl) rfl (first := []) (cap := []) rfl en_91 rfl rfl (model_dequeue hok hinv ⟨hs.1, by omega⟩ ⟨4, fl, a, b2⟩ (by exact hH.p3)) ?_
   rintro _ w ⟨pv, rfl, hH⟩
   obtain ⟨a2, cap2, rfl, -⟩ := hH.rd.len
   refine ⟨(keeps_in rfl (keeps_in rfl (keeps_in rfl trivial))), ?_⟩
   refine d_l (j := 7) (by kernel_rfl) ?_
   refine o_st (lv rfl) rfl lk_57 rfl (vs := [_, _, _, _]) rfl rfl (by exact hH.p3) rfl rfl (by simp) rfl ?_
   intro w hH; dsimp only [setL, List.set] at hH
   refine ⟨(keeps_in rfl (keeps_in rfl (keeps_in rfl trivial))), ?_⟩
   refine d_end (by kernel_rfl) ?_
   refine g_rq Tryz.func60 (res_cell rfl (run_loadVarN (vs := [_, _, _, _]) lk_57 (cells_of hH.c0 rfl)) res_0) ?_
   exact ⟨_, rfl, (hH.sel (by repeat' (first | exact Sel.refl _ | refine Sel.q1 ?_ | refine Sel.skip _ ?_)))⟩
theorem model_Do5 {b : Nat} {m : Mdl} (hcfg : cfgOk m.c) (hok : m.s.ok) (hfl : m.s.F.length < 2147483648) (hinv : m.s.inv) (hs : 0 ≤ m.served ∧ m.served ≤ 2305843009213693952) (fl a b2 : Int) (hc : Call.ok ⟨5, fl, a, b2⟩) (hH : Holds R (MdlC b m :: F) w) :
    Ret Tryz.prog 60 [.pointer (some ⟨b, 0, none⟩), vC ⟨5, fl, a, b2⟩] w fun v w' => ∃ pv, v = vR (m.do ⟨5, fl, a, b2⟩).1 pv ∧ Holds R (Vec 54 3 encP pv (m.do ⟨5, fl, a, b2⟩).1.packets :: MdlC b (m.do ⟨5, fl, a, b2⟩).2 :: F) w' := by
  refine ret_of_g (n := 19) Tryz.func60 rfl rfl (by simp) ?_
  refine g_seq ?_
  refine g_region (l := [0, 1]) rfl ?_
  refine o_box (lv rfl) rfl (cs := [_, _, _, _]) rfl rfl hH ?_
  intro b3 w hH
  refine o_al (lv rfl) rfl ze_57 hH ?_
  intro b4 w hH
  refine g_seq ?_
  refine g_region (l := [0, 1, 2]) rfl ?_
  refine o_v (lv rfl) rfl (r_blda (ps := [_, _, _, _, _, _]) (pl := [_, _, _, _, _, _, _]) (cs := [_, _, _, _, _, _, _]) pa_147 rfl rfl rfl) ?_
  refine o_al (lv rfl) rfl ze_147 hH ?_
  intro b5 w hH
  refine o_st (lv rfl) rfl lk_147 rfl (vs := [_, _, _, _, _, _, _]) rfl rfl (by exact hH) rfl rfl (by simp) rfl ?_
  intro w hH; dsimp only [setL, List.set] at hH
  refine g_seq ?_
  refine g_seq ?_
  refine g_region (l := [0, 1, 2, 3]) rfl ?_
  refine o_v (lv rfl) rfl (r_fa fa_46_0 rfl) ?_
  refine o_ld (lv rfl) rfl lk_3 rfl ⟨_, _, _, hH.c2, _, rfl, ?_⟩
  refine o_call (lv rfl) rfl en_94 rfl (model_within _ _ _ hH) ?_
  rintro _ w ⟨rfl, hH⟩
  refine o_v (lv rfl) rfl (r_notD rfl) ?_
  refine g_if rfl (fun c0 => ?_) (fun c0 => ?_)
  ·simp at c0
  ·refine g_skip ?_
   refine g_seq ?_
   refine rD mixed hH fun w hH => ?_
   refine pF 0 (lv rfl) rfl fa_46_0 rfl ?_
   refine d_ld (i := 1) [6, 7] (lv rfl) rfl lk_3 rfl (by kernel_rfl) ⟨_, _, _, hH.c2, _, rfl, ?_⟩
   refine d_p (i := 2) (lv rfl) rfl (fun w => (r_iaa ar_147 rfl rfl ?_ ?_)) (by kernel_rfl) ?_; omega; omega
   refine d_ld (i := 3) [6, 7] (lv rfl) rfl lk_146 rfl (by kernel_rfl) ⟨_, _, _, hH.c0, _, rfl, ?_⟩
   refine pM 4 (lv rfl) rfl rfl ?_
   refine d_ldN (i := 5) [6, 7] (lv rfl) rfl lk_46 rfl (by kernel_rfl) ⟨_, _, _, hH.c2, [_, _, _, _], rfl, rfl, ?_⟩
   refine d_l (j := 6) (by kernel_rfl) ?_
   refine o_callv (lv rfl) rfl (first := []) (cap := []) rfl en_92 rfl rfl (model_batch hok hinv hs ⟨5, fl, a, b2⟩ (hop := rfl) (by exact hH.p3)) ?_
   rintro _ w ⟨pv, rfl, hH⟩
   obtain ⟨a2, cap2, rfl, -⟩ := hH.rd.len
   refine ⟨(keeps_in rfl (keeps_in rfl (keeps_in rfl trivial))), ?_⟩
   refine d_l (j := 7) (by kernel_rfl) ?_
   refine o_st (lv rfl) rfl lk_57 rfl (vs := [_, _, _, _]) rfl rfl (by exact hH.p3) rfl rfl (by simp) rfl ?_
   intro w hH; dsimp only [setL, List.set] at hH
   refine ⟨(keeps_in rfl (keeps_in rfl (keeps_in rfl trivial))), ?_⟩
   refine d_end (by kernel_rfl) ?_
   refine g_rq Tryz.func60 (res_cell rfl (run_loadVarN (vs := [_, _, _, _]) lk_57 (cells_of hH.c0 rfl)) res_0) ?_
   exact ⟨_, rfl, (hH.sel (by repeat' (first | exact Sel.refl _ | refine Sel.q1 ?_ | refine Sel.skip _ ?_)))⟩
theorem model_Do6 {b : Nat} {m : Mdl} (hcfg : cfgOk m.c) (hok : m.s.ok) (hfl : m.s.F.length < 2147483648) (hinv : m.s.inv) (hs : 0 ≤ m.served ∧ m.served ≤ 2305843009213693952) (fl a b2 : Int) (hc : Call.ok ⟨6, fl, a, b2⟩) (hH : Holds R (MdlC b m :: F) w) :
    Ret Tryz.prog 60 [.pointer (some ⟨b, 0, none⟩), vC ⟨6, fl, a, b2⟩] w fun v w' => ∃ pv, v = vR (m.do ⟨6, fl, a, b2⟩).1 pv ∧ Holds R (Vec 54 3 encP pv (m.do ⟨6, fl, a, b2⟩).1.packets :: MdlC b (m.do ⟨6, fl, a, b2⟩).2 :: F) w' := by
  refine ret_of_g (n := 19) Tryz.func60 rfl rfl (by simp) ?_
  refine g_seq ?_
  refine g_region (l := [0, 1]) rfl ?_
  refine o_box (lv rfl) rfl (cs := [_, _, _, _]) rfl rfl hH ?_
  intro b3 w hH
  refine o_al (lv rfl) rfl ze_57 hH ?_
  intro b4 w hH
  refine g_seq ?_
  refine g_region (l := [0, 1, 2]) rfl ?_
  refine o_v (lv rfl) rfl (r_blda (ps := [_, _, _, _, _, _]) (pl := [_, _, _, _, _, _, _]) (cs := [_, _, _, _, _, _, _]) pa_147 rfl rfl rfl) ?_
  refine o_al (lv rfl) rfl ze_147 hH ?_
  intro b5 w hH
  refine o_st (lv rfl) rfl lk_147 rfl (vs := [_, _, _, _, _, _, _]) rfl rfl (by exact hH) rfl rfl (by simp) rfl ?_
  intro w hH; dsimp only [setL, List.set] at hH
  refine g_seq ?_
  refine g_seq ?_
  refine g_region (l := [0, 1, 2, 3]) rfl ?_
  refine o_v (lv rfl) rfl (r_fa fa_46_0 rfl) ?_
  refine o_ld (lv rfl) rfl lk_3 rfl ⟨_, _, _, hH.c2, _, rfl, ?_⟩
  refine o_call (lv rfl) rfl en_94 rfl (model_within _ _ _ hH) ?_
  rintro _ w ⟨rfl, hH⟩
  refine o_v (lv rfl) rfl (r_notD rfl) ?_
  refine g_if rfl (fun c0 => ?_) (fun c0 => ?_)
  ·simp at c0
  ·refine g_skip ?_
   refine g_seq ?_
   refine rD mixed hH fun w hH => ?_
   refine pF 0 (lv rfl) rfl fa_46_0 rfl ?_
   refine d_ld (i := 1) [6, 7] (lv rfl) rfl lk_3 rfl (by kernel_rfl) ⟨_, _, _, hH.c2, _, rfl, ?_⟩
   refine d_p (i := 2) (lv rfl) rfl (fun w => (r_iaa ar_147 rfl rfl ?_ ?_)) (by kernel_rfl) ?_; omega; omega
   refine d_ld (i := 3) [6, 7] (lv rfl) rfl lk_146 rfl (by kernel_rfl) ⟨_, _, _, hH.c0, _, rfl, ?_⟩
   refine pM 4 (lv rfl) rfl rfl ?_
   refine d_ldN (i := 5) [6, 7] (lv rfl) rfl lk_46 rfl (by kernel_rfl) ⟨_, _, _, hH.c2, [_, _, _, _], rfl, rfl, ?_⟩
   refine d_l (j := 6) (by kernel_rfl) ?_
   refine o_callv (lv rfl) rfl (first := []) (cap := []) rfl en_93 rfl rfl (model_stats ⟨6, fl, a, b2⟩ (hop := rfl) (by exact hH.p3)) ?_
   rintro _ w ⟨pv, rfl, hH⟩
   obtain ⟨a2, cap2, rfl, -⟩ := hH.rd.len
   refine ⟨(keeps_in rfl (keeps_in rfl (keeps_in rfl trivial))), ?_⟩
   refine d_l (j := 7) (by kernel_rfl) ?_
   refine o_st (lv rfl) rfl lk_57 rfl (vs := [_, _, _, _]) rfl rfl (by exact hH.p3) rfl rfl (by simp) rfl ?_
   intro w hH; dsimp only [setL, List.set] at hH
   refine ⟨(keeps_in rfl (keeps_in rfl (keeps_in rfl trivial))), ?_⟩
   refine d_end (by kernel_rfl) ?_
   refine g_rq Tryz.func60 (res_cell rfl (run_loadVarN (vs := [_, _, _, _]) lk_57 (cells_of hH.c0 rfl)) res_0) ?_
   exact ⟨_, rfl, (hH.sel (by repeat' (first | exact Sel.refl _ | refine Sel.q1 ?_ | refine Sel.skip _ ?_)))⟩
theorem model_Do0 {b : Nat} {m : Mdl} (c : Call) (hop : c.op < 1 ∨ 6 < c.op) (hH : Holds R (MdlC b m :: F) w) :
    Ret Tryz.prog 60 [.pointer (some ⟨b, 0, none⟩), vC c] w fun v w' => ∃ pv, v = vR (m.do c).1 pv ∧ Holds R (Vec 54 3 encP pv (m.do c).1.packets :: MdlC b (m.do c).2 :: F) w' := by
  rw [show m.do c = (code 2, m) from by unfold Mdl.do; rw [if_neg (by omega), if_neg (by omega), if_neg (by omega), if_neg (by omega), if_neg (by omega), if_neg (by omega)]]
  refine ret_of_g (n := 19) Tryz.func60 rfl rfl (by simp) ?_
  refine g_seq ?_
  refine g_region (l := [0, 1]) rfl ?_
  refine o_box (lv rfl) rfl (cs := [_, _, _, _]) rfl rfl hH ?_
  intro b3 w hH
  refine o_al (lv rfl) rfl ze_57 hH ?_
  intro b4 w hH
  refine g_seq ?_
  refine g_region (l := [0, 1, 2]) rfl ?_
  refine o_v (lv rfl) rfl (r_blda (ps := [_, _, _, _, _, _]) (pl := [_, _, _, _, _, _, _]) (cs := [_, _, _, _, _, _, _]) pa_147 rfl rfl rfl) ?_
  refine o_al (lv rfl) rfl ze_147 hH ?_
  intro b5 w hH
  refine o_st (lv rfl) rfl lk_147 rfl (vs := [_, _, _, _, _, _, _]) rfl rfl (by exact hH) rfl rfl (by simp) rfl ?_
  intro w hH; dsimp only [setL, List.set] at hH
  refine g_seq ?_
  refine g_seq ?_
  refine g_region (l := [0, 1, 2, 3]) rfl ?_
  refine o_v (lv rfl) rfl (r_fa fa_46_0 rfl) ?_
  refine o_ld (lv rfl) rfl lk_3 rfl ⟨_, _, _, hH.c2, _, rfl, ?_⟩
  refine o_call (lv rfl) rfl en_94 rfl (model_within _ _ _ hH) ?_
  rintro _ w ⟨rfl, hH⟩
  refine o_v (lv rfl) rfl (r_notD rfl) ?_
  refine g_if rfl (fun c0 => ?_) (fun c0 => ?_)
  ·refine g_seq ?_
   refine g_region (l := [0, 1]) rfl ?_
   refine o_call (lv rfl) rfl en_95 rfl (model_refused _ hH) ?_
   rintro _ w ⟨rfl, hH⟩
   refine o_st (lv rfl) rfl lk_57 rfl (vs := [_, _, _, _]) rfl rfl (by exact hH.p1) rfl rfl (by simp) rfl ?_
   intro w hH; dsimp only [setL, List.set] at hH
   refine g_rq Tryz.func60 (res_cell rfl (run_loadVarN (vs := [_, _, _, _]) lk_57 (cells_of hH.c0 rfl)) res_0) ?_
   exact ⟨_, rfl, Holds.vnil _ _ _ (hH.sel (by repeat' (first | exact Sel.refl _ | refine Sel.q3 ?_ | refine Sel.skip _ ?_)))⟩
  ·(simp at c0; omega)
theorem model_Do {b : Nat} {m : Mdl} (hcfg : cfgOk m.c) (hok : m.s.ok) (hfl : m.s.F.length < 2147483648) (hinv : m.s.inv) (hs : 0 ≤ m.served ∧ m.served ≤ 2305843009213693952) (c : Call) (hc : c.ok) (hH : Holds R (MdlC b m :: F) w) :
    Ret Tryz.prog 60 [.pointer (some ⟨b, 0, none⟩), vC c] w fun v w' => ∃ pv, v = vR (m.do c).1 pv ∧ Holds R (Vec 54 3 encP pv (m.do c).1.packets :: MdlC b (m.do c).2 :: F) w' := by
  by_cases h : c.op < 1 ∨ 6 < c.op
  ·exact model_Do0 c h hH
  ·obtain ⟨op, fl, a, b2⟩ := c
   simp only at h
   have : op = 1 ∨ op = 2 ∨ op = 3 ∨ op = 4 ∨ op = 5 ∨ op = 6 := by omega
   rcases this with rfl | rfl | rfl | rfl | rfl | rfl
   ·exact model_Do1 hcfg hok hfl hinv hs fl a b2 hc hH
   ·exact model_Do2 hcfg hok hfl hinv hs fl a b2 hc hH
   ·exact model_Do3 hcfg hok hfl hinv hs fl a b2 hc hH
   ·exact model_Do4 hcfg hok hfl hinv hs fl a b2 hc hH
   ·exact model_Do5 hcfg hok hfl hinv hs fl a b2 hc hH
   ·exact model_Do6 hcfg hok hfl hinv hs fl a b2 hc hH
end
end Go.Proofs.YtkdbglfdgeldpaaGreat
