/- Contracts of the reference's model. Condition: numbers of 64 bits. -/
import Derived.Test.YtkdbglfdgeldpaaGreatRSfq2
namespace Go.Proofs.YtkdbglfdgeldpaaGreat
open Go.Lt
section
variable {R : Base} {F : List HP} {w : World}
def invOk (unit a : Int) : Prop := 1 ≤ unit ∧ unit ≤ 4611686018427387904 ∧ 1 ≤ a ∧ a ≤ 65536
instance (unit a : Int) : Decidable (invOk unit a) := by unfold invOk; infer_instance
theorem r01_Inverse (unit a : Int) (hu : U unit) (ha : I a) (hH : Holds R F w) :
    Ret Tryz.prog 109 [.int .u64 unit, .int .i64 a] w fun v w' => v = .tuple #[.int .u64 (if invOk unit a then inverse unit a else 0), .bool (decide (invOk unit a))] ∧ Holds R F w' := by
  unfold U at hu; unfold I at ha
  refine ret_of_g (n := 25) Tryz.func109 rfl rfl (by simp) ?_
  refine g_seq ?_
  refine g_region (l := [0, 1]) rfl ?_
  refine vA (lv rfl) rfl rfl ?_
  refine vA (lv rfl) rfl rfl ?_
  refine g_seq ?_
  refine g_seq ?_
  refine g_region (l := [0, 1, 2, 3, 4, 5, 6, 7, 8, 9, 10, 11, 12, 13]) rfl ?_
  refine vM (lv rfl) rfl rfl ?_
  refine o_v (lv rfl) rfl (r_lt rfl rfl) ?_
  refine vM (lv rfl) rfl rfl ?_
  refine s_ops (fun g1_2 => ?_) (fun g1_2 => ?_)
  ·refine o_no rfl rfl rfl rfl ?_
   refine o_no rfl rfl rfl rfl ?_
   refine o_v (lv rfl) rfl (r_pickT rfl rfl) ?_
   refine vM (lv rfl) rfl rfl ?_
   refine o_no rfl rfl rfl rfl ?_
   refine o_no rfl rfl rfl rfl ?_
   refine o_v (lv rfl) rfl (r_pickT rfl rfl) ?_
   refine vM (lv rfl) rfl rfl ?_
   refine o_no rfl rfl rfl rfl ?_
   refine o_no rfl rfl rfl rfl ?_
   refine o_v (lv rfl) rfl (r_pickT rfl rfl) ?_
   refine g_true rfl ?_
   refine g_seq ?_
   refine g_region (l := [0, 1]) rfl ?_
   refine vA (lv rfl) rfl rfl ?_
   refine vA (lv rfl) rfl rfl ?_
   refine g_rq Tryz.func109 (res_t rfl (res_t rfl res_0)) ?_
   (have hg : ¬ invOk unit a := by unfold invOk; omega
    rw [if_neg hg, decide_eq_false hg]; exact ⟨rfl, hH⟩)
  ·refine vM (lvg rfl rfl rfl) rfl rfl ?_
   refine o_v (lvg rfl rfl rfl) rfl (r_gt rfl rfl) ?_
   refine o_v (lv rfl) rfl (r_pickF rfl rfl) ?_
   refine vM (lv rfl) rfl rfl ?_
   refine s_ops (fun g1_6 => ?_) (fun g1_6 => ?_)
   ·refine o_no rfl rfl rfl rfl ?_
    refine o_no rfl rfl rfl rfl ?_
    refine o_v (lv rfl) rfl (r_pickT rfl rfl) ?_
    refine vM (lv rfl) rfl rfl ?_
    refine o_no rfl rfl rfl rfl ?_
    refine o_no rfl rfl rfl rfl ?_
    refine o_v (lv rfl) rfl (r_pickT rfl rfl) ?_
    refine g_true rfl ?_
    refine g_seq ?_
    refine g_region (l := [0, 1]) rfl ?_
    refine vA (lv rfl) rfl rfl ?_
    refine vA (lv rfl) rfl rfl ?_
    refine g_rq Tryz.func109 (res_t rfl (res_t rfl res_0)) ?_
    (have hg : ¬ invOk unit a := by unfold invOk; omega
     rw [if_neg hg, decide_eq_false hg]; exact ⟨rfl, hH⟩)
   ·refine vM (lvg rfl rfl rfl) rfl rfl ?_
    refine o_v (lvg rfl rfl rfl) rfl (r_lt rfl rfl) ?_
    refine o_v (lv rfl) rfl (r_pickF rfl rfl) ?_
    refine vM (lv rfl) rfl rfl ?_
    refine s_ops (fun g1_10 => ?_) (fun g1_10 => ?_)
    ·refine o_no rfl rfl rfl rfl ?_
     refine o_no rfl rfl rfl rfl ?_
     refine o_v (lv rfl) rfl (r_pickT rfl rfl) ?_
     refine g_true rfl ?_
     refine g_seq ?_
     refine g_region (l := [0, 1]) rfl ?_
     refine vA (lv rfl) rfl rfl ?_
     refine vA (lv rfl) rfl rfl ?_
     refine g_rq Tryz.func109 (res_t rfl (res_t rfl res_0)) ?_
     (have hg : ¬ invOk unit a := by unfold invOk; omega
      rw [if_neg hg, decide_eq_false hg]; exact ⟨rfl, hH⟩)
    ·refine vM (lvg rfl rfl rfl) rfl rfl ?_
     refine o_v (lvg rfl rfl rfl) rfl (r_gt rfl rfl) ?_
     refine o_v (lv rfl) rfl (r_pickF rfl rfl) ?_
     refine g_if rfl (fun c0 => ?_) (fun c0 => ?_)
     ·refine g_seq ?_
      refine g_region (l := [0, 1]) rfl ?_
      refine vA (lv rfl) rfl rfl ?_
      refine vA (lv rfl) rfl rfl ?_
      refine g_rq Tryz.func109 (res_t rfl (res_t rfl res_0)) ?_
      (have hg : ¬ invOk unit a := by unfold invOk; omega
       rw [if_neg hg, decide_eq_false hg]; exact ⟨rfl, hH⟩)
     ·refine g_skip ?_
      refine g_seq ?_
      refine g_region (l := [0, 1, 2, 3, 4, 5, 6]) rfl ?_
      refine vM (lv rfl) rfl rfl ?_
      refine vM (lv rfl) rfl rfl ?_
      refine o_v (lv rfl) rfl (r_cvU un_3 kn_22 rfl ?_) ?_; omega
      refine o_v (lv rfl) rfl (r_quoU rfl rfl ?_ ?_) ?_; omega; omega
      refine o_v (lv rfl) rfl (r_max2 rfl rfl) ?_
      refine vA (lv rfl) rfl rfl ?_
      refine vA (lv rfl) rfl rfl ?_
      refine g_rq Tryz.func109 (res_t rfl (res_t rfl res_0)) ?_
      (have hg : invOk unit a := by unfold invOk; omega
       rw [if_pos hg, decide_eq_true hg, inverse]; exact ⟨rfl, hH⟩)
theorem tag_Inverse (unit a : Int) (hu : U unit) (ha : I a) (hH : Holds R F w) :
    Ret Tryz.prog 113 [.int .u64 unit, .int .i64 a] w fun v w' => v = .tuple #[.int .u64 (if invOk unit a then inverse unit a else 0), .bool (decide (invOk unit a))] ∧ Holds R F w' := by
  unfold U at hu; unfold I at ha
  refine ret_of_g (n := 25) Tryz.func113 rfl rfl (by simp) ?_
  refine g_seq ?_
  refine g_region (l := [0, 1]) rfl ?_
  refine vA (lv rfl) rfl rfl ?_
  refine vA (lv rfl) rfl rfl ?_
  refine g_seq ?_
  refine g_seq ?_
  refine g_region (l := [0, 1, 2, 3, 4, 5, 6, 7, 8, 9, 10, 11, 12, 13]) rfl ?_
  refine vM (lv rfl) rfl rfl ?_
  refine o_v (lv rfl) rfl (r_lt rfl rfl) ?_
  refine vM (lv rfl) rfl rfl ?_
  refine s_ops (fun g1_2 => ?_) (fun g1_2 => ?_)
  ·refine o_no rfl rfl rfl rfl ?_
   refine o_no rfl rfl rfl rfl ?_
   refine o_v (lv rfl) rfl (r_pickT rfl rfl) ?_
   refine vM (lv rfl) rfl rfl ?_
   refine o_no rfl rfl rfl rfl ?_
   refine o_no rfl rfl rfl rfl ?_
   refine o_v (lv rfl) rfl (r_pickT rfl rfl) ?_
   refine vM (lv rfl) rfl rfl ?_
   refine o_no rfl rfl rfl rfl ?_
   refine o_no rfl rfl rfl rfl ?_
   refine o_v (lv rfl) rfl (r_pickT rfl rfl) ?_
   refine g_true rfl ?_
   refine g_seq ?_
   refine g_region (l := [0, 1]) rfl ?_
   refine vA (lv rfl) rfl rfl ?_
   refine vA (lv rfl) rfl rfl ?_
   refine g_rq Tryz.func113 (res_t rfl (res_t rfl res_0)) ?_
   (have hg : ¬ invOk unit a := by unfold invOk; omega
    rw [if_neg hg, decide_eq_false hg]; exact ⟨rfl, hH⟩)
  ·refine vM (lvg rfl rfl rfl) rfl rfl ?_
   refine o_v (lvg rfl rfl rfl) rfl (r_gt rfl rfl) ?_
   refine o_v (lv rfl) rfl (r_pickF rfl rfl) ?_
   refine vM (lv rfl) rfl rfl ?_
   refine s_ops (fun g1_6 => ?_) (fun g1_6 => ?_)
   ·refine o_no rfl rfl rfl rfl ?_
    refine o_no rfl rfl rfl rfl ?_
    refine o_v (lv rfl) rfl (r_pickT rfl rfl) ?_
    refine vM (lv rfl) rfl rfl ?_
    refine o_no rfl rfl rfl rfl ?_
    refine o_no rfl rfl rfl rfl ?_
    refine o_v (lv rfl) rfl (r_pickT rfl rfl) ?_
    refine g_true rfl ?_
    refine g_seq ?_
    refine g_region (l := [0, 1]) rfl ?_
    refine vA (lv rfl) rfl rfl ?_
    refine vA (lv rfl) rfl rfl ?_
    refine g_rq Tryz.func113 (res_t rfl (res_t rfl res_0)) ?_
    (have hg : ¬ invOk unit a := by unfold invOk; omega
     rw [if_neg hg, decide_eq_false hg]; exact ⟨rfl, hH⟩)
   ·refine vM (lvg rfl rfl rfl) rfl rfl ?_
    refine o_v (lvg rfl rfl rfl) rfl (r_lt rfl rfl) ?_
    refine o_v (lv rfl) rfl (r_pickF rfl rfl) ?_
    refine vM (lv rfl) rfl rfl ?_
    refine s_ops (fun g1_10 => ?_) (fun g1_10 => ?_)
    ·refine o_no rfl rfl rfl rfl ?_
     refine o_no rfl rfl rfl rfl ?_
     refine o_v (lv rfl) rfl (r_pickT rfl rfl) ?_
     refine g_true rfl ?_
     refine g_seq ?_
     refine g_region (l := [0, 1]) rfl ?_
     refine vA (lv rfl) rfl rfl ?_
     refine vA (lv rfl) rfl rfl ?_
     refine g_rq Tryz.func113 (res_t rfl (res_t rfl res_0)) ?_
     (have hg : ¬ invOk unit a := by unfold invOk; omega
      rw [if_neg hg, decide_eq_false hg]; exact ⟨rfl, hH⟩)
    ·refine vM (lvg rfl rfl rfl) rfl rfl ?_
     refine o_v (lvg rfl rfl rfl) rfl (r_gt rfl rfl) ?_
     refine o_v (lv rfl) rfl (r_pickF rfl rfl) ?_
     refine g_if rfl (fun c0 => ?_) (fun c0 => ?_)
     ·refine g_seq ?_
      refine g_region (l := [0, 1]) rfl ?_
      refine vA (lv rfl) rfl rfl ?_
      refine vA (lv rfl) rfl rfl ?_
      refine g_rq Tryz.func113 (res_t rfl (res_t rfl res_0)) ?_
      (have hg : ¬ invOk unit a := by unfold invOk; omega
       rw [if_neg hg, decide_eq_false hg]; exact ⟨rfl, hH⟩)
     ·refine g_skip ?_
      refine g_seq ?_
      refine g_region (l := [0, 1, 2, 3, 4, 5, 6]) rfl ?_
      refine vM (lv rfl) rfl rfl ?_
      refine vM (lv rfl) rfl rfl ?_
      refine o_v (lv rfl) rfl (r_cvU un_3 kn_22 rfl ?_) ?_; omega
      refine o_v (lv rfl) rfl (r_quoU rfl rfl ?_ ?_) ?_; omega; omega
      refine o_v (lv rfl) rfl (r_max2 rfl rfl) ?_
      refine vA (lv rfl) rfl rfl ?_
      refine vA (lv rfl) rfl rfl ?_
      refine g_rq Tryz.func113 (res_t rfl (res_t rfl res_0)) ?_
      (have hg : invOk unit a := by unfold invOk; omega
       rw [if_pos hg, decide_eq_true hg, inverse]; exact ⟨rfl, hH⟩)
theorem r09_Right (c : Config) (hH : Holds R F w) :
    Ret Tryz.prog 53 [vCfg c] w fun v w' => v = .bool (decide (cfgOk c)) ∧ Holds R F w' := by
  refine ret_of_g (n := 51) Tryz.func53 rfl rfl (by simp) ?_
  refine g_seq ?_
  refine g_region (l := [0, 1]) rfl ?_
  refine o_box (lv rfl) rfl (cs := [_, _, _, _, _]) rfl rfl hH ?_
  intro b1 w hH
  refine vA (lv rfl) rfl rfl ?_
  refine g_seq ?_
  refine g_region (l := [0, 1, 2, 3, 4, 5, 6, 7, 8, 9, 10, 11, 12, 13, 14, 15, 16, 17, 18, 19, 20, 21, 22, 23, 24, 25, 26, 27, 28, 29, 30, 31, 32, 33, 34, 35, 36, 37, 38, 39, 40, 41, 42, 43, 44, 45, 46, 47, 48]) rfl ?_
  refine o_v (lv rfl) rfl (r_fa fa_24_0 rfl) ?_
  refine o_ld (lv rfl) rfl lk_3 rfl ⟨_, _, _, hH.c0, _, rfl, ?_⟩
  refine o_v (lv rfl) rfl (r_ge rfl rfl) ?_
  refine vM (lv rfl) rfl rfl ?_
  refine s_ops (fun g1_3 => ?_) (fun g1_3 => ?_)
  ·refine o_v (lvg rfl rfl rfl) rfl (r_fa fa_24_0 rfl) ?_
   refine o_ld (lvg rfl rfl rfl) rfl lk_3 rfl ⟨_, _, _, hH.c0, _, rfl, ?_⟩
   refine o_v (lvg rfl rfl rfl) rfl (r_le rfl rfl) ?_
   refine o_v (lv rfl) rfl (r_pickT rfl rfl) ?_
   refine vM (lv rfl) rfl rfl ?_
   refine s_ops (fun g1_8 => ?_) (fun g1_8 => ?_)
   ·refine o_v (lvg rfl rfl rfl) rfl (r_fa fa_24_1 rfl) ?_
    refine o_ld (lvg rfl rfl rfl) rfl lk_3 rfl ⟨_, _, _, hH.c0, _, rfl, ?_⟩
    refine o_v (lvg rfl rfl rfl) rfl (r_ge rfl rfl) ?_
    refine o_v (lv rfl) rfl (r_pickT rfl rfl) ?_
    refine vM (lv rfl) rfl rfl ?_
    refine s_ops (fun g1_13 => ?_) (fun g1_13 => ?_)
    ·refine o_v (lvg rfl rfl rfl) rfl (r_fa fa_24_1 rfl) ?_
     refine o_ld (lvg rfl rfl rfl) rfl lk_3 rfl ⟨_, _, _, hH.c0, _, rfl, ?_⟩
     refine o_v (lvg rfl rfl rfl) rfl (r_le rfl rfl) ?_
     refine o_v (lv rfl) rfl (r_pickT rfl rfl) ?_
     refine vM (lv rfl) rfl rfl ?_
     refine s_ops (fun g1_18 => ?_) (fun g1_18 => ?_)
     ·refine o_v (lvg rfl rfl rfl) rfl (r_fa fa_24_2 rfl) ?_
      refine o_ld (lvg rfl rfl rfl) rfl lk_3 rfl ⟨_, _, _, hH.c0, _, rfl, ?_⟩
      refine o_v (lvg rfl rfl rfl) rfl (r_ge rfl rfl) ?_
      refine o_v (lv rfl) rfl (r_pickT rfl rfl) ?_
      refine vM (lv rfl) rfl rfl ?_
      refine s_ops (fun g1_23 => ?_) (fun g1_23 => ?_)
      ·refine o_v (lvg rfl rfl rfl) rfl (r_fa fa_24_2 rfl) ?_
       refine o_ld (lvg rfl rfl rfl) rfl lk_3 rfl ⟨_, _, _, hH.c0, _, rfl, ?_⟩
       refine o_v (lvg rfl rfl rfl) rfl (r_le rfl rfl) ?_
       refine o_v (lv rfl) rfl (r_pickT rfl rfl) ?_
       refine vM (lv rfl) rfl rfl ?_
       refine s_ops (fun g1_28 => ?_) (fun g1_28 => ?_)
       ·refine o_v (lvg rfl rfl rfl) rfl (r_fa fa_24_3 rfl) ?_
        refine o_ld (lvg rfl rfl rfl) rfl lk_3 rfl ⟨_, _, _, hH.c0, _, rfl, ?_⟩
        refine o_v (lvg rfl rfl rfl) rfl (r_ge rfl rfl) ?_
        refine o_v (lv rfl) rfl (r_pickT rfl rfl) ?_
        refine vM (lv rfl) rfl rfl ?_
        refine s_ops (fun g1_33 => ?_) (fun g1_33 => ?_)
        ·refine o_v (lvg rfl rfl rfl) rfl (r_fa fa_24_3 rfl) ?_
         refine o_ld (lvg rfl rfl rfl) rfl lk_3 rfl ⟨_, _, _, hH.c0, _, rfl, ?_⟩
         refine o_v (lvg rfl rfl rfl) rfl (r_le rfl rfl) ?_
         refine o_v (lv rfl) rfl (r_pickT rfl rfl) ?_
         refine vM (lv rfl) rfl rfl ?_
         refine s_ops (fun g1_38 => ?_) (fun g1_38 => ?_)
         ·refine o_v (lvg rfl rfl rfl) rfl (r_fa fa_24_4 rfl) ?_
          refine o_ld (lvg rfl rfl rfl) rfl lk_22 rfl ⟨_, _, _, hH.c0, _, rfl, ?_⟩
          refine o_v (lvg rfl rfl rfl) rfl (r_ge rfl rfl) ?_
          refine o_v (lv rfl) rfl (r_pickT rfl rfl) ?_
          refine vM (lv rfl) rfl rfl ?_
          refine s_ops (fun g1_43 => ?_) (fun g1_43 => ?_)
          ·refine o_v (lvg rfl rfl rfl) rfl (r_fa fa_24_4 rfl) ?_
           refine o_ld (lvg rfl rfl rfl) rfl lk_22 rfl ⟨_, _, _, hH.c0, _, rfl, ?_⟩
           refine o_v (lvg rfl rfl rfl) rfl (r_le rfl rfl) ?_
           refine o_v (lv rfl) rfl (r_pickT rfl rfl) ?_
           refine vA (lv rfl) rfl rfl ?_
           refine g_rq Tryz.func53 (res_t rfl res_0) ?_
           refine ⟨bv ?_, (hH.sel (by repeat' (first | exact Sel.refl _ | refine Sel.skip _ ?_)))⟩
           (apply decide_eq_decide.2; unfold cfgOk; omega)
          ·refine o_no rfl rfl rfl rfl ?_
           refine o_no rfl rfl rfl rfl ?_
           refine o_no rfl rfl rfl rfl ?_
           refine o_v (lv rfl) rfl (r_pickF rfl rfl) ?_
           refine vA (lv rfl) rfl rfl ?_
           refine g_rq Tryz.func53 (res_t rfl res_0) ?_
           refine ⟨bv ?_, (hH.sel (by repeat' (first | exact Sel.refl _ | refine Sel.skip _ ?_)))⟩
           (symm; apply decide_eq_false; unfold cfgOk; omega)
         ·refine o_no rfl rfl rfl rfl ?_
          refine o_no rfl rfl rfl rfl ?_
          refine o_no rfl rfl rfl rfl ?_
          refine o_v (lv rfl) rfl (r_pickF rfl rfl) ?_
          refine vM (lv rfl) rfl rfl ?_
          refine o_no rfl rfl rfl rfl ?_
          refine o_no rfl rfl rfl rfl ?_
          refine o_no rfl rfl rfl rfl ?_
          refine o_v (lv rfl) rfl (r_pickF rfl rfl) ?_
          refine vA (lv rfl) rfl rfl ?_
          refine g_rq Tryz.func53 (res_t rfl res_0) ?_
          refine ⟨bv ?_, (hH.sel (by repeat' (first | exact Sel.refl _ | refine Sel.skip _ ?_)))⟩
          (symm; apply decide_eq_false; unfold cfgOk; omega)
        ·refine o_no rfl rfl rfl rfl ?_
         refine o_no rfl rfl rfl rfl ?_
         refine o_no rfl rfl rfl rfl ?_
         refine o_v (lv rfl) rfl (r_pickF rfl rfl) ?_
         refine vM (lv rfl) rfl rfl ?_
         refine o_no rfl rfl rfl rfl ?_
         refine o_no rfl rfl rfl rfl ?_
         refine o_no rfl rfl rfl rfl ?_
         refine o_v (lv rfl) rfl (r_pickF rfl rfl) ?_
         refine vM (lv rfl) rfl rfl ?_
         refine o_no rfl rfl rfl rfl ?_
         refine o_no rfl rfl rfl rfl ?_
         refine o_no rfl rfl rfl rfl ?_
         refine o_v (lv rfl) rfl (r_pickF rfl rfl) ?_
         refine vA (lv rfl) rfl rfl ?_
         refine g_rq Tryz.func53 (res_t rfl res_0) ?_
         refine ⟨bv ?_, (hH.sel (by repeat' (first | exact Sel.refl _ | refine Sel.skip _ ?_)))⟩
         (symm; apply decide_eq_false; unfold cfgOk; omega)
       ·refine o_no rfl rfl rfl rfl ?_
        refine o_no rfl rfl rfl rfl ?_
        refine o_no rfl rfl rfl rfl ?_
        refine o_v (lv rfl) rfl (r_pickF rfl rfl) ?_
        refine vM (lv rfl) rfl rfl ?_
        refine o_no rfl rfl rfl rfl ?_
        refine o_no rfl rfl rfl rfl ?_
        refine o_no rfl rfl rfl rfl ?_
        refine o_v (lv rfl) rfl (r_pickF rfl rfl) ?_
        refine vM (lv rfl) rfl rfl ?_
        refine o_no rfl rfl rfl rfl ?_
        refine o_no rfl rfl rfl rfl ?_
        refine o_no rfl rfl rfl rfl ?_
        refine o_v (lv rfl) rfl (r_pickF rfl rfl) ?_
        refine vM (lv rfl) rfl rfl ?_
        refine o_no rfl rfl rfl rfl ?_
        refine o_no rfl rfl rfl rfl ?_
        refine o_no rfl rfl rfl rfl ?_
        refine o_v (lv rfl) rfl (r_pickF rfl rfl) ?_
        refine vA (lv rfl) rfl rfl ?_
        refine g_rq Tryz.func53 (res_t rfl res_0) ?_
        refine ⟨bv ?_, (hH.sel (by repeat' (first | exact Sel.refl _ | refine Sel.skip _ ?_)))⟩
        (symm; apply decide_eq_false; unfold cfgOk; omega)
      ·refine o_no rfl rfl rfl rfl ?_
       refine o_no rfl rfl rfl rfl ?_
       refine o_no rfl rfl rfl rfl ?_
       refine o_v (lv rfl) rfl (r_pickF rfl rfl) ?_
       refine vM (lv rfl) rfl rfl ?_
       refine o_no rfl rfl rfl rfl ?_
       refine o_no rfl rfl rfl rfl ?_
       refine o_no rfl rfl rfl rfl ?_
       refine o_v (lv rfl) rfl (r_pickF rfl rfl) ?_
       refine vM (lv rfl) rfl rfl ?_
       refine o_no rfl rfl rfl rfl ?_
       refine o_no rfl rfl rfl rfl ?_
       refine o_no rfl rfl rfl rfl ?_
       refine o_v (lv rfl) rfl (r_pickF rfl rfl) ?_
       refine vM (lv rfl) rfl rfl ?_
       refine o_no rfl rfl rfl rfl ?_
       refine o_no rfl rfl rfl rfl ?_
       refine o_no rfl rfl rfl rfl ?_
       refine o_v (lv rfl) rfl (r_pickF rfl rfl) ?_
       refine vM (lv rfl) rfl rfl ?_
       refine o_no rfl rfl rfl rfl ?_
       refine o_no rfl rfl rfl rfl ?_
       refine o_no rfl rfl rfl rfl ?_
       refine o_v (lv rfl) rfl (r_pickF rfl rfl) ?_
       refine vA (lv rfl) rfl rfl ?_
       refine g_rq Tryz.func53 (res_t rfl res_0) ?_
       refine ⟨bv ?_, (hH.sel (by repeat' (first | exact Sel.refl _ | refine Sel.skip _ ?_)))⟩
       (symm; apply decide_eq_false; unfold cfgOk; omega)
     ·refine o_no rfl rfl rfl rfl ?_
      refine o_no rfl rfl rfl rfl ?_
      refine o_no rfl rfl rfl rfl ?_
      refine o_v (lv rfl) rfl (r_pickF rfl rfl) ?_
      refine vM (lv rfl) rfl rfl ?_
      refine o_no rfl rfl rfl rfl ?_
      refine o_no rfl rfl rfl rfl ?_
      refine o_no rfl rfl rfl rfl ?_
      refine o_v (lv rfl) rfl (r_pickF rfl rfl) ?_
      refine vM (lv rfl) rfl rfl ?_
      refine o_no rfl rfl rfl rfl ?_
      refine o_no rfl rfl rfl rfl ?_
      refine o_no rfl rfl rfl rfl ?_
      refine o_v (lv rfl) rfl (r_pickF rfl rfl) ?_
      refine vM (lv rfl) rfl rfl ?_
      refine o_no rfl rfl rfl rfl ?_
      refine o_no rfl rfl rfl rfl ?_
      refine o_no rfl rfl rfl rfl ?_
      refine o_v (lv rfl) rfl (r_pickF rfl rfl) ?_
      refine vM (lv rfl) rfl rfl ?_
      refine o_no rfl rfl rfl rfl ?_
      refine o_no rfl rfl rfl rfl ?_
      refine o_no rfl rfl rfl rfl ?_
      refine o_v (lv rfl) rfl (r_pickF rfl rfl) ?_
      refine vM (lv rfl) rfl rfl ?_
      refine o_no rfl rfl rfl rfl ?_
      refine o_no rfl rfl rfl rfl ?_
      refine o_no rfl rfl rfl rfl ?_
      refine o_v (lv rfl) rfl (r_pickF rfl rfl) ?_
      refine vA (lv rfl) rfl rfl ?_
      refine g_rq Tryz.func53 (res_t rfl res_0) ?_
      refine ⟨bv ?_, (hH.sel (by repeat' (first | exact Sel.refl _ | refine Sel.skip _ ?_)))⟩
      (symm; apply decide_eq_false; unfold cfgOk; omega)
    ·refine o_no rfl rfl rfl rfl ?_
     refine o_no rfl rfl rfl rfl ?_
     refine o_no rfl rfl rfl rfl ?_
     refine o_v (lv rfl) rfl (r_pickF rfl rfl) ?_
     refine vM (lv rfl) rfl rfl ?_
     refine o_no rfl rfl rfl rfl ?_
     refine o_no rfl rfl rfl rfl ?_
     refine o_no rfl rfl rfl rfl ?_
     refine o_v (lv rfl) rfl (r_pickF rfl rfl) ?_
     refine vM (lv rfl) rfl rfl ?_
     refine o_no rfl rfl rfl rfl ?_
     refine o_no rfl rfl rfl rfl ?_
     refine o_no rfl rfl rfl rfl ?_
     refine o_v (lv rfl) rfl (r_pickF rfl rfl) ?_
     refine vM (lv rfl) rfl rfl ?_
     refine o_no rfl rfl rfl rfl ?_
     refine o_no rfl rfl rfl rfl ?_
     refine o_no rfl rfl rfl rfl ?_
     refine o_v (lv rfl) rfl (r_pickF rfl rfl) ?_
     refine vM (lv rfl) rfl rfl ?_
     refine o_no rfl rfl rfl rfl ?_
     refine o_no rfl rfl rfl rfl ?_
     refine o_no rfl rfl rfl rfl ?_
     refine o_v (lv rfl) rfl (r_pickF rfl rfl) ?_
     refine vM (lv rfl) rfl rfl ?_
     refine o_no rfl rfl rfl rfl ?_
     refine o_no rfl rfl rfl rfl ?_
     refine o_no rfl rfl rfl rfl ?_
     refine o_v (lv rfl) rfl (r_pickF rfl rfl) ?_
     refine vM (lv rfl) rfl rfl ?_
     refine o_no rfl rfl rfl rfl ?_
     refine o_no rfl rfl rfl rfl ?_
     refine o_no rfl rfl rfl rfl ?_
     refine o_v (lv rfl) rfl (r_pickF rfl rfl) ?_
     refine vA (lv rfl) rfl rfl ?_
     refine g_rq Tryz.func53 (res_t rfl res_0) ?_
     refine ⟨bv ?_, (hH.sel (by repeat' (first | exact Sel.refl _ | refine Sel.skip _ ?_)))⟩
     (symm; apply decide_eq_false; unfold cfgOk; omega)
   ·refine o_no rfl rfl rfl rfl ?_
    refine o_no rfl rfl rfl rfl ?_
    refine o_no rfl rfl rfl rfl ?_
    refine o_v (lv rfl) rfl (r_pickF rfl rfl) ?_
    refine vM (lv rfl) rfl rfl ?_
    refine o_no rfl rfl rfl rfl ?_
    refine o_no rfl rfl rfl rfl ?_
    refine o_no rfl rfl rfl rfl ?_
    refine o_v (lv rfl) rfl (r_pickF rfl rfl) ?_
    refine vM (lv rfl) rfl rfl ?_
    refine o_no rfl rfl rfl rfl ?_
    refine o_no rfl rfl rfl rfl ?_
    refine o_no rfl rfl rfl rfl ?_
    refine o_v (lv rfl) rfl (r_pickF rfl rfl) ?_
    refine vM (lv rfl) rfl rfl ?_
    refine o_no rfl rfl rfl rfl ?_
    refine o_no rfl rfl rfl rfl ?_
    refine o_no rfl rfl rfl rfl ?_
    refine o_v (lv rfl) rfl (r_pickF rfl rfl) ?_
    refine vM (lv rfl) rfl rfl ?_
    refine o_no rfl rfl rfl rfl ?_
    refine o_no rfl rfl rfl rfl ?_
    refine o_no rfl rfl rfl rfl ?_
    refine o_v (lv rfl) rfl (r_pickF rfl rfl) ?_
    refine vM (lv rfl) rfl rfl ?_
    refine o_no rfl rfl rfl rfl ?_
    refine o_no rfl rfl rfl rfl ?_
    refine o_no rfl rfl rfl rfl ?_
    refine o_v (lv rfl) rfl (r_pickF rfl rfl) ?_
    refine vM (lv rfl) rfl rfl ?_
    refine o_no rfl rfl rfl rfl ?_
    refine o_no rfl rfl rfl rfl ?_
    refine o_no rfl rfl rfl rfl ?_
    refine o_v (lv rfl) rfl (r_pickF rfl rfl) ?_
    refine vM (lv rfl) rfl rfl ?_
    refine o_no rfl rfl rfl rfl ?_
    refine o_no rfl rfl rfl rfl ?_
    refine o_no rfl rfl rfl rfl ?_
    refine o_v (lv rfl) rfl (r_pickF rfl rfl) ?_
    refine vA (lv rfl) rfl rfl ?_
    refine g_rq Tryz.func53 (res_t rfl res_0) ?_
    refine ⟨bv ?_, (hH.sel (by repeat' (first | exact Sel.refl _ | refine Sel.skip _ ?_)))⟩
    (symm; apply decide_eq_false; unfold cfgOk; omega)
  ·refine o_no rfl rfl rfl rfl ?_
   refine o_no rfl rfl rfl rfl ?_
   refine o_no rfl rfl rfl rfl ?_
   refine o_v (lv rfl) rfl (r_pickF rfl rfl) ?_
   refine vM (lv rfl) rfl rfl ?_
   refine o_no rfl rfl rfl rfl ?_
   refine o_no rfl rfl rfl rfl ?_
   refine o_no rfl rfl rfl rfl ?_
   refine o_v (lv rfl) rfl (r_pickF rfl rfl) ?_
   refine vM (lv rfl) rfl rfl ?_
   refine o_no rfl rfl rfl rfl ?_
   refine o_no rfl rfl rfl rfl ?_
   refine o_no rfl rfl rfl rfl ?_
   refine o_v (lv rfl) rfl (r_pickF rfl rfl) ?_
   refine vM (lv rfl) rfl rfl ?_
   refine o_no rfl rfl rfl rfl ?_
   refine o_no rfl rfl rfl rfl ?_
   refine o_no rfl rfl rfl rfl ?_
   refine o_v (lv rfl) rfl (r_pickF rfl rfl) ?_
   refine vM (lv rfl) rfl rfl ?_
   refine o_no rfl rfl rfl rfl ?_
   refine o_no rfl rfl rfl rfl ?_
   refine o_no rfl rfl rfl rfl ?_
   refine o_v (lv rfl) rfl (r_pickF rfl rfl) ?_
   refine vM (lv rfl) rfl rfl ?_
   refine o_no rfl rfl rfl rfl ?_
   refine o_no rfl rfl rfl rfl ?_
   refine o_no rfl rfl rfl rfl ?_
   refine o_v (lv rfl) rfl (r_pickF rfl rfl) ?_
   refine vM (lv rfl) rfl rfl ?_
   refine o_no rfl rfl rfl rfl ?_
   refine o_no rfl rfl rfl rfl ?_
   refine o_no rfl rfl rfl rfl ?_
   refine o_v (lv rfl) rfl (r_pickF rfl rfl) ?_
   refine vM (lv rfl) rfl rfl ?_
   refine o_no rfl rfl rfl rfl ?_
   refine o_no rfl rfl rfl rfl ?_
   refine o_no rfl rfl rfl rfl ?_
   refine o_v (lv rfl) rfl (r_pickF rfl rfl) ?_
   refine vM (lv rfl) rfl rfl ?_
   refine o_no rfl rfl rfl rfl ?_
   refine o_no rfl rfl rfl rfl ?_
   refine o_no rfl rfl rfl rfl ?_
   refine o_v (lv rfl) rfl (r_pickF rfl rfl) ?_
   refine vA (lv rfl) rfl rfl ?_
   refine g_rq Tryz.func53 (res_t rfl res_0) ?_
   refine ⟨bv ?_, (hH.sel (by repeat' (first | exact Sel.refl _ | refine Sel.skip _ ?_)))⟩
   (symm; apply decide_eq_false; unfold cfgOk; omega)
theorem r09_code (e : Int) (hH : Holds R F w) :
    Ret Tryz.prog 72 [.int .i64 e] w fun v w' => v = vR (code e) (.slice none 0 0) ∧ Holds R F w' := by
  refine ret_of_g (n := 5) Tryz.func72 rfl rfl (by simp) ?_
  refine g_seq ?_
  refine g_region (l := [0]) rfl ?_
  refine o_al (lv rfl) rfl ze_57 hH ?_
  intro b2 w hH
  refine g_seq ?_
  refine g_region (l := [0, 1, 2]) rfl ?_
  refine vM (lv rfl) rfl rfl ?_
  refine o_v (lv rfl) rfl (r_bld (ps := [_]) (cs := [_, _, _, _]) pl_57 rfl rfl) ?_
  refine o_st (lv rfl) rfl lk_57 rfl (vs := [_, _, _, _]) rfl rfl (by exact hH) rfl rfl (by simp) rfl ?_
  intro w hH; dsimp only [setL, List.set] at hH
  refine g_rq Tryz.func72 (res_cell rfl (run_loadVarN (vs := [_, _, _, _]) lk_57 (cells_of hH.c0 rfl)) res_0) ?_
  exact ⟨rfl, (hH.sel (by repeat' (first | exact Sel.refl _ | refine Sel.skip _ ?_)))⟩

def RMdlC (b : Nat) (m : Mdl) : HP := ex fun sb => star (cel b [.int .i64 m.c.shards, .int .i64 m.c.slots, .int .i64 m.c.workers, .int .i64 m.c.width, .int .u64 m.c.unit, .pointer (some ⟨sb, 0, none⟩), .int .i64 m.served] 70) (RSfqC sb m.s)
theorem RMdlC.op {b : Nat} {m : Mdl} (h : Holds R (RMdlC b m :: F) w) : ∃ sb, Holds R (cel b [.int .i64 m.c.shards, .int .i64 m.c.slots, .int .i64 m.c.workers, .int .i64 m.c.width, .int .u64 m.c.unit, .pointer (some ⟨sb, 0, none⟩), .int .i64 m.served] 70 :: RSfqC sb m.s :: F) w := by
  obtain ⟨sv, h⟩ := h.open_ex
  exact ⟨sv, h.open⟩
theorem RMdlC.mk {b sb : Nat} {m : Mdl} (h : Holds R (cel b [.int .i64 m.c.shards, .int .i64 m.c.slots, .int .i64 m.c.workers, .int .i64 m.c.width, .int .u64 m.c.unit, .pointer (some ⟨sb, 0, none⟩), .int .i64 m.served] 70 :: RSfqC sb m.s :: F) w) : Holds R (RMdlC b m :: F) w :=
  h.shut.shut_ex (p := fun sb => star (cel b [.int .i64 m.c.shards, .int .i64 m.c.slots, .int .i64 m.c.workers, .int .i64 m.c.width, .int .u64 m.c.unit, .pointer (some ⟨sb, 0, none⟩), .int .i64 m.served] 70) (RSfqC sb m.s))
theorem RSfqC.new {b : Nat} (h : Holds R (cel b [.slice none 0 0, .int .u64 0, .int .u64 0] 67 :: F) w) : Holds R (RSfqC b ⟨[], 0, 0⟩ :: F) w :=
  RSfqC.mk (s := ⟨[], 0, 0⟩) (ps := []) rfl (Holds.p2 (Holds.p2 (Holds.all_nil (Holds.p1 (h.vnil _ _ _)))))
theorem r09_NewModel (c : Config) (hH : Holds R F w) :
    Ret Tryz.prog 42 [vCfg c] w fun v w' => ∃ b, v = .pointer (some ⟨b, 0, none⟩) ∧ Holds R (RMdlC b (mkMdl c) :: F) w' := by
  refine ret_of_g (n := 8) Tryz.func42 rfl rfl (by simp) ?_
  refine g_seq ?_
  refine g_region (l := [0, 1]) rfl ?_
  refine o_box (lv rfl) rfl (cs := [_, _, _, _, _]) rfl rfl hH ?_
  intro b1 w hH
  refine vA (lv rfl) rfl rfl ?_
  refine g_seq ?_
  refine g_region (l := [0, 1, 2, 3, 4, 5]) rfl ?_
  refine o_ldN (lv rfl) rfl lk_24 rfl ⟨_, _, _, hH.c0, [_, _, _, _, _], rfl, rfl, ?_⟩
  refine o_v (lv rfl) rfl (r_bld (ps := []) (cs := [_, _, _]) pl_67 rfl rfl) ?_
  refine o_box (lv rfl) rfl (cs := [_, _, _]) rfl rfl hH ?_
  intro b5 w hH
  refine o_v (lv rfl) rfl (r_bld (ps := [_, _]) (cs := [_, _, _, _, _, _, _]) pl_70 rfl rfl) ?_
  refine o_box (lv rfl) rfl (cs := [_, _, _, _, _, _, _]) rfl rfl hH ?_
  intro b7 w hH
  refine vA (lv rfl) rfl rfl ?_
  refine g_rq Tryz.func42 (res_t rfl res_0) ?_
  exact ⟨_, rfl, RMdlC.mk (Holds.p1 (RSfqC.new (hH.sel (by repeat' (first | exact Sel.refl _ | refine Sel.q0 ?_ | refine Sel.q1 ?_ | refine Sel.skip _ ?_)))))⟩
end
end Go.Proofs.YtkdbglfdgeldpaaGreat
