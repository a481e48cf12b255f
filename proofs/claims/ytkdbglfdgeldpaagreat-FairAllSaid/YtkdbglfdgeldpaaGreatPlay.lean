/- Contracts of package play: numbers within bounds, configs and calls that may be. Condition: numbers of 64 bits. -/
import Derived.Test.YtkdbglfdgeldpaaGreatRLeft
set_option linter.unusedVariables false
namespace Go.Proofs.YtkdbglfdgeldpaaGreat
open Go.Lt
def md (v n : Int) : Int := (v % 18446744073709551616) % n
theorem md_b (v : Int) {n : Int} (hn : 0 < n) : 0 ≤ md v n ∧ md v n < n := ⟨Int.emod_nonneg _ (by omega), Int.emod_lt_of_pos _ hn⟩
section
variable {R : Base} {F : List HP} {w : World}
theorem play_Mod (v n : Int) (hv : I v) (hn : 0 < n) (hn2 : n ≤ 9223372036854775807) (hH : Holds R F w) :
    Ret Tryz.prog 12 [.int .i64 v, .int .i64 n] w fun x w' => x = .int .i64 (md v n) ∧ Holds R F w' := by
  have e1 : n % 18446744073709551616 = n := by omega
  have hb := md_b v hn
  unfold md at hb
  refine ret_of_g (n := 11) Tryz.func12 rfl rfl (by simp) ?_
  refine g_seq ?_
  refine g_region (l := [0]) rfl ?_
  refine vA (lv rfl) rfl rfl ?_
  refine g_seq ?_
  refine g_region (l := [0, 1, 2, 3, 4, 5, 6]) rfl ?_
  refine vM (lv rfl) rfl rfl ?_
  refine o_v (lv rfl) rfl (r_cvM un_3 kn_84 rfl) ?_
  refine vM (lv rfl) rfl rfl ?_
  refine o_v (lv rfl) rfl (r_cvM un_3 kn_84 rfl) ?_; rw [e1]
  refine o_v (lv rfl) rfl (r_remI rfl rfl ?_ ?_) ?_; omega; omega
  refine o_v (lv rfl) rfl (r_cvI un_84 kn_3 rfl ?_) ?_; omega
  refine vA (lv rfl) rfl rfl ?_
  refine g_rq Tryz.func12 (res_t rfl res_0) ?_
  exact ⟨rfl, (hH.sel (by repeat' (first | exact Sel.refl _)))⟩
theorem play_Config (c : Config) (h1 : I c.shards) (h2 : I c.slots) (h3 : I c.workers) (h4 : I c.width) (h5 : U c.unit) (hH : Holds R F w) :
    Ret Tryz.prog 39 [vCfg c] w fun x w' => ∃ c', x = vCfg c' ∧ cfgOk c' ∧ Holds R F w' := by
  have b1 := md_b c.shards (n := 4) (by omega)
  have b2 := md_b c.slots (n := 4) (by omega)
  have b3 := md_b c.workers (n := 6) (by omega)
  have b4 := md_b c.width (n := 12) (by omega)
  have h5' := h5; unfold U at h5'
  refine ret_of_g (n := 33) Tryz.func39 rfl rfl (by simp) ?_
  refine g_seq ?_
  refine g_region (l := [0, 1]) rfl ?_
  refine o_box (lv rfl) rfl (cs := [_, _, _, _, _]) rfl rfl hH ?_
  intro b1 w hH
  refine o_al (lv rfl) rfl ze_24 hH ?_
  intro b2 w hH
  refine g_seq ?_
  refine g_region (l := [0, 1, 2, 3, 4]) rfl ?_
  refine o_v (lv rfl) rfl (r_fa fa_24_4 rfl) ?_
  refine o_ld (lv rfl) rfl lk_22 rfl ⟨_, _, _, hH.c1, _, rfl, ?_⟩
  refine o_v (lv rfl) rfl (r_remI rfl rfl ?_ ?_) ?_; omega; omega
  refine o_v (lv rfl) rfl (r_addU rfl rfl ?_) ?_; omega
  refine vA (lv rfl) rfl rfl ?_
  refine g_seq ?_
  refine g_seq ?_
  refine g_region (l := [0, 1, 2, 3]) rfl ?_
  refine o_v (lv rfl) rfl (r_fa fa_24_4 rfl) ?_
  refine o_ld (lv rfl) rfl lk_22 rfl ⟨_, _, _, hH.c1, _, rfl, ?_⟩
  refine o_v (lv rfl) rfl (r_remI rfl rfl ?_ ?_) ?_; omega; omega
  refine o_v (lv rfl) rfl (r_eq rfl rfl) ?_
  refine g_if rfl (fun c0 => ?_) (fun c0 => ?_)
  ·refine g_region (l := [0, 1, 2, 3, 4]) rfl ?_
   refine o_v (lv rfl) rfl (r_fa fa_24_4 rfl) ?_
   refine o_ld (lv rfl) rfl lk_22 rfl ⟨_, _, _, hH.c1, _, rfl, ?_⟩
   refine o_v (lv rfl) rfl (r_remI rfl rfl ?_ ?_) ?_; omega; omega
   refine o_v (lv rfl) rfl (r_addU rfl rfl ?_) ?_; omega
   refine vA (lv rfl) rfl rfl ?_
   refine g_seq ?_
   refine rD mixed hH fun w hH => ?_
   refine pF 0 (lv rfl) rfl fa_24_0 rfl ?_
   refine d_ld (i := 1) [2, 6, 10, 14, 17] (lv rfl) rfl lk_3 rfl (by kernel_rfl) ⟨_, _, _, hH.c1, _, rfl, ?_⟩
   refine pF 4 (lv rfl) rfl fa_24_1 rfl ?_
   refine d_ld (i := 5) [6, 10, 14, 17] (lv rfl) rfl lk_3 rfl (by kernel_rfl) ⟨_, _, _, hH.c1, _, rfl, ?_⟩
   refine pF 8 (lv rfl) rfl fa_24_2 rfl ?_
   refine d_ld (i := 9) [10, 14, 17] (lv rfl) rfl lk_3 rfl (by kernel_rfl) ⟨_, _, _, hH.c1, _, rfl, ?_⟩
   refine pF 12 (lv rfl) rfl fa_24_3 rfl ?_
   refine d_ld (i := 13) [14, 17] (lv rfl) rfl lk_3 rfl (by kernel_rfl) ⟨_, _, _, hH.c1, _, rfl, ?_⟩
   refine pM 15 (lv rfl) rfl rfl ?_
   refine d_l (j := 2) (by kernel_rfl) ?_
   refine o_call (lv rfl) rfl en_12 rfl (play_Mod _ _ (by exact h1) (by omega) (by omega) hH) ?_
   rintro _ w ⟨rfl, hH⟩
   refine ⟨(keeps_cons (fun _ => (by exact hH.c1)) (keeps_cons (fun _ => (by exact hH.c1)) (keeps_cons (fun _ => (by exact hH.c1)) (keeps_in rfl trivial)))), ?_⟩
   refine d_p (i := 3) (lv rfl) rfl (fun w => (r_addI rfl rfl ?_)) (by kernel_rfl) ?_; omega
   refine d_l (j := 6) (by kernel_rfl) ?_
   refine o_call (lv rfl) rfl en_12 rfl (play_Mod _ _ (by exact h2) (by omega) (by omega) hH) ?_
   rintro _ w ⟨rfl, hH⟩
   refine ⟨(keeps_cons (fun _ => (by exact hH.c1)) (keeps_cons (fun _ => (by exact hH.c1)) (keeps_in rfl (keeps_in rfl trivial)))), ?_⟩
   refine d_p (i := 7) (lv rfl) rfl (fun w => (r_addI rfl rfl ?_)) (by kernel_rfl) ?_; omega
   refine d_l (j := 10) (by kernel_rfl) ?_
   refine o_call (lv rfl) rfl en_12 rfl (play_Mod _ _ (by exact h3) (by omega) (by omega) hH) ?_
   rintro _ w ⟨rfl, hH⟩
   refine ⟨(keeps_cons (fun _ => (by exact hH.c1)) (keeps_in rfl (keeps_in rfl (keeps_in rfl trivial)))), ?_⟩
   refine d_p (i := 11) (lv rfl) rfl (fun w => (r_addI rfl rfl ?_)) (by kernel_rfl) ?_; omega
   refine d_l (j := 14) (by kernel_rfl) ?_
   refine o_call (lv rfl) rfl en_12 rfl (play_Mod _ _ (by exact h4) (by omega) (by omega) hH) ?_
   rintro _ w ⟨rfl, hH⟩
   refine ⟨(keeps_in rfl (keeps_in rfl (keeps_in rfl (keeps_in rfl trivial)))), ?_⟩
   refine d_p (i := 16) (lv rfl) rfl (fun w => (r_bld (ps := [_, _, _, _, _]) (cs := [_, _, _, _, _]) pl_24 rfl rfl)) (by kernel_rfl) ?_
   refine d_l (j := 17) (by kernel_rfl) ?_
   refine o_st (lv rfl) rfl lk_24 rfl (vs := [_, _, _, _, _]) rfl rfl (by exact hH) rfl rfl (by simp) rfl ?_
   intro w hH; dsimp only [setL, List.set] at hH
   refine ⟨(keeps_in rfl (keeps_in rfl (keeps_in rfl (keeps_in rfl trivial)))), ?_⟩
   refine d_end (by kernel_rfl) ?_
   refine g_rq Tryz.func39 (res_cell rfl (run_loadVarN (vs := [_, _, _, _, _]) lk_24 (cells_of hH.c0 rfl)) res_0) ?_
   exact ⟨⟨1 + md c.shards 4, 1 + md c.slots 4, 1 + md c.workers 6, md c.width 12, _⟩, rfl, by unfold cfgOk; dsimp only; omega, (hH.sel (by repeat' (first | exact Sel.refl _ | refine Sel.skip _ ?_)))⟩
  ·refine g_skip ?_
   refine g_seq ?_
   refine rD mixed hH fun w hH => ?_
   refine pF 0 (lv rfl) rfl fa_24_0 rfl ?_
   refine d_ld (i := 1) [2, 6, 10, 14, 17] (lv rfl) rfl lk_3 rfl (by kernel_rfl) ⟨_, _, _, hH.c1, _, rfl, ?_⟩
   refine pF 4 (lv rfl) rfl fa_24_1 rfl ?_
   refine d_ld (i := 5) [6, 10, 14, 17] (lv rfl) rfl lk_3 rfl (by kernel_rfl) ⟨_, _, _, hH.c1, _, rfl, ?_⟩
   refine pF 8 (lv rfl) rfl fa_24_2 rfl ?_
   refine d_ld (i := 9) [10, 14, 17] (lv rfl) rfl lk_3 rfl (by kernel_rfl) ⟨_, _, _, hH.c1, _, rfl, ?_⟩
   refine pF 12 (lv rfl) rfl fa_24_3 rfl ?_
   refine d_ld (i := 13) [14, 17] (lv rfl) rfl lk_3 rfl (by kernel_rfl) ⟨_, _, _, hH.c1, _, rfl, ?_⟩
   refine pM 15 (lv rfl) rfl rfl ?_
   refine d_l (j := 2) (by kernel_rfl) ?_
   refine o_call (lv rfl) rfl en_12 rfl (play_Mod _ _ (by exact h1) (by omega) (by omega) hH) ?_
   rintro _ w ⟨rfl, hH⟩
   refine ⟨(keeps_cons (fun _ => (by exact hH.c1)) (keeps_cons (fun _ => (by exact hH.c1)) (keeps_cons (fun _ => (by exact hH.c1)) (keeps_in rfl trivial)))), ?_⟩
   refine d_p (i := 3) (lv rfl) rfl (fun w => (r_addI rfl rfl ?_)) (by kernel_rfl) ?_; omega
   refine d_l (j := 6) (by kernel_rfl) ?_
   refine o_call (lv rfl) rfl en_12 rfl (play_Mod _ _ (by exact h2) (by omega) (by omega) hH) ?_
   rintro _ w ⟨rfl, hH⟩
   refine ⟨(keeps_cons (fun _ => (by exact hH.c1)) (keeps_cons (fun _ => (by exact hH.c1)) (keeps_in rfl (keeps_in rfl trivial)))), ?_⟩
   refine d_p (i := 7) (lv rfl) rfl (fun w => (r_addI rfl rfl ?_)) (by kernel_rfl) ?_; omega
   refine d_l (j := 10) (by kernel_rfl) ?_
   refine o_call (lv rfl) rfl en_12 rfl (play_Mod _ _ (by exact h3) (by omega) (by omega) hH) ?_
   rintro _ w ⟨rfl, hH⟩
   refine ⟨(keeps_cons (fun _ => (by exact hH.c1)) (keeps_in rfl (keeps_in rfl (keeps_in rfl trivial)))), ?_⟩
   refine d_p (i := 11) (lv rfl) rfl (fun w => (r_addI rfl rfl ?_)) (by kernel_rfl) ?_; omega
   refine d_l (j := 14) (by kernel_rfl) ?_
   refine o_call (lv rfl) rfl en_12 rfl (play_Mod _ _ (by exact h4) (by omega) (by omega) hH) ?_
   rintro _ w ⟨rfl, hH⟩
   refine ⟨(keeps_in rfl (keeps_in rfl (keeps_in rfl (keeps_in rfl trivial)))), ?_⟩
   refine d_p (i := 16) (lv rfl) rfl (fun w => (r_bld (ps := [_, _, _, _, _]) (cs := [_, _, _, _, _]) pl_24 rfl rfl)) (by kernel_rfl) ?_
   refine d_l (j := 17) (by kernel_rfl) ?_
   refine o_st (lv rfl) rfl lk_24 rfl (vs := [_, _, _, _, _]) rfl rfl (by exact hH) rfl rfl (by simp) rfl ?_
   intro w hH; dsimp only [setL, List.set] at hH
   refine ⟨(keeps_in rfl (keeps_in rfl (keeps_in rfl (keeps_in rfl trivial)))), ?_⟩
   refine d_end (by kernel_rfl) ?_
   refine g_rq Tryz.func39 (res_cell rfl (run_loadVarN (vs := [_, _, _, _, _]) lk_24 (cells_of hH.c0 rfl)) res_0) ?_
   exact ⟨⟨1 + md c.shards 4, 1 + md c.slots 4, 1 + md c.workers 6, md c.width 12, _⟩, rfl, by unfold cfgOk; dsimp only; omega, (hH.sel (by repeat' (first | exact Sel.refl _ | refine Sel.skip _ ?_)))⟩
theorem play_Call (c : Call) (hc : c.ok) (hH : Holds R F w) :
    Ret Tryz.prog 41 [vC c] w fun x w' => ∃ c' : Call, x = vC c' ∧ c'.ok ∧ Holds R F w' := by
  have b0 := md_b c.flow (n := 5) (by omega)
  have b1 := md_b c.a (n := 5) (by omega)
  have b2 := md_b c.b (n := 3) (by omega)
  have b3 := md_b c.a (n := 6) (by omega)
  have b4 := md_b c.a (n := 9) (by omega)
  have b5 := md_b c.b (n := 1000) (by omega)
  have b6 := md_b c.a (n := 65536) (by omega)
  have hc' := hc; unfold Call.ok I at hc'
  refine ret_of_g (n := 65) Tryz.func41 rfl rfl (by simp) ?_
  refine g_seq ?_
  refine g_region (l := [0, 1]) rfl ?_
  refine o_box (lv rfl) rfl (cs := [_, _, _, _]) rfl rfl hH ?_
  intro b1 w hH
  refine o_al (lv rfl) rfl ze_46 hH ?_
  intro b2 w hH
  refine g_seq ?_
  refine g_seq ?_
  refine g_region (l := [0, 1, 2, 3]) rfl ?_
  refine o_v (lv rfl) rfl (r_fa fa_46_1 rfl) ?_
  refine o_ld (lv rfl) rfl lk_3 rfl ⟨_, _, _, hH.c1, _, rfl, ?_⟩
  refine o_call (lv rfl) rfl en_12 rfl (play_Mod _ _ (by exact hc.2.1) (by omega) (by omega) hH) ?_
  rintro _ w ⟨rfl, hH⟩
  refine o_v (lv rfl) rfl (r_eq rfl rfl) ?_
  refine g_if rfl (fun c0 => ?_) (fun c0 => ?_)
  ·refine g_seq ?_
   refine g_region (l := [0, 1]) rfl ?_
   refine o_ldN (lv rfl) rfl lk_46 rfl ⟨_, _, _, hH.c1, [_, _, _, _], rfl, rfl, ?_⟩
   refine o_st (lv rfl) rfl lk_46 rfl (vs := [_, _, _, _]) rfl rfl (by exact hH) rfl rfl (by simp) rfl ?_
   intro w hH; dsimp only [setL, List.set] at hH
   refine g_rq Tryz.func41 (res_cell rfl (run_loadVarN (vs := [_, _, _, _]) lk_46 (cells_of hH.c0 rfl)) res_0) ?_
   exact ⟨⟨_, _, _, _⟩, rfl, by unfold Call.ok I; (try dsimp only); omega, (hH.sel (by repeat' (first | exact Sel.refl _ | refine Sel.skip _ ?_)))⟩
  ·refine g_skip ?_
   refine g_seq ?_
   refine g_region (l := [0, 1, 2, 3, 4, 5]) rfl ?_
   refine o_v (lv rfl) rfl (r_fa fa_46_1 rfl) ?_
   refine o_ld (lv rfl) rfl lk_3 rfl ⟨_, _, _, hH.c1, _, rfl, ?_⟩
   refine o_call (lv rfl) rfl en_12 rfl (play_Mod _ _ (by exact hc.2.1) (by omega) (by omega) hH) ?_
   rintro _ w ⟨rfl, hH⟩
   refine o_v (lv rfl) rfl (r_bld (ps := [_]) (cs := [_, _, _, _]) pl_46 rfl rfl) ?_
   refine o_al (lv rfl) rfl ze_46 hH ?_
   intro b3 w hH
   refine o_st (lv rfl) rfl lk_46 rfl (vs := [_, _, _, _]) rfl rfl (by exact hH) rfl rfl (by simp) rfl ?_
   intro w hH; dsimp only [setL, List.set] at hH
   refine g_seq ?_
   refine g_seq ?_
   refine g_region (l := [0, 1, 2]) rfl ?_
   refine o_v (lv rfl) rfl (r_fa fa_46_0 rfl) ?_
   refine o_ld (lv rfl) rfl lk_3 rfl ⟨_, _, _, hH.c2, _, rfl, ?_⟩
   refine o_call (lv rfl) rfl en_12 rfl (play_Mod _ _ (by exact hc.1) (by omega) (by omega) hH) ?_
   rintro _ w ⟨rfl, hH⟩
   refine g_block ?_
   refine g_seq ?_
   refine g_region (l := [0, 1]) rfl ?_
   refine o_v (lv rfl) rfl (r_eq rfl rfl) ?_
   refine vA (lv rfl) rfl rfl ?_
   refine g_if rfl (fun c1 => ?_) (fun c1 => ?_)
   ·refine rD mixed hH fun w hH => ?_
    refine pF 0 (lv rfl) rfl fa_46_2 rfl ?_
    refine d_ld (i := 1) [2, 6, 9, 11, 13] (lv rfl) rfl lk_3 rfl (by kernel_rfl) ⟨_, _, _, hH.c2, _, rfl, ?_⟩
    refine pF 4 (lv rfl) rfl fa_46_3 rfl ?_
    refine d_ld (i := 5) [6, 9, 11, 13] (lv rfl) rfl lk_3 rfl (by kernel_rfl) ⟨_, _, _, hH.c2, _, rfl, ?_⟩
    refine pF 8 (lv rfl) rfl fa_46_0 rfl ?_
    refine d_l (j := 2) (by kernel_rfl) ?_
    refine o_call (lv rfl) rfl en_12 rfl (play_Mod _ _ (by exact hc.2.2.1) (by omega) (by omega) hH) ?_
    rintro _ w ⟨rfl, hH⟩
    refine ⟨(keeps_cons (fun _ => (by exact hH.c2)) (keeps_in rfl trivial)), ?_⟩
    refine d_p (i := 3) (lv rfl) rfl (fun w => (r_addI rfl rfl ?_)) (by kernel_rfl) ?_; omega
    refine d_l (j := 6) (by kernel_rfl) ?_
    refine o_call (lv rfl) rfl en_12 rfl (play_Mod _ _ (by exact hc.2.2.2) (by omega) (by omega) hH) ?_
    rintro _ w ⟨rfl, hH⟩
    refine ⟨(keeps_in rfl (keeps_in rfl trivial)), ?_⟩
    refine d_p (i := 7) (lv rfl) rfl (fun w => (r_addI rfl rfl ?_)) (by kernel_rfl) ?_; omega
    refine d_l (j := 9) (by kernel_rfl) ?_
    refine o_st (lv rfl) rfl lk_3 rfl (vs := [_]) rfl rfl (by exact hH) rfl rfl (by simp) rfl ?_
    intro w hH; dsimp only [setL, List.set] at hH
    refine ⟨(keeps_in rfl (keeps_in rfl trivial)), ?_⟩
    refine pF 10 (lv rfl) rfl fa_46_2 rfl ?_
    refine d_l (j := 11) (by kernel_rfl) ?_
    refine o_st (lv rfl) rfl lk_3 rfl (vs := [_]) rfl rfl (by exact hH) rfl rfl (by simp) rfl ?_
    intro w hH; dsimp only [setL, List.set] at hH
    refine ⟨(keeps_in rfl (keeps_in rfl trivial)), ?_⟩
    refine pF 12 (lv rfl) rfl fa_46_3 rfl ?_
    refine d_l (j := 13) (by kernel_rfl) ?_
    refine o_st (lv rfl) rfl lk_3 rfl (vs := [_]) rfl rfl (by exact hH) rfl rfl (by simp) rfl ?_
    intro w hH; dsimp only [setL, List.set] at hH
    refine ⟨(keeps_in rfl (keeps_in rfl trivial)), ?_⟩
    refine d_end (by kernel_rfl) ?_
    refine g_inBlock ?_
    refine g_seq ?_
    refine g_region (l := [0, 1]) rfl ?_
    refine o_ldN (lv rfl) rfl lk_46 rfl ⟨_, _, _, hH.c0, [_, _, _, _], rfl, rfl, ?_⟩
    refine o_st (lv rfl) rfl lk_46 rfl (vs := [_, _, _, _]) rfl rfl (by exact hH.p1) rfl rfl (by simp) rfl ?_
    intro w hH; dsimp only [setL, List.set] at hH
    refine g_rq Tryz.func41 (res_cell rfl (run_loadVarN (vs := [_, _, _, _]) lk_46 (cells_of hH.c0 rfl)) res_0) ?_
    exact ⟨⟨_, _, _, _⟩, rfl, by unfold Call.ok I; (try dsimp only); omega, (hH.sel (by repeat' (first | exact Sel.refl _ | refine Sel.skip _ ?_)))⟩
   ·refine g_seq ?_
    refine g_region (l := [0, 1]) rfl ?_
    refine o_v (lv rfl) rfl (r_eq rfl rfl) ?_
    refine vA (lv rfl) rfl rfl ?_
    refine g_if rfl (fun c2 => ?_) (fun c2 => ?_)
    ·refine g_region (l := [0, 1]) rfl ?_
     refine o_v (lv rfl) rfl (r_fa fa_46_0 rfl) ?_
     refine o_st (lv rfl) rfl lk_3 rfl (vs := [_]) rfl rfl (by exact hH) rfl rfl (by simp) rfl ?_
     intro w hH; dsimp only [setL, List.set] at hH
     refine g_inBlock ?_
     refine g_seq ?_
     refine g_region (l := [0, 1]) rfl ?_
     refine o_ldN (lv rfl) rfl lk_46 rfl ⟨_, _, _, hH.c0, [_, _, _, _], rfl, rfl, ?_⟩
     refine o_st (lv rfl) rfl lk_46 rfl (vs := [_, _, _, _]) rfl rfl (by exact hH.p1) rfl rfl (by simp) rfl ?_
     intro w hH; dsimp only [setL, List.set] at hH
     refine g_rq Tryz.func41 (res_cell rfl (run_loadVarN (vs := [_, _, _, _]) lk_46 (cells_of hH.c0 rfl)) res_0) ?_
     exact ⟨⟨_, _, _, _⟩, rfl, by unfold Call.ok I; (try dsimp only); omega, (hH.sel (by repeat' (first | exact Sel.refl _ | refine Sel.skip _ ?_)))⟩
    ·refine g_seq ?_
     refine g_seq ?_
     refine g_region (l := [0, 1]) rfl ?_
     refine o_v (lv rfl) rfl (r_eq rfl rfl) ?_
     refine vA (lv rfl) rfl rfl ?_
     refine g_if rfl (fun c3 => ?_) (fun c3 => ?_)
     ·refine g_skip ?_
      refine g_if rfl (fun c4 => ?_) (fun c4 => ?_)
      ·refine g_region (l := [0, 1]) rfl ?_
       refine o_v (lv rfl) rfl (r_bld (ps := [_]) (cs := [_, _, _, _]) pl_46 rfl rfl) ?_
       refine o_st (lv rfl) rfl lk_46 rfl (vs := [_, _, _, _]) rfl rfl (by exact hH) rfl rfl (by simp) rfl ?_
       intro w hH; dsimp only [setL, List.set] at hH
       refine g_inBlock ?_
       refine g_seq ?_
       refine g_region (l := [0, 1]) rfl ?_
       refine o_ldN (lv rfl) rfl lk_46 rfl ⟨_, _, _, hH.c0, [_, _, _, _], rfl, rfl, ?_⟩
       refine o_st (lv rfl) rfl lk_46 rfl (vs := [_, _, _, _]) rfl rfl (by exact hH.p1) rfl rfl (by simp) rfl ?_
       intro w hH; dsimp only [setL, List.set] at hH
       refine g_rq Tryz.func41 (res_cell rfl (run_loadVarN (vs := [_, _, _, _]) lk_46 (cells_of hH.c0 rfl)) res_0) ?_
       exact ⟨⟨_, _, _, _⟩, rfl, by unfold Call.ok I; (try dsimp only); omega, (hH.sel (by repeat' (first | exact Sel.refl _ | refine Sel.skip _ ?_)))⟩
      ·refine g_seq ?_
       refine g_region (l := [0, 1]) rfl ?_
       refine o_v (lv rfl) rfl (r_eq rfl rfl) ?_
       refine vA (lv rfl) rfl rfl ?_
       refine g_if rfl (fun c5 => ?_) (fun c5 => ?_)
       ·refine g_region (l := [0, 1, 2, 3, 4]) rfl ?_
        refine o_v (lv rfl) rfl (r_fa fa_46_2 rfl) ?_
        refine o_ld (lv rfl) rfl lk_3 rfl ⟨_, _, _, hH.c2, _, rfl, ?_⟩
        refine o_call (lv rfl) rfl en_12 rfl (play_Mod _ _ (by exact hc.2.2.1) (by omega) (by omega) hH) ?_
        rintro _ w ⟨rfl, hH⟩
        refine o_v (lv rfl) rfl (r_bld (ps := [_, _]) (cs := [_, _, _, _]) pl_46 rfl rfl) ?_
        refine o_st (lv rfl) rfl lk_46 rfl (vs := [_, _, _, _]) rfl rfl (by exact hH) rfl rfl (by simp) rfl ?_
        intro w hH; dsimp only [setL, List.set] at hH
        refine g_inBlock ?_
        refine g_seq ?_
        refine g_region (l := [0, 1]) rfl ?_
        refine o_ldN (lv rfl) rfl lk_46 rfl ⟨_, _, _, hH.c0, [_, _, _, _], rfl, rfl, ?_⟩
        refine o_st (lv rfl) rfl lk_46 rfl (vs := [_, _, _, _]) rfl rfl (by exact hH.p1) rfl rfl (by simp) rfl ?_
        intro w hH; dsimp only [setL, List.set] at hH
        refine g_rq Tryz.func41 (res_cell rfl (run_loadVarN (vs := [_, _, _, _]) lk_46 (cells_of hH.c0 rfl)) res_0) ?_
        exact ⟨⟨_, _, _, _⟩, rfl, by unfold Call.ok I; (try dsimp only); omega, (hH.sel (by repeat' (first | exact Sel.refl _ | refine Sel.skip _ ?_)))⟩
       ·refine g_seq ?_
        refine g_region (l := [0, 1]) rfl ?_
        refine o_v (lv rfl) rfl (r_eq rfl rfl) ?_
        refine vA (lv rfl) rfl rfl ?_
        refine g_if rfl (fun c6 => ?_) (fun c6 => ?_)
        ·refine g_region (l := [0, 1]) rfl ?_
         refine o_v (lv rfl) rfl (r_bld (ps := [_]) (cs := [_, _, _, _]) pl_46 rfl rfl) ?_
         refine o_st (lv rfl) rfl lk_46 rfl (vs := [_, _, _, _]) rfl rfl (by exact hH) rfl rfl (by simp) rfl ?_
         intro w hH; dsimp only [setL, List.set] at hH
         refine g_inBlock ?_
         refine g_seq ?_
         refine g_region (l := [0, 1]) rfl ?_
         refine o_ldN (lv rfl) rfl lk_46 rfl ⟨_, _, _, hH.c0, [_, _, _, _], rfl, rfl, ?_⟩
         refine o_st (lv rfl) rfl lk_46 rfl (vs := [_, _, _, _]) rfl rfl (by exact hH.p1) rfl rfl (by simp) rfl ?_
         intro w hH; dsimp only [setL, List.set] at hH
         refine g_rq Tryz.func41 (res_cell rfl (run_loadVarN (vs := [_, _, _, _]) lk_46 (cells_of hH.c0 rfl)) res_0) ?_
         exact ⟨⟨_, _, _, _⟩, rfl, by unfold Call.ok I; (try dsimp only); omega, (hH.sel (by repeat' (first | exact Sel.refl _ | refine Sel.skip _ ?_)))⟩
        ·refine g_seq ?_
         refine rD mixed hH fun w hH => ?_
         refine pF 0 (lv rfl) rfl fa_46_2 rfl ?_
         refine d_ld (i := 1) [2, 6, 8, 10, 12] (lv rfl) rfl lk_3 rfl (by kernel_rfl) ⟨_, _, _, hH.c2, _, rfl, ?_⟩
         refine pF 4 (lv rfl) rfl fa_46_3 rfl ?_
         refine d_ld (i := 5) [6, 8, 10, 12] (lv rfl) rfl lk_3 rfl (by kernel_rfl) ⟨_, _, _, hH.c2, _, rfl, ?_⟩
         refine pF 7 (lv rfl) rfl fa_46_0 rfl ?_
         refine d_l (j := 2) (by kernel_rfl) ?_
         refine o_call (lv rfl) rfl en_12 rfl (play_Mod _ _ (by exact hc.2.2.1) (by omega) (by omega) hH) ?_
         rintro _ w ⟨rfl, hH⟩
         refine ⟨(keeps_cons (fun _ => (by exact hH.c2)) (keeps_in rfl trivial)), ?_⟩
         refine d_p (i := 3) (lv rfl) rfl (fun w => (r_addI rfl rfl ?_)) (by kernel_rfl) ?_; omega
         refine d_l (j := 6) (by kernel_rfl) ?_
         refine o_call (lv rfl) rfl en_12 rfl (play_Mod _ _ (by exact hc.2.2.2) (by omega) (by omega) hH) ?_
         rintro _ w ⟨rfl, hH⟩
         refine ⟨(keeps_in rfl (keeps_in rfl trivial)), ?_⟩
         refine d_l (j := 8) (by kernel_rfl) ?_
         refine o_st (lv rfl) rfl lk_3 rfl (vs := [_]) rfl rfl (by exact hH) rfl rfl (by simp) rfl ?_
         intro w hH; dsimp only [setL, List.set] at hH
         refine ⟨(keeps_in rfl (keeps_in rfl trivial)), ?_⟩
         refine pF 9 (lv rfl) rfl fa_46_2 rfl ?_
         refine d_l (j := 10) (by kernel_rfl) ?_
         refine o_st (lv rfl) rfl lk_3 rfl (vs := [_]) rfl rfl (by exact hH) rfl rfl (by simp) rfl ?_
         intro w hH; dsimp only [setL, List.set] at hH
         refine ⟨(keeps_in rfl (keeps_in rfl trivial)), ?_⟩
         refine pF 11 (lv rfl) rfl fa_46_3 rfl ?_
         refine d_l (j := 12) (by kernel_rfl) ?_
         refine o_st (lv rfl) rfl lk_3 rfl (vs := [_]) rfl rfl (by exact hH) rfl rfl (by simp) rfl ?_
         intro w hH; dsimp only [setL, List.set] at hH
         refine ⟨(keeps_in rfl (keeps_in rfl trivial)), ?_⟩
         refine d_end (by kernel_rfl) ?_
         refine g_seq ?_
         refine g_region (l := [0, 1, 2, 3]) rfl ?_
         refine o_v (lv rfl) rfl (r_fa fa_46_2 rfl) ?_
         refine o_ld (lv rfl) rfl lk_3 rfl ⟨_, _, _, hH.c2, _, rfl, ?_⟩
         refine o_call (lv rfl) rfl en_12 rfl (play_Mod _ _ (by exact hc.2.2.1) (by omega) (by omega) hH) ?_
         rintro _ w ⟨rfl, hH⟩
         refine o_v (lv rfl) rfl (r_eq rfl rfl) ?_
         refine g_if rfl (fun c7 => ?_) (fun c7 => ?_)
         ·refine g_region (l := [0, 1, 2, 3, 4, 5]) rfl ?_
          refine o_v (lv rfl) rfl (r_fa fa_46_2 rfl) ?_
          refine o_ld (lv rfl) rfl lk_3 rfl ⟨_, _, _, hH.c2, _, rfl, ?_⟩
          refine o_call (lv rfl) rfl en_12 rfl (play_Mod _ _ (by exact hc.2.2.1) (by omega) (by omega) hH) ?_
          rintro _ w ⟨rfl, hH⟩
          refine o_v (lv rfl) rfl (r_addI rfl rfl ?_) ?_; omega
          refine o_v (lv rfl) rfl (r_fa fa_46_2 rfl) ?_
          refine o_st (lv rfl) rfl lk_3 rfl (vs := [_]) rfl rfl (by exact hH) rfl rfl (by simp) rfl ?_
          intro w hH; dsimp only [setL, List.set] at hH
          refine g_inBlock ?_
          refine g_seq ?_
          refine g_region (l := [0, 1]) rfl ?_
          refine o_ldN (lv rfl) rfl lk_46 rfl ⟨_, _, _, hH.c0, [_, _, _, _], rfl, rfl, ?_⟩
          refine o_st (lv rfl) rfl lk_46 rfl (vs := [_, _, _, _]) rfl rfl (by exact hH.p1) rfl rfl (by simp) rfl ?_
          intro w hH; dsimp only [setL, List.set] at hH
          refine g_rq Tryz.func41 (res_cell rfl (run_loadVarN (vs := [_, _, _, _]) lk_46 (cells_of hH.c0 rfl)) res_0) ?_
          exact ⟨⟨_, _, _, _⟩, rfl, by unfold Call.ok I; (try dsimp only); omega, (hH.sel (by repeat' (first | exact Sel.refl _ | refine Sel.skip _ ?_)))⟩
         ·refine g_skip ?_
          refine g_inBlock ?_
          refine g_seq ?_
          refine g_region (l := [0, 1]) rfl ?_
          refine o_ldN (lv rfl) rfl lk_46 rfl ⟨_, _, _, hH.c0, [_, _, _, _], rfl, rfl, ?_⟩
          refine o_st (lv rfl) rfl lk_46 rfl (vs := [_, _, _, _]) rfl rfl (by exact hH.p1) rfl rfl (by simp) rfl ?_
          intro w hH; dsimp only [setL, List.set] at hH
          refine g_rq Tryz.func41 (res_cell rfl (run_loadVarN (vs := [_, _, _, _]) lk_46 (cells_of hH.c0 rfl)) res_0) ?_
          exact ⟨⟨_, _, _, _⟩, rfl, by unfold Call.ok I; (try dsimp only); omega, (hH.sel (by repeat' (first | exact Sel.refl _ | refine Sel.skip _ ?_)))⟩
     ·refine g_region (l := [0, 1]) rfl ?_
      refine o_v (lv rfl) rfl (r_eq rfl rfl) ?_
      refine vA (lv rfl) rfl rfl ?_
      refine g_if rfl (fun c4 => ?_) (fun c4 => ?_)
      ·refine g_region (l := [0, 1]) rfl ?_
       refine o_v (lv rfl) rfl (r_bld (ps := [_]) (cs := [_, _, _, _]) pl_46 rfl rfl) ?_
       refine o_st (lv rfl) rfl lk_46 rfl (vs := [_, _, _, _]) rfl rfl (by exact hH) rfl rfl (by simp) rfl ?_
       intro w hH; dsimp only [setL, List.set] at hH
       refine g_inBlock ?_
       refine g_seq ?_
       refine g_region (l := [0, 1]) rfl ?_
       refine o_ldN (lv rfl) rfl lk_46 rfl ⟨_, _, _, hH.c0, [_, _, _, _], rfl, rfl, ?_⟩
       refine o_st (lv rfl) rfl lk_46 rfl (vs := [_, _, _, _]) rfl rfl (by exact hH.p1) rfl rfl (by simp) rfl ?_
       intro w hH; dsimp only [setL, List.set] at hH
       refine g_rq Tryz.func41 (res_cell rfl (run_loadVarN (vs := [_, _, _, _]) lk_46 (cells_of hH.c0 rfl)) res_0) ?_
       exact ⟨⟨_, _, _, _⟩, rfl, by unfold Call.ok I; (try dsimp only); omega, (hH.sel (by repeat' (first | exact Sel.refl _ | refine Sel.skip _ ?_)))⟩
      ·refine g_seq ?_
       refine g_region (l := [0, 1]) rfl ?_
       refine o_v (lv rfl) rfl (r_eq rfl rfl) ?_
       refine vA (lv rfl) rfl rfl ?_
       refine g_if rfl (fun c5 => ?_) (fun c5 => ?_)
       ·refine g_region (l := [0, 1, 2, 3, 4]) rfl ?_
        refine o_v (lv rfl) rfl (r_fa fa_46_2 rfl) ?_
        refine o_ld (lv rfl) rfl lk_3 rfl ⟨_, _, _, hH.c2, _, rfl, ?_⟩
        refine o_call (lv rfl) rfl en_12 rfl (play_Mod _ _ (by exact hc.2.2.1) (by omega) (by omega) hH) ?_
        rintro _ w ⟨rfl, hH⟩
        refine o_v (lv rfl) rfl (r_bld (ps := [_, _]) (cs := [_, _, _, _]) pl_46 rfl rfl) ?_
        refine o_st (lv rfl) rfl lk_46 rfl (vs := [_, _, _, _]) rfl rfl (by exact hH) rfl rfl (by simp) rfl ?_
        intro w hH; dsimp only [setL, List.set] at hH
        refine g_inBlock ?_
        refine g_seq ?_
        refine g_region (l := [0, 1]) rfl ?_
        refine o_ldN (lv rfl) rfl lk_46 rfl ⟨_, _, _, hH.c0, [_, _, _, _], rfl, rfl, ?_⟩
        refine o_st (lv rfl) rfl lk_46 rfl (vs := [_, _, _, _]) rfl rfl (by exact hH.p1) rfl rfl (by simp) rfl ?_
        intro w hH; dsimp only [setL, List.set] at hH
        refine g_rq Tryz.func41 (res_cell rfl (run_loadVarN (vs := [_, _, _, _]) lk_46 (cells_of hH.c0 rfl)) res_0) ?_
        exact ⟨⟨_, _, _, _⟩, rfl, by unfold Call.ok I; (try dsimp only); omega, (hH.sel (by repeat' (first | exact Sel.refl _ | refine Sel.skip _ ?_)))⟩
       ·refine g_seq ?_
        refine g_region (l := [0, 1]) rfl ?_
        refine o_v (lv rfl) rfl (r_eq rfl rfl) ?_
        refine vA (lv rfl) rfl rfl ?_
        refine g_if rfl (fun c6 => ?_) (fun c6 => ?_)
        ·refine g_region (l := [0, 1]) rfl ?_
         refine o_v (lv rfl) rfl (r_bld (ps := [_]) (cs := [_, _, _, _]) pl_46 rfl rfl) ?_
         refine o_st (lv rfl) rfl lk_46 rfl (vs := [_, _, _, _]) rfl rfl (by exact hH) rfl rfl (by simp) rfl ?_
         intro w hH; dsimp only [setL, List.set] at hH
         refine g_inBlock ?_
         refine g_seq ?_
         refine g_region (l := [0, 1]) rfl ?_
         refine o_ldN (lv rfl) rfl lk_46 rfl ⟨_, _, _, hH.c0, [_, _, _, _], rfl, rfl, ?_⟩
         refine o_st (lv rfl) rfl lk_46 rfl (vs := [_, _, _, _]) rfl rfl (by exact hH.p1) rfl rfl (by simp) rfl ?_
         intro w hH; dsimp only [setL, List.set] at hH
         refine g_rq Tryz.func41 (res_cell rfl (run_loadVarN (vs := [_, _, _, _]) lk_46 (cells_of hH.c0 rfl)) res_0) ?_
         exact ⟨⟨_, _, _, _⟩, rfl, by unfold Call.ok I; (try dsimp only); omega, (hH.sel (by repeat' (first | exact Sel.refl _ | refine Sel.skip _ ?_)))⟩
        ·refine g_seq ?_
         refine rD mixed hH fun w hH => ?_
         refine pF 0 (lv rfl) rfl fa_46_2 rfl ?_
         refine d_ld (i := 1) [2, 6, 8, 10, 12] (lv rfl) rfl lk_3 rfl (by kernel_rfl) ⟨_, _, _, hH.c2, _, rfl, ?_⟩
         refine pF 4 (lv rfl) rfl fa_46_3 rfl ?_
         refine d_ld (i := 5) [6, 8, 10, 12] (lv rfl) rfl lk_3 rfl (by kernel_rfl) ⟨_, _, _, hH.c2, _, rfl, ?_⟩
         refine pF 7 (lv rfl) rfl fa_46_0 rfl ?_
         refine d_l (j := 2) (by kernel_rfl) ?_
         refine o_call (lv rfl) rfl en_12 rfl (play_Mod _ _ (by exact hc.2.2.1) (by omega) (by omega) hH) ?_
         rintro _ w ⟨rfl, hH⟩
         refine ⟨(keeps_cons (fun _ => (by exact hH.c2)) (keeps_in rfl trivial)), ?_⟩
         refine d_p (i := 3) (lv rfl) rfl (fun w => (r_addI rfl rfl ?_)) (by kernel_rfl) ?_; omega
         refine d_l (j := 6) (by kernel_rfl) ?_
         refine o_call (lv rfl) rfl en_12 rfl (play_Mod _ _ (by exact hc.2.2.2) (by omega) (by omega) hH) ?_
         rintro _ w ⟨rfl, hH⟩
         refine ⟨(keeps_in rfl (keeps_in rfl trivial)), ?_⟩
         refine d_l (j := 8) (by kernel_rfl) ?_
         refine o_st (lv rfl) rfl lk_3 rfl (vs := [_]) rfl rfl (by exact hH) rfl rfl (by simp) rfl ?_
         intro w hH; dsimp only [setL, List.set] at hH
         refine ⟨(keeps_in rfl (keeps_in rfl trivial)), ?_⟩
         refine pF 9 (lv rfl) rfl fa_46_2 rfl ?_
         refine d_l (j := 10) (by kernel_rfl) ?_
         refine o_st (lv rfl) rfl lk_3 rfl (vs := [_]) rfl rfl (by exact hH) rfl rfl (by simp) rfl ?_
         intro w hH; dsimp only [setL, List.set] at hH
         refine ⟨(keeps_in rfl (keeps_in rfl trivial)), ?_⟩
         refine pF 11 (lv rfl) rfl fa_46_3 rfl ?_
         refine d_l (j := 12) (by kernel_rfl) ?_
         refine o_st (lv rfl) rfl lk_3 rfl (vs := [_]) rfl rfl (by exact hH) rfl rfl (by simp) rfl ?_
         intro w hH; dsimp only [setL, List.set] at hH
         refine ⟨(keeps_in rfl (keeps_in rfl trivial)), ?_⟩
         refine d_end (by kernel_rfl) ?_
         refine g_seq ?_
         refine g_region (l := [0, 1, 2, 3]) rfl ?_
         refine o_v (lv rfl) rfl (r_fa fa_46_2 rfl) ?_
         refine o_ld (lv rfl) rfl lk_3 rfl ⟨_, _, _, hH.c2, _, rfl, ?_⟩
         refine o_call (lv rfl) rfl en_12 rfl (play_Mod _ _ (by exact hc.2.2.1) (by omega) (by omega) hH) ?_
         rintro _ w ⟨rfl, hH⟩
         refine o_v (lv rfl) rfl (r_eq rfl rfl) ?_
         refine g_if rfl (fun c7 => ?_) (fun c7 => ?_)
         ·refine g_region (l := [0, 1, 2, 3, 4, 5]) rfl ?_
          refine o_v (lv rfl) rfl (r_fa fa_46_2 rfl) ?_
          refine o_ld (lv rfl) rfl lk_3 rfl ⟨_, _, _, hH.c2, _, rfl, ?_⟩
          refine o_call (lv rfl) rfl en_12 rfl (play_Mod _ _ (by exact hc.2.2.1) (by omega) (by omega) hH) ?_
          rintro _ w ⟨rfl, hH⟩
          refine o_v (lv rfl) rfl (r_addI rfl rfl ?_) ?_; omega
          refine o_v (lv rfl) rfl (r_fa fa_46_2 rfl) ?_
          refine o_st (lv rfl) rfl lk_3 rfl (vs := [_]) rfl rfl (by exact hH) rfl rfl (by simp) rfl ?_
          intro w hH; dsimp only [setL, List.set] at hH
          refine g_inBlock ?_
          refine g_seq ?_
          refine g_region (l := [0, 1]) rfl ?_
          refine o_ldN (lv rfl) rfl lk_46 rfl ⟨_, _, _, hH.c0, [_, _, _, _], rfl, rfl, ?_⟩
          refine o_st (lv rfl) rfl lk_46 rfl (vs := [_, _, _, _]) rfl rfl (by exact hH.p1) rfl rfl (by simp) rfl ?_
          intro w hH; dsimp only [setL, List.set] at hH
          refine g_rq Tryz.func41 (res_cell rfl (run_loadVarN (vs := [_, _, _, _]) lk_46 (cells_of hH.c0 rfl)) res_0) ?_
          exact ⟨⟨_, _, _, _⟩, rfl, by unfold Call.ok I; (try dsimp only); omega, (hH.sel (by repeat' (first | exact Sel.refl _ | refine Sel.skip _ ?_)))⟩
         ·refine g_skip ?_
          refine g_inBlock ?_
          refine g_seq ?_
          refine g_region (l := [0, 1]) rfl ?_
          refine o_ldN (lv rfl) rfl lk_46 rfl ⟨_, _, _, hH.c0, [_, _, _, _], rfl, rfl, ?_⟩
          refine o_st (lv rfl) rfl lk_46 rfl (vs := [_, _, _, _]) rfl rfl (by exact hH.p1) rfl rfl (by simp) rfl ?_
          intro w hH; dsimp only [setL, List.set] at hH
          refine g_rq Tryz.func41 (res_cell rfl (run_loadVarN (vs := [_, _, _, _]) lk_46 (cells_of hH.c0 rfl)) res_0) ?_
          exact ⟨⟨_, _, _, _⟩, rfl, by unfold Call.ok I; (try dsimp only); omega, (hH.sel (by repeat' (first | exact Sel.refl _ | refine Sel.skip _ ?_)))⟩
theorem play_Ready (n : Int) (hn : n ≤ 100) (hH : Holds R F w) :
    Ret Tryz.prog 40 [.int .i64 n] w fun x w' => ∃ l : List Call, (∀ c ∈ l, c.ok) ∧ l.length ≤ 100 ∧ Holds R (Vec 46 4 encC x l :: F) w' := by
  refine ret_of_g (n := 21) Tryz.func40 rfl rfl (by simp) ?_
  refine g_seq ?_
  refine g_region (l := [0]) rfl ?_
  refine vA (lv rfl) rfl rfl ?_
  refine g_seq ?_
  refine g_region (l := [0]) rfl ?_
  refine vA (lv rfl) rfl rfl ?_
  refine g_seq ?_
  refine g_seq ?_
  refine g_region (l := [0]) rfl ?_
  refine vA (lv rfl) rfl rfl ?_
  refine g_block ?_
  refine g_loop (fun mm e w => ∃ (k : Nat) (e0 : Env) (l : List Call) (v : Value), k ≤ 100 ∧ mm = 100 - k ∧ (∀ c ∈ l, c.ok) ∧ l.length ≤ k ∧ e = J e0 [(0, .int .i64 n), (3, v), (4, .int .i64 k)] ∧ Holds R (Vec 46 4 encC v l :: F) w) 100 ⟨0, _, [], _, by omega, by omega, by simp, by simp, (J_self (has_s rfl (has_s rfl (has_s rfl has_0)))), Holds.vnil _ _ _ (hH.sel (by repeat' (first | exact Sel.refl _)))⟩ ?_
  rintro mm _ w ⟨k, e0, l, v, hk, hm, hl, hll, rfl, hH⟩ hback
  obtain ⟨a, cap, rfl, -⟩ := hH.rd.len
  refine g_seq ?_
  refine g_seq ?_
  refine g_region (l := [0, 1, 2]) rfl ?_
  refine vM (lv rfl) rfl rfl ?_
  refine vM (lv rfl) rfl rfl ?_
  refine o_v (lv rfl) rfl (r_lt rfl rfl) ?_
  refine g_if rfl (fun c0 => ?_) (fun c0 => ?_)
  ·refine g_skip ?_
   refine g_seq ?_
   refine g_block ?_
   refine g_region (l := [0, 1, 2, 3, 4, 5, 6, 7, 8, 9, 10]) rfl ?_
   refine vM (lv rfl) rfl rfl ?_
   refine vM (lv rfl) rfl rfl ?_
   refine vM (lv rfl) rfl rfl ?_
   refine o_v (lv rfl) rfl (r_addI rfl rfl ?_) ?_; omega
   refine vM (lv rfl) rfl rfl ?_
   refine o_v (lv rfl) rfl (r_remI rfl rfl ?_ ?_) ?_; omega; omega
   refine o_v (lv rfl) rfl (r_addI rfl rfl ?_) ?_; omega
   refine o_v (lv rfl) rfl (r_bld (ps := [_, _, _, _]) (cs := [_, _, _, _]) pl_46 rfl rfl) ?_
   refine o_bs (lv rfl) rfl el_39 ze_46 rfl rfl rfl (ps := [_]) rfl rfl rfl (cs := [_, _, _, _]) rfl hH ?_
   intro b18 w hH
   refine o_app (enc := encC) (lv rfl) rfl el_39 ze_46 rfl (fun _ => rfl) (fun _ => rfl) rfl rfl (by exact hH.p1) (rd_of_cel [(⟨1, (k : Int), 1 + (k : Int), 2 + (k : Int) % 2⟩ : Call)] (by exact hH.c0) rfl) (by simp; omega) (by simp; omega) ?_
   intro v19 w hH; obtain ⟨a19, k19, rfl, -⟩ := hH.rd.len
   refine vA (lv rfl) rfl rfl ?_
   refine g_inBlock ?_
   refine g_region (l := [0, 1, 2]) rfl ?_
   refine vM (lv rfl) rfl rfl ?_
   refine o_v (lv rfl) rfl (r_addI rfl rfl ?_) ?_; omega
   refine vA (lv rfl) rfl rfl ?_
   exact hback _ _ _ ⟨k + 1, _, l ++ [(⟨1, (k : Int), 1 + (k : Int), 2 + (k : Int) % 2⟩ : Call)], _, by omega, rfl, fun c hc => by
     rcases List.mem_append.1 hc with h | h
     ·exact hl c h
     ·rw [List.mem_singleton.1 h]; unfold Call.ok I; (try dsimp only); omega, by simp; omega, (J_self (has_s rfl (has_s rfl (has_s rfl has_0)))), (hH.sel (by repeat' (first | exact Sel.refl _ | refine Sel.q0 ?_ | refine Sel.skip _ ?_)))⟩ (by omega)
  ·refine g_exit rfl ?_
   refine g_seq ?_
   refine g_region (l := [0, 1]) rfl ?_
   refine vM (lv rfl) rfl rfl ?_
   refine vA (lv rfl) rfl rfl ?_
   refine g_rq Tryz.func40 (res_t rfl res_0) ?_
   exact ⟨l, hl, by omega, (hH.sel (by repeat' (first | exact Sel.refl _)))⟩
end
end Go.Proofs.YtkdbglfdgeldpaaGreat
