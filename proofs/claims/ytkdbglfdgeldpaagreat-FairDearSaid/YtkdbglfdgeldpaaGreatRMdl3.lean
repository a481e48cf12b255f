/- Contracts of the reference's model: register, batch, Do. Condition: numbers of 64 bits. -/
import Derived.Test.YtkdbglfdgeldpaaGreatRMdl2
namespace Go.Proofs.YtkdbglfdgeldpaaGreat
open Go.Lt
section
variable {R : Base} {F : List HP} {w : World}
theorem many_S (m : Mdl) (k : Nat) (l : List Packet) : m.many (k + 1) l = if m.one.1.e ≠ 0 then (⟨m.one.1.e, l ++ m.one.1.packets, 0, 0⟩, m.one.2) else m.one.2.many k (l ++ m.one.1.packets) := by
  conv => lhs; unfold Mdl.many
theorem r09_batch {b : Nat} {m : Mdl} (hok : m.s.ok) (hs : 0 ≤ m.served ∧ m.served ≤ 2305843009213693952) (n : Int) (hH : Holds R (RMdlC b m :: F) w) :
    Ret Tryz.prog 77 [.pointer (some ⟨b, 0, none⟩), .int .i64 n] w fun v w' => ∃ pv, v = vR (m.batch n).1 pv ∧ Holds R (Vec 54 3 encP pv (m.batch n).1.packets :: RMdlC b (m.batch n).2 :: F) w' := by
  refine ret_of_g (n := 38) Tryz.func77 rfl rfl (by simp) ?_
  refine g_seq ?_
  refine g_region (l := [0]) rfl ?_
  refine o_al (lv rfl) rfl ze_57 hH ?_
  intro b4 w hH
  refine g_seq ?_
  refine g_seq ?_
  refine g_region (l := [0, 1, 2, 3, 4, 5]) rfl ?_
  refine vM (lv rfl) rfl rfl ?_
  refine o_v (lv rfl) rfl (r_lt rfl rfl) ?_
  refine vM (lv rfl) rfl rfl ?_
  refine s_ops (fun g1_2 => ?_) (fun g1_2 => ?_)
  ·refine o_no rfl rfl rfl rfl ?_
   refine o_no rfl rfl rfl rfl ?_
   refine o_v (lv rfl) rfl (r_pickT rfl rfl) ?_
   refine g_true rfl ?_
   refine g_seq ?_
   refine g_region (l := [0, 1]) rfl ?_
   refine o_call (lv rfl) rfl en_72 rfl (r09_code 1 hH) ?_
   rintro _ w ⟨rfl, hH⟩
   refine o_st (lv rfl) rfl lk_57 rfl (vs := [_, _, _, _]) rfl rfl (by exact hH) rfl rfl (by simp) rfl ?_
   intro w hH; dsimp only [setL, List.set] at hH
   refine g_rq Tryz.func77 (res_cell rfl (run_loadVarN (vs := [_, _, _, _]) lk_57 (cells_of hH.c0 rfl)) res_0) ?_
   (have hn : n < 1 ∨ 16 < n := by omega
    rw [show m.batch n = (code 1, m) from by unfold Mdl.batch; rw [if_pos hn]]
    exact ⟨_, rfl, Holds.vnil _ _ _ (hH.sel (by repeat' (first | exact Sel.refl _ | refine Sel.q1 ?_ | refine Sel.skip _ ?_)))⟩)
  ·refine vM (lvg rfl rfl rfl) rfl rfl ?_
   refine o_v (lvg rfl rfl rfl) rfl (r_gt rfl rfl) ?_
   refine o_v (lv rfl) rfl (r_pickF rfl rfl) ?_
   refine g_if rfl (fun c0 => ?_) (fun c0 => ?_)
   ·refine g_seq ?_
    refine g_region (l := [0, 1]) rfl ?_
    refine o_call (lv rfl) rfl en_72 rfl (r09_code 1 hH) ?_
    rintro _ w ⟨rfl, hH⟩
    refine o_st (lv rfl) rfl lk_57 rfl (vs := [_, _, _, _]) rfl rfl (by exact hH) rfl rfl (by simp) rfl ?_
    intro w hH; dsimp only [setL, List.set] at hH
    refine g_rq Tryz.func77 (res_cell rfl (run_loadVarN (vs := [_, _, _, _]) lk_57 (cells_of hH.c0 rfl)) res_0) ?_
    (have hn : n < 1 ∨ 16 < n := by omega
     rw [show m.batch n = (code 1, m) from by unfold Mdl.batch; rw [if_pos hn]]
     exact ⟨_, rfl, Holds.vnil _ _ _ (hH.sel (by repeat' (first | exact Sel.refl _ | refine Sel.q1 ?_ | refine Sel.skip _ ?_)))⟩)
   ·have hn : ¬ (n < 1 ∨ 16 < n) := by omega
    refine g_skip ?_
    refine g_seq ?_
    refine g_region (l := [0, 1, 2]) rfl ?_
    refine o_v (lv rfl) rfl (r_bld (ps := []) (cs := [_, _, _, _]) pl_57 rfl rfl) ?_
    refine o_al (lv rfl) rfl ze_57 hH ?_
    intro b5 w hH
    refine o_st (lv rfl) rfl lk_57 rfl (vs := [_, _, _, _]) rfl rfl (by exact hH) rfl rfl (by simp) rfl ?_
    intro w hH; dsimp only [setL, List.set] at hH
    refine g_seq ?_
    refine g_seq ?_
    refine g_region (l := [0]) rfl ?_
    refine vA (lv rfl) rfl rfl ?_
    refine g_block ?_
    refine g_loop (fun mm e w => ∃ (k : Nat) (e0 : Env) (er : Int) (l : List Packet) (mk : Mdl) (pv : Value), k ≤ n.toNat ∧ mm = n.toNat - k ∧ mk.s.ok ∧ 0 ≤ mk.served ∧ mk.served ≤ m.served + k ∧ l.length ≤ k ∧ (er = 0 → m.many n.toNat [] = mk.many (n.toNat - k) l) ∧ (er ≠ 0 → m.many n.toNat [] = (⟨er, l, 0, 0⟩, mk)) ∧
        e = J e0 [(0, .pointer (some ⟨b, 0, none⟩)), (1, .int .i64 n), (4, .pointer (some ⟨b4, 0, none⟩)), (5, .pointer (some ⟨b5, 0, none⟩)), (6, .int .i64 k)] ∧
        Holds R (cel b5 [.int .i64 er, pv, .int .i64 0, .int .u64 0] 57 :: Vec 54 3 encP pv l :: RMdlC b mk :: cel b4 [.int .i64 0, .slice none 0 0, .int .i64 0, .int .u64 0] 57 :: F) w) n.toNat ⟨0, _, 0, [], m, _, by omega, by omega, hok, by omega, by omega, by simp, fun _ => rfl, fun h => absurd rfl h, (J_self (has_s rfl (has_s rfl (has_s rfl (has_s rfl (has_s rfl has_0)))))), Holds.p1 (Holds.vnil _ _ _ (hH.sel (by repeat' (first | exact Sel.refl _ | refine Sel.q0 ?_ | refine Sel.q1 ?_))))⟩ ?_
    rintro mm _ w ⟨k, e0, er, l, mk, pv, hk, hm, hmk, hs0, hs1, hll, her0, her1, rfl, hH⟩ hback
    obtain ⟨a, cap, rfl, hc⟩ := hH.p1.rd.len
    refine g_seq ?_
    refine g_seq ?_
    refine g_region (l := [0, 1, 2, 3, 4, 5, 6, 7]) rfl ?_
    refine vM (lv rfl) rfl rfl ?_
    refine vM (lv rfl) rfl rfl ?_
    refine o_v (lv rfl) rfl (r_lt rfl rfl) ?_
    refine vM (lv rfl) rfl rfl ?_
    refine s_ops (fun g5_3 => ?_) (fun g5_3 => ?_)
    ·refine o_v (lvg rfl rfl rfl) rfl (r_fa fa_57_0 rfl) ?_
     refine o_ld (lvg rfl rfl rfl) rfl lk_55 rfl ⟨_, _, _, hH.c0, _, rfl, ?_⟩
     refine o_v (lvg rfl rfl rfl) rfl (r_eq rfl rfl) ?_
     refine o_v (lv rfl) rfl (r_pickT rfl rfl) ?_
     refine g_if rfl (fun c1 => ?_) (fun c1 => ?_)
     ·refine g_skip ?_
      refine g_seq ?_
      refine g_block ?_
      refine g_seq ?_
      refine g_region (l := [0, 1, 2, 3]) rfl ?_
      refine vM (lv rfl) rfl rfl ?_
      refine o_call (lv rfl) rfl en_76 rfl (r09_one hmk ⟨hs0, by omega⟩ hH.p2) ?_
      rintro _ w ⟨pv2, rfl, hH⟩
      obtain ⟨a2, cap2, rfl, -⟩ := hH.rd.len; have hone := Mdl.one_ok hmk
      refine o_al (lv rfl) rfl ze_57 hH ?_
      intro b7 w hH
      refine o_st (lv rfl) rfl lk_57 rfl (vs := [_, _, _, _]) rfl rfl (by exact hH) rfl rfl (by simp) rfl ?_
      intro w hH; dsimp only [setL, List.set] at hH
      refine g_seq ?_
      refine g_region (l := [0, 1, 2, 3]) rfl ?_
      refine o_v (lv rfl) rfl (r_fa fa_57_0 rfl) ?_
      refine o_ld (lv rfl) rfl lk_55 rfl ⟨_, _, _, hH.c0, _, rfl, ?_⟩
      refine o_v (lv rfl) rfl (r_fa fa_57_0 rfl) ?_
      refine o_st (lv rfl) rfl lk_55 rfl (vs := [_]) rfl rfl (by exact hH.p3) rfl rfl (by simp) rfl ?_
      intro w hH; dsimp only [setL, List.set] at hH
      refine g_region (l := [0, 1, 2, 3, 4, 5, 6]) rfl ?_
      refine o_v (lv rfl) rfl (r_fa fa_57_1 rfl) ?_
      refine o_ld (lv rfl) rfl lk_48 rfl ⟨_, _, _, hH.c0, _, rfl, ?_⟩
      refine o_v (lv rfl) rfl (r_fa fa_57_1 rfl) ?_
      refine o_ld (lv rfl) rfl lk_48 rfl ⟨_, _, _, hH.c1, _, rfl, ?_⟩
      refine o_app (enc := encP) (lv rfl) rfl el_48 ze_54 rfl (fun _ => rfl) (fun _ => rfl) rfl rfl (by exact hH.p4) (by exact hH.p2.rd) (by omega) (by omega) ?_
      intro v35 w hH; obtain ⟨a35, k35, rfl, -⟩ := hH.rd.len
      refine o_v (lv rfl) rfl (r_fa fa_57_1 rfl) ?_
      refine o_st (lv rfl) rfl lk_48 rfl (vs := [_]) rfl rfl (by exact hH.p1) rfl rfl (by simp) rfl ?_
      intro w hH; dsimp only [setL, List.set] at hH
      refine g_inBlock ?_
      refine g_region (l := [0, 1, 2]) rfl ?_
      refine vM (lv rfl) rfl rfl ?_
      refine o_v (lv rfl) rfl (r_addI rfl rfl ?_) ?_; omega
      refine vA (lv rfl) rfl rfl ?_
      have hst := many_S mk (n.toNat - (k + 1)) l
      rw [show n.toNat - (k + 1) + 1 = n.toNat - k from by omega] at hst
      have her := her0 c1
      exact hback _ _ _ ⟨k + 1, _, mk.one.1.e, l ++ mk.one.1.packets, mk.one.2, _, by omega, rfl, hone.1, by omega, by omega, by rw [List.length_append]; omega, fun h => by rw [her, hst, if_neg (by simpa using h)], fun h => by rw [her, hst, if_pos h], (J_self (has_s rfl (has_s rfl (has_s rfl (has_s rfl (has_s rfl has_0)))))), (hH.sel (by repeat' (first | exact Sel.refl _ | refine Sel.q0 ?_ | refine Sel.q2 ?_ | refine Sel.skip _ ?_)))⟩ (by omega)
     ·refine g_exit rfl ?_
      refine g_seq ?_
      refine g_region (l := [0, 1]) rfl ?_
      refine o_ldN (lv rfl) rfl lk_57 rfl ⟨_, _, _, hH.c0, [_, _, _, _], rfl, rfl, ?_⟩
      refine o_st (lv rfl) rfl lk_57 rfl (vs := [_, _, _, _]) rfl rfl (by exact hH.p3) rfl rfl (by simp) rfl ?_
      intro w hH; dsimp only [setL, List.set] at hH
      refine g_rq Tryz.func77 (res_cell rfl (run_loadVarN (vs := [_, _, _, _]) lk_57 (cells_of hH.c0 rfl)) res_0) ?_
      (have hfin : m.many n.toNat [] = (⟨er, l, 0, 0⟩, mk) := by
         by_cases h : er = 0
         ·have hkn : k = n.toNat := by omega
          rw [her0 h, hkn, Nat.sub_self, h]; rfl
         ·exact her1 h
       rw [show m.batch n = (⟨er, l, 0, 0⟩, mk) from by unfold Mdl.batch; rw [if_neg hn, hfin]]
       exact ⟨_, rfl, (hH.sel (by repeat' (first | exact Sel.refl _ | refine Sel.q2 ?_ | refine Sel.skip _ ?_)))⟩)
    ·refine o_no rfl rfl rfl rfl ?_
     refine o_no rfl rfl rfl rfl ?_
     refine o_no rfl rfl rfl rfl ?_
     refine o_v (lv rfl) rfl (r_pickF rfl rfl) ?_
     refine g_false rfl ?_
     refine g_exit rfl ?_
     refine g_seq ?_
     refine g_region (l := [0, 1]) rfl ?_
     refine o_ldN (lv rfl) rfl lk_57 rfl ⟨_, _, _, hH.c0, [_, _, _, _], rfl, rfl, ?_⟩
     refine o_st (lv rfl) rfl lk_57 rfl (vs := [_, _, _, _]) rfl rfl (by exact hH.p3) rfl rfl (by simp) rfl ?_
     intro w hH; dsimp only [setL, List.set] at hH
     refine g_rq Tryz.func77 (res_cell rfl (run_loadVarN (vs := [_, _, _, _]) lk_57 (cells_of hH.c0 rfl)) res_0) ?_
     (have hfin : m.many n.toNat [] = (⟨er, l, 0, 0⟩, mk) := by
        by_cases h : er = 0
        ·have hkn : k = n.toNat := by omega
         rw [her0 h, hkn, Nat.sub_self, h]; rfl
        ·exact her1 h
      rw [show m.batch n = (⟨er, l, 0, 0⟩, mk) from by unfold Mdl.batch; rw [if_neg hn, hfin]]
      exact ⟨_, rfl, (hH.sel (by repeat' (first | exact Sel.refl _ | refine Sel.q2 ?_ | refine Sel.skip _ ?_)))⟩)
theorem mates_take {Fl : Fs} {k : Nat} {x : Int × Flw} (hx : Fl[k]? = some x) (sh id : Int) : mates (Fl.take (k + 1)) sh id = mates (Fl.take k) sh id + (if x.1 % sh = id % sh then 1 else 0) := by
  have hk := (List.getElem?_eq_some_iff.1 hx).1
  unfold mates
  rw [List.take_add_one, hx]
  simp only [Option.toList_some, List.filter_append, List.length_append, List.filter_cons, List.filter_nil]
  split
  ·rename_i h; rw [beq_iff_eq] at h; simp [h]
  ·rename_i h; rw [beq_iff_eq] at h; simp [h]
theorem mates_le (Fl : Fs) (sh id : Int) : 0 ≤ mates Fl sh id ∧ mates Fl sh id ≤ Fl.length := by
  unfold mates
  have := List.length_filter_le (fun x : Int × Flw => x.1 % sh == id % sh) Fl
  omega
theorem r09_register {b : Nat} {m : Mdl} (hcfg : cfgOk m.c) (hok : m.s.ok) (hfl : m.s.F.length < 2147483648) (c : Call) (hc : c.ok) (hH : Holds R (RMdlC b m :: F) w) :
    Ret Tryz.prog 73 [.pointer (some ⟨b, 0, none⟩), vC c] w fun v w' => v = .int .i64 (m.register c).1 ∧ Holds R (RMdlC b (m.register c).2 :: F) w' := by
  obtain ⟨sb, hH⟩ := RMdlC.op hH
  have hcfg' := hcfg; unfold cfgOk at hcfg'
  have hc' := hc; unfold Call.ok I at hc'
  refine ret_of_g (n := 115) Tryz.func73 rfl rfl (by simp) ?_
  refine g_seq ?_
  refine g_region (l := [0, 1]) rfl ?_
  refine o_box (lv rfl) rfl (cs := [_, _, _, _]) rfl rfl hH ?_
  intro b3 w hH
  refine vA (lv rfl) rfl rfl ?_
  refine g_seq ?_
  refine g_block ?_
  refine g_seq ?_
  refine g_region (l := [0, 1, 2, 3, 4, 5, 6, 7, 8]) rfl ?_
  refine o_v (lv rfl) rfl (r_fa fa_46_1 rfl) ?_
  refine o_ld (lv rfl) rfl lk_3 rfl ⟨_, _, _, hH.c0, _, rfl, ?_⟩
  refine o_v (lv rfl) rfl (r_lt rfl rfl) ?_
  refine vM (lv rfl) rfl rfl ?_
  refine s_ops (fun g1_3 => ?_) (fun g1_3 => ?_)
  ·refine o_no rfl rfl rfl rfl ?_
   refine o_no rfl rfl rfl rfl ?_
   refine o_no rfl rfl rfl rfl ?_
   refine o_v (lv rfl) rfl (r_pickT rfl rfl) ?_
   refine vA (lv rfl) rfl rfl ?_
   refine g_true rfl ?_
   refine g_seq ?_
   refine g_region (l := [0]) rfl ?_
   refine vA (lv rfl) rfl rfl ?_
   refine g_rq Tryz.func73 (res_t rfl res_0) ?_
   (rw [show m.register c = (1, m) from by unfold Mdl.register; rw [if_pos (by omega)]]; exact ⟨rfl, RMdlC.mk (hH.sel (by repeat' (first | exact Sel.refl _ | refine Sel.q1 ?_ | refine Sel.skip _ ?_)))⟩)
  ·refine o_v (lvg rfl rfl rfl) rfl (r_fa fa_46_1 rfl) ?_
   refine o_ld (lvg rfl rfl rfl) rfl lk_3 rfl ⟨_, _, _, hH.c0, _, rfl, ?_⟩
   refine o_v (lvg rfl rfl rfl) rfl (r_gt rfl rfl) ?_
   refine o_v (lv rfl) rfl (r_pickF rfl rfl) ?_
   refine vA (lv rfl) rfl rfl ?_
   refine g_if rfl (fun c0 => ?_) (fun c0 => ?_)
   ·refine g_seq ?_
    refine g_region (l := [0]) rfl ?_
    refine vA (lv rfl) rfl rfl ?_
    refine g_rq Tryz.func73 (res_t rfl res_0) ?_
    (rw [show m.register c = (1, m) from by unfold Mdl.register; rw [if_pos (by omega)]]; exact ⟨rfl, RMdlC.mk (hH.sel (by repeat' (first | exact Sel.refl _ | refine Sel.q1 ?_ | refine Sel.skip _ ?_)))⟩)
   ·refine g_seq ?_
    refine g_region (l := [0, 1, 2, 3, 4, 5, 6, 7, 8]) rfl ?_
    refine o_v (lv rfl) rfl (r_fa fa_46_2 rfl) ?_
    refine o_ld (lv rfl) rfl lk_3 rfl ⟨_, _, _, hH.c0, _, rfl, ?_⟩
    refine o_v (lv rfl) rfl (r_lt rfl rfl) ?_
    refine vM (lv rfl) rfl rfl ?_
    refine s_ops (fun g3_3 => ?_) (fun g3_3 => ?_)
    ·refine o_no rfl rfl rfl rfl ?_
     refine o_no rfl rfl rfl rfl ?_
     refine o_no rfl rfl rfl rfl ?_
     refine o_v (lv rfl) rfl (r_pickT rfl rfl) ?_
     refine vA (lv rfl) rfl rfl ?_
     refine g_true rfl ?_
     refine g_seq ?_
     refine g_region (l := [0]) rfl ?_
     refine vA (lv rfl) rfl rfl ?_
     refine g_rq Tryz.func73 (res_t rfl res_0) ?_
     (rw [show m.register c = (4, m) from by unfold Mdl.register; rw [if_neg (by omega), if_pos (by omega)]]; exact ⟨rfl, RMdlC.mk (hH.sel (by repeat' (first | exact Sel.refl _ | refine Sel.q1 ?_ | refine Sel.skip _ ?_)))⟩)
    ·refine o_v (lvg rfl rfl rfl) rfl (r_fa fa_46_2 rfl) ?_
     refine o_ld (lvg rfl rfl rfl) rfl lk_3 rfl ⟨_, _, _, hH.c0, _, rfl, ?_⟩
     refine o_v (lvg rfl rfl rfl) rfl (r_gt rfl rfl) ?_
     refine o_v (lv rfl) rfl (r_pickF rfl rfl) ?_
     refine vA (lv rfl) rfl rfl ?_
     refine g_if rfl (fun c1 => ?_) (fun c1 => ?_)
     ·refine g_seq ?_
      refine g_region (l := [0]) rfl ?_
      refine vA (lv rfl) rfl rfl ?_
      refine g_rq Tryz.func73 (res_t rfl res_0) ?_
      (rw [show m.register c = (4, m) from by unfold Mdl.register; rw [if_neg (by omega), if_pos (by omega)]]; exact ⟨rfl, RMdlC.mk (hH.sel (by repeat' (first | exact Sel.refl _ | refine Sel.q1 ?_ | refine Sel.skip _ ?_)))⟩)
     ·refine g_seq ?_
      refine g_region (l := [0, 1, 2, 3, 4, 5, 6, 7, 8]) rfl ?_
      refine o_v (lv rfl) rfl (r_fa fa_46_3 rfl) ?_
      refine o_ld (lv rfl) rfl lk_3 rfl ⟨_, _, _, hH.c0, _, rfl, ?_⟩
      refine o_v (lv rfl) rfl (r_lt rfl rfl) ?_
      refine vM (lv rfl) rfl rfl ?_
      refine s_ops (fun g5_3 => ?_) (fun g5_3 => ?_)
      ·refine o_no rfl rfl rfl rfl ?_
       refine o_no rfl rfl rfl rfl ?_
       refine o_no rfl rfl rfl rfl ?_
       refine o_v (lv rfl) rfl (r_pickT rfl rfl) ?_
       refine vA (lv rfl) rfl rfl ?_
       refine g_true rfl ?_
       refine g_seq ?_
       refine g_region (l := [0]) rfl ?_
       refine vA (lv rfl) rfl rfl ?_
       refine g_rq Tryz.func73 (res_t rfl res_0) ?_
       (rw [show m.register c = (1, m) from by unfold Mdl.register; rw [if_neg (by omega), if_neg (by omega), if_pos (by omega)]]; exact ⟨rfl, RMdlC.mk (hH.sel (by repeat' (first | exact Sel.refl _ | refine Sel.q1 ?_ | refine Sel.skip _ ?_)))⟩)
      ·refine o_v (lvg rfl rfl rfl) rfl (r_fa fa_46_3 rfl) ?_
       refine o_ld (lvg rfl rfl rfl) rfl lk_3 rfl ⟨_, _, _, hH.c0, _, rfl, ?_⟩
       refine o_v (lvg rfl rfl rfl) rfl (r_gt rfl rfl) ?_
       refine o_v (lv rfl) rfl (r_pickF rfl rfl) ?_
       refine vA (lv rfl) rfl rfl ?_
       refine g_if rfl (fun c2 => ?_) (fun c2 => ?_)
       ·refine g_seq ?_
        refine g_region (l := [0]) rfl ?_
        refine vA (lv rfl) rfl rfl ?_
        refine g_rq Tryz.func73 (res_t rfl res_0) ?_
        (rw [show m.register c = (1, m) from by unfold Mdl.register; rw [if_neg (by omega), if_neg (by omega), if_pos (by omega)]]; exact ⟨rfl, RMdlC.mk (hH.sel (by repeat' (first | exact Sel.refl _ | refine Sel.q1 ?_ | refine Sel.skip _ ?_)))⟩)
       ·refine g_seq ?_
        refine rD mixed hH fun w hH => ?_
        refine pM 0 (lv rfl) rfl rfl ?_
        refine pN 1 (lv rfl) rfl rfl ?_
        refine pF 2 (lv rfl) rfl fa_70_1 rfl ?_
        refine d_ld (i := 3) [6] (lv rfl) rfl lk_68 rfl (by kernel_rfl) ⟨_, _, _, hH.c1, _, rfl, ?_⟩
        refine pF 4 (lv rfl) rfl fa_46_1 rfl ?_
        refine d_ld (i := 5) [6] (lv rfl) rfl lk_3 rfl (by kernel_rfl) ⟨_, _, _, hH.c0, _, rfl, ?_⟩
        refine d_l (j := 6) (by kernel_rfl) ?_
        refine o_call (lv rfl) rfl en_63 rfl (r09_At hok c.flow hH.p2) ?_
        rintro _ w ⟨rfl, hH⟩
        refine ⟨(keeps_in rfl (keeps_in rfl trivial)), ?_⟩
        refine d_p (i := 7) (lv rfl) rfl (fun w => (r_ge rfl rfl)) (by kernel_rfl) ?_
        refine pA 8 (lv rfl) rfl rfl ?_
        refine d_end (by kernel_rfl) ?_
        refine g_if rfl (fun c3 => ?_) (fun c3 => ?_)
        ·refine g_seq ?_
         refine g_region (l := [0]) rfl ?_
         refine vA (lv rfl) rfl rfl ?_
         refine g_rq Tryz.func73 (res_t rfl res_0) ?_
         (rw [show m.register c = (6, m) from by unfold Mdl.register; rw [if_neg (by omega), if_neg (by omega), if_neg (by omega), if_pos (r09_at_some.2 c3)]]; exact ⟨rfl, RMdlC.mk (hH.sel (by repeat' (first | exact Sel.refl _ | refine Sel.q0 ?_ | refine Sel.q2 ?_ | refine Sel.skip _ ?_)))⟩)
        ·have hno : m.s.at c.flow = none := by
           cases h : m.s.at c.flow with
           | none => rfl
           | some k => rw [h] at c3; simp [atI] at c3
         obtain ⟨fv, ps, hl, hH⟩ := RSfqC.op hH
         obtain ⟨a, cap, rfl, hcap⟩ := hH.p1.rd.len
         refine g_skip ?_
         refine g_inBlock ?_
         refine g_seq ?_
         refine g_region (l := [0]) rfl ?_
         refine vA (lv rfl) rfl rfl ?_
         refine g_seq ?_
         refine g_seq ?_
         refine g_region (l := [0]) rfl ?_
         refine vA (lv rfl) rfl rfl ?_
         refine g_block ?_
         refine g_loop (fun mm e w => ∃ (k : Nat) (e0 : Env), k ≤ m.s.F.length ∧ mm = m.s.F.length - k ∧ e = J e0 [(0, .pointer (some ⟨b, 0, none⟩)), (3, .pointer (some ⟨b3, 0, none⟩)), (5, .int .i64 (mates (m.s.F.take k) m.c.shards c.flow)), (6, .int .i64 k)] ∧
             Holds R (cel sb [.slice a ps.length cap, .int .u64 m.s.v, .int .u64 m.s.most] 67 :: Vec 124 1 encPtr (.slice a ps.length cap) ps :: All (rfl_ ps m.s.F) :: cel b3 [.int .i64 c.op, .int .i64 c.flow, .int .i64 c.a, .int .i64 c.b] 46 ::
               cel b [.int .i64 m.c.shards, .int .i64 m.c.slots, .int .i64 m.c.workers, .int .i64 m.c.width, .int .u64 m.c.unit, .pointer (some ⟨sb, 0, none⟩), .int .i64 m.served] 70 :: F) w) m.s.F.length ⟨0, _, by omega, by omega, (J_self (has_s rfl (has_s rfl (has_s rfl (has_s rfl has_0))))), (hH.sel (by repeat' (first | exact Sel.refl _)))⟩ ?_
         rintro mm _ w ⟨k, e0, hk, hm, rfl, hH⟩ hback
         refine g_seq ?_
         refine g_seq ?_
         refine g_region (l := [0, 1, 2, 3, 4, 5, 6, 7, 8, 9]) rfl ?_
         refine vM (lv rfl) rfl rfl ?_
         refine vM (lv rfl) rfl rfl ?_
         refine o_v (lv rfl) rfl (r_nil rfl) ?_
         refine o_v (lv rfl) rfl (r_fa fa_70_1 rfl) ?_
         refine o_ld (lv rfl) rfl lk_68 rfl ⟨_, _, _, hH.c4, _, rfl, ?_⟩
         refine o_v (lv rfl) rfl (r_nil rfl) ?_
         refine o_v (lv rfl) rfl (r_fa fa_67_0 rfl) ?_
         refine o_ld (lv rfl) rfl lk_65 rfl ⟨_, _, _, hH.c0, _, rfl, ?_⟩
         refine o_v (lv rfl) rfl (r_len el_65 rfl) ?_
         refine o_v (lv rfl) rfl (r_lt rfl rfl) ?_
         refine g_if rfl (fun c4 => ?_) (fun c4 => ?_)
         ·have hkl : k < m.s.F.length := by omega
          obtain ⟨x, hx⟩ : ∃ x, m.s.F[k]? = some x := ⟨_, List.getElem?_eq_getElem hkl⟩
          obtain ⟨b1, hb1, a1, cap1, hblk⟩ := rflow_at hl hH.p2 hx
          obtain ⟨bp, op_, cs0, T0, rfl, -, -⟩ := Rd.el (i := k) hkPtr hH.p1.rd hb1
          obtain ⟨cs, T, hbp, hcp⟩ := pel hH.p1 hb1
          have hxn := (Sq.flw_ok hok hx).1; unfold Nm at hxn
          have hmt := mates_take hx m.c.shards c.flow
          have hml := mates_le (m.s.F.take k) m.c.shards c.flow
          rw [List.length_take] at hml
          refine g_skip ?_
          refine g_seq ?_
          refine g_block ?_
          refine g_seq ?_
          refine g_regionD mixed ?_
          rintro w1 rfl; replace hH := hH.drew (n := w.drawn + 1); replace hblk := drewf (n := w.drawn + 1) hblk; replace hbp := drewf (n := w.drawn + 1) hbp; generalize hw1 : { w with drawn := w.drawn + 1 } = w at hH ⊢; rw [hw1] at hblk; rw [hw1] at hbp; clear hw1
          refine pM 0 (lv rfl) rfl rfl ?_
          refine pN 1 (lv rfl) rfl rfl ?_
          refine pF 2 (lv rfl) rfl fa_70_1 rfl ?_
          refine d_ld (i := 3) [] (lv rfl) rfl lk_68 rfl (by kernel_rfl) ⟨_, _, _, hH.c4, _, rfl, ?_⟩
          refine pN 4 (lv rfl) rfl rfl ?_
          refine pF 5 (lv rfl) rfl fa_67_0 rfl ?_
          refine d_ld (i := 6) [] (lv rfl) rfl lk_65 rfl (by kernel_rfl) ⟨_, _, _, hH.c0, _, rfl, ?_⟩
          refine pM 7 (lv rfl) rfl rfl ?_
          refine d_p (i := 8) (lv rfl) rfl (fun w => (r_ia el_65 rfl rfl ?_ ?_)) (by kernel_rfl) ?_; omega; omega
          refine d_ld (i := 9) [] (lv rfl) rfl lk_124 rfl (by kernel_rfl) ⟨_, _, _, hbp, _, hcp, ?_⟩
          refine pN 10 (lv rfl) rfl rfl ?_
          refine pF 11 (lv rfl) rfl fa_123_0 rfl ?_
          refine d_ld (i := 12) [] (lv rfl) rfl lk_3 rfl (by kernel_rfl) ⟨_, _, _, hblk, _, rfl, ?_⟩
          refine pM 13 (lv rfl) rfl rfl ?_
          refine pN 14 (lv rfl) rfl rfl ?_
          refine pF 15 (lv rfl) rfl fa_70_0 rfl ?_
          refine pF 16 (lv rfl) rfl fa_24_0 rfl ?_
          refine d_ld (i := 17) [] (lv rfl) rfl lk_3 rfl (by kernel_rfl) ⟨_, _, _, hH.c4, _, rfl, ?_⟩
          refine d_p (i := 18) (lv rfl) rfl (fun w => (r_remI rfl rfl ?_ ?_)) (by kernel_rfl) ?_; omega; omega
          refine pF 19 (lv rfl) rfl fa_46_1 rfl ?_
          refine d_ld (i := 20) [] (lv rfl) rfl lk_3 rfl (by kernel_rfl) ⟨_, _, _, hH.c3, _, rfl, ?_⟩
          refine pM 21 (lv rfl) rfl rfl ?_
          refine pN 22 (lv rfl) rfl rfl ?_
          refine pF 23 (lv rfl) rfl fa_70_0 rfl ?_
          refine pF 24 (lv rfl) rfl fa_24_0 rfl ?_
          refine d_ld (i := 25) [] (lv rfl) rfl lk_3 rfl (by kernel_rfl) ⟨_, _, _, hH.c4, _, rfl, ?_⟩
          refine d_p (i := 26) (lv rfl) rfl (fun w => (r_remI rfl rfl ?_ ?_)) (by kernel_rfl) ?_; omega; omega
          refine d_p (i := 27) (lv rfl) rfl (fun w => (r_eq rfl rfl)) (by kernel_rfl) ?_
          refine d_end (by kernel_rfl) ?_
          refine g_if rfl (fun c5 => ?_) (fun c5 => ?_)
          ·refine g_region (l := [0, 1, 2]) rfl ?_
           refine vM (lv rfl) rfl rfl ?_
           refine o_v (lv rfl) rfl (r_addI rfl rfl ?_) ?_; omega
           refine vA (lv rfl) rfl rfl ?_
           refine g_inBlock ?_
           refine g_region (l := [0, 1, 2]) rfl ?_
           refine vM (lv rfl) rfl rfl ?_
           refine o_v (lv rfl) rfl (r_addI rfl rfl ?_) ?_; omega
           refine vA (lv rfl) rfl rfl ?_
           (rw [if_pos c5] at hmt
            exact hback _ _ _ ⟨k + 1, _, by omega, rfl, by rw [hmt]; exact (J_self (has_s rfl (has_s rfl (has_s rfl (has_s rfl has_0))))), hH⟩ (by omega))
          ·refine g_skip ?_
           refine g_inBlock ?_
           refine g_region (l := [0, 1, 2]) rfl ?_
           refine vM (lv rfl) rfl rfl ?_
           refine o_v (lv rfl) rfl (r_addI rfl rfl ?_) ?_; omega
           refine vA (lv rfl) rfl rfl ?_
           (rw [if_neg c5, Int.add_zero] at hmt
            exact hback _ _ _ ⟨k + 1, _, by omega, rfl, by rw [hmt]; exact (J_self (has_s rfl (has_s rfl (has_s rfl (has_s rfl has_0))))), hH⟩ (by omega))
         ·obtain rfl : k = m.s.F.length := by omega
          rw [List.take_length]
          refine g_exit rfl ?_
          refine g_seq ?_
          refine g_seq ?_
          refine g_region (l := [0, 1, 2, 3, 4, 5, 6]) rfl ?_
          refine vM (lv rfl) rfl rfl ?_
          refine vM (lv rfl) rfl rfl ?_
          refine o_v (lv rfl) rfl (r_nil rfl) ?_
          refine o_v (lv rfl) rfl (r_fa fa_70_0 rfl) ?_
          refine o_v (lv rfl) rfl (r_fa fa_24_1 rfl) ?_
          refine o_ld (lv rfl) rfl lk_3 rfl ⟨_, _, _, hH.c4, _, rfl, ?_⟩
          refine o_v (lv rfl) rfl (r_ge rfl rfl) ?_
          refine g_if rfl (fun c6 => ?_) (fun c6 => ?_)
          ·refine g_seq ?_
           refine g_region (l := [0]) rfl ?_
           refine vA (lv rfl) rfl rfl ?_
           refine g_rq Tryz.func73 (res_t rfl res_0) ?_
           (rw [show m.register c = (7, m) from by unfold Mdl.register; rw [if_neg (by omega), if_neg (by omega), if_neg (by omega), hno, if_neg (by simp), if_pos (by omega)]]; exact ⟨rfl, RMdlC.mk (Holds.p1 (RSfqC.mk hl (hH.sel (by repeat' (first | exact Sel.refl _ | refine Sel.q0 ?_ | refine Sel.q1 ?_ | refine Sel.skip _ ?_)))))⟩)
          ·refine g_skip ?_
           refine g_seq ?_
           refine rD mixed hH fun w hH => ?_
           refine pM 0 (lv rfl) rfl rfl ?_
           refine pN 1 (lv rfl) rfl rfl ?_
           refine pF 2 (lv rfl) rfl fa_70_0 rfl ?_
           refine pF 3 (lv rfl) rfl fa_24_4 rfl ?_
           refine d_ld (i := 4) [7] (lv rfl) rfl lk_22 rfl (by kernel_rfl) ⟨_, _, _, hH.c4, _, rfl, ?_⟩
           refine pF 5 (lv rfl) rfl fa_46_2 rfl ?_
           refine d_ld (i := 6) [7] (lv rfl) rfl lk_3 rfl (by kernel_rfl) ⟨_, _, _, hH.c3, _, rfl, ?_⟩
           refine d_l (j := 7) (by kernel_rfl) ?_
           refine o_call (lv rfl) rfl en_109 rfl (r01_Inverse m.c.unit c.a (by unfold U; omega) (by unfold I; omega) hH) ?_
           rintro _ w ⟨rfl, hH⟩
           refine ⟨(keeps_in rfl (keeps_in rfl trivial)), ?_⟩
           refine pM 8 (lv rfl) rfl rfl ?_
           refine pE 9 (lv rfl) rfl rfl rfl ?_
           refine pE 10 (lv rfl) rfl rfl rfl ?_
           refine pA 11 (lv rfl) rfl rfl ?_
           refine pA 12 (lv rfl) rfl rfl ?_
           refine d_end (by kernel_rfl) ?_
           refine g_seq ?_
           refine rD mixed hH fun w hH => ?_
           refine pM 0 (lv rfl) rfl rfl ?_
           refine pN 1 (lv rfl) rfl rfl ?_
           refine pF 2 (lv rfl) rfl fa_70_1 rfl ?_
           refine d_ld (i := 3) [9] (lv rfl) rfl lk_68 rfl (by kernel_rfl) ⟨_, _, _, hH.c4, _, rfl, ?_⟩
           refine pF 4 (lv rfl) rfl fa_46_1 rfl ?_
           refine d_ld (i := 5) [9] (lv rfl) rfl lk_3 rfl (by kernel_rfl) ⟨_, _, _, hH.c3, _, rfl, ?_⟩
           refine pM 6 (lv rfl) rfl rfl ?_
           refine pF 7 (lv rfl) rfl fa_46_3 rfl ?_
           refine d_ld (i := 8) [9] (lv rfl) rfl lk_3 rfl (by kernel_rfl) ⟨_, _, _, hH.c3, _, rfl, ?_⟩
           refine d_l (j := 9) (by kernel_rfl) ?_
           refine o_call (lv rfl) rfl en_110 rfl (r09_Add hok c.flow _ c.b hno (RSfqC.mk hl (hH.sel (by repeat' (first | exact Sel.refl _))))) ?_
           rintro _ w ⟨rfl, hH⟩
           refine ⟨(keeps_in rfl (keeps_in rfl (keeps_in rfl trivial))), ?_⟩
           refine d_end (by kernel_rfl) ?_
           refine g_seq ?_
           refine g_region (l := [0]) rfl ?_
           refine vA (lv rfl) rfl rfl ?_
           refine g_rq Tryz.func73 (res_t rfl res_0) ?_
           (have hi : invOk m.c.unit c.a := by unfold invOk; omega
            rw [if_pos hi] at hH
            rw [show m.register c = (0, { m with s := m.s.add c.flow (inverse m.c.unit c.a) c.b }) from by unfold Mdl.register; rw [if_neg (by omega), if_neg (by omega), if_neg (by omega), hno, if_neg (by simp), if_neg (by omega)]]
            exact ⟨rfl, RMdlC.mk (m := { m with s := m.s.add c.flow (inverse m.c.unit c.a) c.b }) (hH.sel (by repeat' (first | exact Sel.refl _ | refine Sel.q0 ?_ | refine Sel.q2 ?_ | refine Sel.skip _ ?_)))⟩)
theorem close_eq (m : Mdl) (id : Int) : m.close id = (m.s.removeE id, { m with s := m.s.removeS id }) := by
  unfold Mdl.close Sq.removeE Sq.removeS
  cases h : m.s.at id with
  | none => rfl
  | some i =>
    simp only
    cases h2 : m.s.F[i]? with
    | none => rfl
    | some x =>
      simp only
      split <;> rfl
theorem r09_Do {b : Nat} {m : Mdl} (hcfg : cfgOk m.c) (hok : m.s.ok) (hfl : m.s.F.length < 2147483648) (hs : 0 ≤ m.served ∧ m.served ≤ 2305843009213693952) (c : Call) (hc : c.ok) (hH : Holds R (RMdlC b m :: F) w) :
    Ret Tryz.prog 43 [.pointer (some ⟨b, 0, none⟩), vC c] w fun v w' => ∃ pv, v = vR (m.do c).1 pv ∧ Holds R (Vec 54 3 encP pv (m.do c).1.packets :: RMdlC b (m.do c).2 :: F) w' := by
  refine ret_of_g (n := 72) Tryz.func43 rfl rfl (by simp) ?_
  refine g_seq ?_
  refine g_region (l := [0, 1]) rfl ?_
  refine o_box (lv rfl) rfl (cs := [_, _, _, _]) rfl rfl hH ?_
  intro b3 w hH
  refine o_al (lv rfl) rfl ze_57 hH ?_
  intro b4 w hH
  refine g_seq ?_
  refine g_seq ?_
  refine g_region (l := [0, 1]) rfl ?_
  refine o_v (lv rfl) rfl (r_fa fa_46_0 rfl) ?_
  refine o_ld (lv rfl) rfl lk_3 rfl ⟨_, _, _, hH.c1, _, rfl, ?_⟩
  refine g_block ?_
  refine g_seq ?_
  refine g_region (l := [0, 1]) rfl ?_
  refine o_v (lv rfl) rfl (r_eq rfl rfl) ?_
  refine vA (lv rfl) rfl rfl ?_
  refine g_if rfl (fun c0 => ?_) (fun c0 => ?_)
  ·refine g_seq ?_
   refine g_region (l := [0, 1, 2, 3, 4]) rfl ?_
   refine vM (lv rfl) rfl rfl ?_
   refine o_ldN (lv rfl) rfl lk_46 rfl ⟨_, _, _, hH.c1, [_, _, _, _], rfl, rfl, ?_⟩
   refine o_call (lv rfl) rfl en_73 rfl (r09_register hcfg hok hfl c hc hH.p2) ?_
   rintro _ w ⟨rfl, hH⟩
   refine o_call (lv rfl) rfl en_72 rfl (r09_code _ hH) ?_
   rintro _ w ⟨rfl, hH⟩
   refine o_st (lv rfl) rfl lk_57 rfl (vs := [_, _, _, _]) rfl rfl (by exact hH.p1) rfl rfl (by simp) rfl ?_
   intro w hH; dsimp only [setL, List.set] at hH
   refine g_rq Tryz.func43 (res_cell rfl (run_loadVarN (vs := [_, _, _, _]) lk_57 (cells_of hH.c0 rfl)) res_0) ?_
   (rw [show m.do c = (code (m.register c).1, (m.register c).2) from by unfold Mdl.do; rw [if_pos c0]]
    exact ⟨_, rfl, Holds.vnil _ _ _ (hH.sel (by repeat' (first | exact Sel.refl _ | refine Sel.q1 ?_ | refine Sel.skip _ ?_)))⟩)
  ·refine g_seq ?_
   refine g_region (l := [0, 1]) rfl ?_
   refine o_v (lv rfl) rfl (r_eq rfl rfl) ?_
   refine vA (lv rfl) rfl rfl ?_
   refine g_if rfl (fun c1 => ?_) (fun c1 => ?_)
   ·obtain ⟨sb, hH⟩ := RMdlC.op hH.p2
    replace hH := hH.p1
    refine g_seq ?_
    refine rD mixed hH fun w hH => ?_
    refine pM 0 (lv rfl) rfl rfl ?_
    refine pN 1 (lv rfl) rfl rfl ?_
    refine pF 2 (lv rfl) rfl fa_70_1 rfl ?_
    refine d_ld (i := 3) [6, 7, 8] (lv rfl) rfl lk_68 rfl (by kernel_rfl) ⟨_, _, _, hH.c1, _, rfl, ?_⟩
    refine pF 4 (lv rfl) rfl fa_46_1 rfl ?_
    refine d_ld (i := 5) [6, 7, 8] (lv rfl) rfl lk_3 rfl (by kernel_rfl) ⟨_, _, _, hH.c3, _, rfl, ?_⟩
    refine d_l (j := 6) (by kernel_rfl) ?_
    refine o_call (lv rfl) rfl en_74 rfl (r09_Remove hok c.flow hH) ?_
    rintro _ w ⟨rfl, hH⟩
    refine ⟨(keeps_in rfl (keeps_in rfl trivial)), ?_⟩
    refine d_l (j := 7) (by kernel_rfl) ?_
    refine o_call (lv rfl) rfl en_72 rfl (r09_code _ hH) ?_
    rintro _ w ⟨rfl, hH⟩
    refine ⟨(keeps_in rfl (keeps_in rfl trivial)), ?_⟩
    refine d_l (j := 8) (by kernel_rfl) ?_
    refine o_st (lv rfl) rfl lk_57 rfl (vs := [_, _, _, _]) rfl rfl (by exact hH.p2) rfl rfl (by simp) rfl ?_
    intro w hH; dsimp only [setL, List.set] at hH
    refine ⟨(keeps_in rfl (keeps_in rfl trivial)), ?_⟩
    refine d_end (by kernel_rfl) ?_
    refine g_rq Tryz.func43 (res_cell rfl (run_loadVarN (vs := [_, _, _, _]) lk_57 (cells_of hH.c0 rfl)) res_0) ?_
    (rw [show m.do c = (code (m.close c.flow).1, (m.close c.flow).2) from by unfold Mdl.do; rw [if_neg c0, if_pos c1]]
     rw [close_eq]
     exact ⟨_, rfl, Holds.vnil _ _ _ (RMdlC.mk (m := { m with s := m.s.removeS c.flow }) (hH.sel (by repeat' (first | exact Sel.refl _ | refine Sel.q1 ?_ | refine Sel.q2 ?_ | refine Sel.skip _ ?_))))⟩)
   ·refine g_seq ?_
    refine g_region (l := [0, 1]) rfl ?_
    refine o_v (lv rfl) rfl (r_eq rfl rfl) ?_
    refine vA (lv rfl) rfl rfl ?_
    refine g_if rfl (fun c2 => ?_) (fun c2 => ?_)
    ·refine g_seq ?_
     refine g_seq ?_
     refine g_region (l := [0, 1, 2, 3, 4, 5, 6, 7]) rfl ?_
     refine o_v (lv rfl) rfl (r_fa fa_46_2 rfl) ?_
     refine o_ld (lv rfl) rfl lk_3 rfl ⟨_, _, _, hH.c1, _, rfl, ?_⟩
     refine o_v (lv rfl) rfl (r_lt rfl rfl) ?_
     refine vM (lv rfl) rfl rfl ?_
     refine s_ops (fun g7_3 => ?_) (fun g7_3 => ?_)
     ·refine o_no rfl rfl rfl rfl ?_
      refine o_no rfl rfl rfl rfl ?_
      refine o_no rfl rfl rfl rfl ?_
      refine o_v (lv rfl) rfl (r_pickT rfl rfl) ?_
      refine g_true rfl ?_
      refine g_seq ?_
      refine g_region (l := [0, 1]) rfl ?_
      refine o_call (lv rfl) rfl en_72 rfl (r09_code _ hH) ?_
      rintro _ w ⟨rfl, hH⟩
      refine o_st (lv rfl) rfl lk_57 rfl (vs := [_, _, _, _]) rfl rfl (by exact hH) rfl rfl (by simp) rfl ?_
      intro w hH; dsimp only [setL, List.set] at hH
      refine g_rq Tryz.func43 (res_cell rfl (run_loadVarN (vs := [_, _, _, _]) lk_57 (cells_of hH.c0 rfl)) res_0) ?_
      (rw [show m.do c = (code 3, m) from by unfold Mdl.do; rw [if_neg c0, if_neg c1, if_pos c2, if_pos (by omega)]]
       exact ⟨_, rfl, Holds.vnil _ _ _ (hH.sel (by repeat' (first | exact Sel.refl _ | refine Sel.q2 ?_ | refine Sel.skip _ ?_)))⟩)
     ·refine o_v (lvg rfl rfl rfl) rfl (r_fa fa_46_2 rfl) ?_
      refine o_ld (lvg rfl rfl rfl) rfl lk_3 rfl ⟨_, _, _, hH.c1, _, rfl, ?_⟩
      refine o_v (lvg rfl rfl rfl) rfl (r_gt rfl rfl) ?_
      refine o_v (lv rfl) rfl (r_pickF rfl rfl) ?_
      refine g_if rfl (fun c3 => ?_) (fun c3 => ?_)
      ·refine g_seq ?_
       refine g_region (l := [0, 1]) rfl ?_
       refine o_call (lv rfl) rfl en_72 rfl (r09_code _ hH) ?_
       rintro _ w ⟨rfl, hH⟩
       refine o_st (lv rfl) rfl lk_57 rfl (vs := [_, _, _, _]) rfl rfl (by exact hH) rfl rfl (by simp) rfl ?_
       intro w hH; dsimp only [setL, List.set] at hH
       refine g_rq Tryz.func43 (res_cell rfl (run_loadVarN (vs := [_, _, _, _]) lk_57 (cells_of hH.c0 rfl)) res_0) ?_
       (rw [show m.do c = (code 3, m) from by unfold Mdl.do; rw [if_neg c0, if_neg c1, if_pos c2, if_pos (by omega)]]
        exact ⟨_, rfl, Holds.vnil _ _ _ (hH.sel (by repeat' (first | exact Sel.refl _ | refine Sel.q2 ?_ | refine Sel.skip _ ?_)))⟩)
      ·obtain ⟨sb, hH⟩ := RMdlC.op hH.p2
       replace hH := hH.p1
       refine g_skip ?_
       refine g_seq ?_
       refine rD mixed hH fun w hH => ?_
       refine pM 0 (lv rfl) rfl rfl ?_
       refine pN 1 (lv rfl) rfl rfl ?_
       refine pF 2 (lv rfl) rfl fa_70_1 rfl ?_
       refine d_ld (i := 3) [11, 12, 13] (lv rfl) rfl lk_68 rfl (by kernel_rfl) ⟨_, _, _, hH.c1, _, rfl, ?_⟩
       refine pF 4 (lv rfl) rfl fa_46_1 rfl ?_
       refine d_ld (i := 5) [11, 12, 13] (lv rfl) rfl lk_3 rfl (by kernel_rfl) ⟨_, _, _, hH.c3, _, rfl, ?_⟩
       refine pF 6 (lv rfl) rfl fa_46_2 rfl ?_
       refine d_ld (i := 7) [11, 12, 13] (lv rfl) rfl lk_3 rfl (by kernel_rfl) ⟨_, _, _, hH.c3, _, rfl, ?_⟩
       refine pF 8 (lv rfl) rfl fa_46_3 rfl ?_
       refine d_ld (i := 9) [11, 12, 13] (lv rfl) rfl lk_3 rfl (by kernel_rfl) ⟨_, _, _, hH.c3, _, rfl, ?_⟩
       refine d_p (i := 10) (lv rfl) rfl (fun w => (r_bld (ps := [_, _, _]) (cs := [_, _, _]) pl_54 rfl rfl)) (by kernel_rfl) ?_
       refine d_l (j := 11) (by kernel_rfl) ?_
       refine o_call (lv rfl) rfl en_75 rfl (r09_Arrive hok ⟨c.flow, c.a, c.b⟩ hH) ?_
       rintro _ w ⟨rfl, hH⟩
       refine ⟨(keeps_in rfl (keeps_in rfl (keeps_in rfl (keeps_in rfl trivial)))), ?_⟩
       refine d_l (j := 12) (by kernel_rfl) ?_
       refine o_call (lv rfl) rfl en_72 rfl (r09_code _ hH) ?_
       rintro _ w ⟨rfl, hH⟩
       refine ⟨(keeps_in rfl (keeps_in rfl (keeps_in rfl (keeps_in rfl trivial)))), ?_⟩
       refine d_l (j := 13) (by kernel_rfl) ?_
       refine o_st (lv rfl) rfl lk_57 rfl (vs := [_, _, _, _]) rfl rfl (by exact hH.p2) rfl rfl (by simp) rfl ?_
       intro w hH; dsimp only [setL, List.set] at hH
       refine ⟨(keeps_in rfl (keeps_in rfl (keeps_in rfl (keeps_in rfl trivial)))), ?_⟩
       refine d_end (by kernel_rfl) ?_
       refine g_rq Tryz.func43 (res_cell rfl (run_loadVarN (vs := [_, _, _, _]) lk_57 (cells_of hH.c0 rfl)) res_0) ?_
       (rw [show m.do c = (code (m.s.arrive ⟨c.flow, c.a, c.b⟩).1, { m with s := (m.s.arrive ⟨c.flow, c.a, c.b⟩).2 }) from by unfold Mdl.do; rw [if_neg c0, if_neg c1, if_pos c2, if_neg (by omega)]]
        exact ⟨_, rfl, Holds.vnil _ _ _ (RMdlC.mk (m := { m with s := (m.s.arrive ⟨c.flow, c.a, c.b⟩).2 }) (hH.sel (by repeat' (first | exact Sel.refl _ | refine Sel.q1 ?_ | refine Sel.q2 ?_ | refine Sel.skip _ ?_))))⟩)
    ·refine g_seq ?_
     refine g_region (l := [0, 1]) rfl ?_
     refine o_v (lv rfl) rfl (r_eq rfl rfl) ?_
     refine vA (lv rfl) rfl rfl ?_
     refine g_if rfl (fun c4 => ?_) (fun c4 => ?_)
     ·refine g_seq ?_
      refine g_region (l := [0, 1, 2]) rfl ?_
      refine vM (lv rfl) rfl rfl ?_
      refine o_call (lv rfl) rfl en_76 rfl (r09_one hok ⟨hs.1, by omega⟩ hH.p2) ?_
      rintro _ w ⟨pv, rfl, hH⟩
      obtain ⟨a2, cap2, rfl, -⟩ := hH.rd.len
      refine o_st (lv rfl) rfl lk_57 rfl (vs := [_, _, _, _]) rfl rfl (by exact hH.p2) rfl rfl (by simp) rfl ?_
      intro w hH; dsimp only [setL, List.set] at hH
      refine g_rq Tryz.func43 (res_cell rfl (run_loadVarN (vs := [_, _, _, _]) lk_57 (cells_of hH.c0 rfl)) res_0) ?_
      (rw [show m.do c = m.one from by unfold Mdl.do; rw [if_neg c0, if_neg c1, if_neg c2, if_pos c4]]
       exact ⟨_, rfl, (hH.sel (by repeat' (first | exact Sel.refl _ | refine Sel.q1 ?_ | refine Sel.skip _ ?_)))⟩)
     ·refine g_seq ?_
      refine g_region (l := [0, 1]) rfl ?_
      refine o_v (lv rfl) rfl (r_eq rfl rfl) ?_
      refine vA (lv rfl) rfl rfl ?_
      refine g_if rfl (fun c5 => ?_) (fun c5 => ?_)
      ·refine g_seq ?_
       refine g_region (l := [0, 1, 2, 3, 4]) rfl ?_
       refine vM (lv rfl) rfl rfl ?_
       refine o_v (lv rfl) rfl (r_fa fa_46_2 rfl) ?_
       refine o_ld (lv rfl) rfl lk_3 rfl ⟨_, _, _, hH.c1, _, rfl, ?_⟩
       refine o_call (lv rfl) rfl en_77 rfl (r09_batch hok hs c.a hH.p2) ?_
       rintro _ w ⟨pv, rfl, hH⟩
       obtain ⟨a2, cap2, rfl, -⟩ := hH.rd.len
       refine o_st (lv rfl) rfl lk_57 rfl (vs := [_, _, _, _]) rfl rfl (by exact hH.p2) rfl rfl (by simp) rfl ?_
       intro w hH; dsimp only [setL, List.set] at hH
       refine g_rq Tryz.func43 (res_cell rfl (run_loadVarN (vs := [_, _, _, _]) lk_57 (cells_of hH.c0 rfl)) res_0) ?_
       (rw [show m.do c = m.batch c.a from by unfold Mdl.do; rw [if_neg c0, if_neg c1, if_neg c2, if_neg c4, if_pos c5]]
        exact ⟨_, rfl, (hH.sel (by repeat' (first | exact Sel.refl _ | refine Sel.q1 ?_ | refine Sel.skip _ ?_)))⟩)
      ·refine g_seq ?_
       refine g_region (l := [0, 1]) rfl ?_
       refine o_v (lv rfl) rfl (r_eq rfl rfl) ?_
       refine vA (lv rfl) rfl rfl ?_
       refine g_if rfl (fun c6 => ?_) (fun c6 => ?_)
       ·obtain ⟨sb, hH⟩ := RMdlC.op hH.p2
        obtain ⟨fv, ps, hl, hH⟩ := RSfqC.op hH.p1
        refine g_seq ?_
        refine rD mixed hH fun w hH => ?_
        refine pM 0 (lv rfl) rfl rfl ?_
        refine pN 1 (lv rfl) rfl rfl ?_
        refine pF 2 (lv rfl) rfl fa_70_2 rfl ?_
        refine d_ld (i := 3) [12] (lv rfl) rfl lk_3 rfl (by kernel_rfl) ⟨_, _, _, hH.c3, _, rfl, ?_⟩
        refine pM 4 (lv rfl) rfl rfl ?_
        refine pN 5 (lv rfl) rfl rfl ?_
        refine pF 6 (lv rfl) rfl fa_70_1 rfl ?_
        refine d_ld (i := 7) [12] (lv rfl) rfl lk_68 rfl (by kernel_rfl) ⟨_, _, _, hH.c3, _, rfl, ?_⟩
        refine pN 8 (lv rfl) rfl rfl ?_
        refine pF 9 (lv rfl) rfl fa_67_1 rfl ?_
        refine d_ld (i := 10) [12] (lv rfl) rfl lk_22 rfl (by kernel_rfl) ⟨_, _, _, hH.c0, _, rfl, ?_⟩
        refine d_p (i := 11) (lv rfl) rfl (fun w => (r_bld (ps := [_, _]) (cs := [_, _, _, _]) pl_57 rfl rfl)) (by kernel_rfl) ?_
        refine d_l (j := 12) (by kernel_rfl) ?_
        refine o_st (lv rfl) rfl lk_57 rfl (vs := [_, _, _, _]) rfl rfl (by exact hH.p4) rfl rfl (by simp) rfl ?_
        intro w hH; dsimp only [setL, List.set] at hH
        refine ⟨(keeps_in rfl (keeps_in rfl (keeps_in rfl trivial))), ?_⟩
        refine d_end (by kernel_rfl) ?_
        refine g_rq Tryz.func43 (res_cell rfl (run_loadVarN (vs := [_, _, _, _]) lk_57 (cells_of hH.c0 rfl)) res_0) ?_
        (rw [show m.do c = (⟨0, [], m.served, m.s.v⟩, m) from by unfold Mdl.do; rw [if_neg c0, if_neg c1, if_neg c2, if_neg c4, if_neg c5, if_pos c6]]
         exact ⟨_, rfl, Holds.vnil _ _ _ (RMdlC.mk (Holds.p1 (RSfqC.mk hl (hH.sel (by repeat' (first | exact Sel.refl _ | refine Sel.q1 ?_ | refine Sel.skip _ ?_))))))⟩)
       ·refine g_skip ?_
        refine g_inBlock ?_
        refine g_seq ?_
        refine g_region (l := [0, 1]) rfl ?_
        refine o_call (lv rfl) rfl en_72 rfl (r09_code _ hH) ?_
        rintro _ w ⟨rfl, hH⟩
        refine o_st (lv rfl) rfl lk_57 rfl (vs := [_, _, _, _]) rfl rfl (by exact hH) rfl rfl (by simp) rfl ?_
        intro w hH; dsimp only [setL, List.set] at hH
        refine g_rq Tryz.func43 (res_cell rfl (run_loadVarN (vs := [_, _, _, _]) lk_57 (cells_of hH.c0 rfl)) res_0) ?_
        (rw [show m.do c = (code 2, m) from by unfold Mdl.do; rw [if_neg c0, if_neg c1, if_neg c2, if_neg c4, if_neg c5, if_neg c6]]
         exact ⟨_, rfl, Holds.vnil _ _ _ (hH.sel (by repeat' (first | exact Sel.refl _ | refine Sel.q2 ?_ | refine Sel.skip _ ?_)))⟩)
end
end Go.Proofs.YtkdbglfdgeldpaaGreat
