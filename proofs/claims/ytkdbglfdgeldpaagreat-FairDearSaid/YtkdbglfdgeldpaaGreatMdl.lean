/- Contracts of package model. Condition: numbers of 64 bits. -/
import Derived.Test.YtkdbglfdgeldpaaGreatSfq2
namespace Go.Proofs.YtkdbglfdgeldpaaGreat
open Go.Lt

def lenv (x : Int × Flw) : Int × Value := (x.1, .int .i64 x.2.l.length)
def mcells (c : Config) (sb lm : Nat) (n : Int) : List Value := [.int .i64 c.shards, .int .i64 c.slots, .int .i64 c.workers, .int .i64 c.width, .int .u64 c.unit, .pointer (some ⟨sb, 0, none⟩), .map (some lm), .int .i64 n]
def MdlC (b : Nat) (m : Mdl) : HP := ex fun q : Nat × Nat × List (Int × Value) => is (q.2.2.Perm (m.s.F.map lenv))
  (All [cel b [.int .i64 m.c.shards, .int .i64 m.c.slots, .int .i64 m.c.workers, .int .i64 m.c.width, .int .u64 m.c.unit, .pointer (some ⟨q.1, 0, none⟩), .map (some q.2.1), .int .i64 m.served] 121, SfqC q.1 m.s, MapC q.2.1 q.2.2])
section
variable {R : Base} {F : List HP} {w : World}
theorem MdlC.op {b : Nat} {m : Mdl} (h : Holds R (MdlC b m :: F) w) : ∃ sb lm LL, LL.Perm (m.s.F.map lenv) ∧ (LL.map Prod.fst).Nodup ∧
    Holds R (cel b [.int .i64 m.c.shards, .int .i64 m.c.slots, .int .i64 m.c.workers, .int .i64 m.c.width, .int .u64 m.c.unit, .pointer (some ⟨sb, 0, none⟩), .map (some lm), .int .i64 m.served] 121 :: SfqC sb m.s :: MapC lm LL :: F) w := by
  obtain ⟨⟨sb, lm, LL⟩, h⟩ := h.open_ex
  obtain ⟨hl, h⟩ := h.open_is
  replace h := h.all_open
  exact ⟨sb, lm, LL, hl, h.p2.mnodup, h⟩
theorem MdlC.mk {b sb lm : Nat} {m : Mdl} {LL : List (Int × Value)} (hl : LL.Perm (m.s.F.map lenv))
    (h : Holds R (cel b [.int .i64 m.c.shards, .int .i64 m.c.slots, .int .i64 m.c.workers, .int .i64 m.c.width, .int .u64 m.c.unit, .pointer (some ⟨sb, 0, none⟩), .map (some lm), .int .i64 m.served] 121 :: SfqC sb m.s :: MapC lm LL :: F) w) : Holds R (MdlC b m :: F) w :=
  (Holds.shut_is hl (Holds.all_shut (A := [cel b [.int .i64 m.c.shards, .int .i64 m.c.slots, .int .i64 m.c.workers, .int .i64 m.c.width, .int .u64 m.c.unit, .pointer (some ⟨sb, 0, none⟩), .map (some lm), .int .i64 m.served] 121, SfqC sb m.s, MapC lm LL]) h)).shut_ex
    (p := fun q : Nat × Nat × List (Int × Value) => is (q.2.2.Perm (m.s.F.map lenv))
  (All [cel b [.int .i64 m.c.shards, .int .i64 m.c.slots, .int .i64 m.c.workers, .int .i64 m.c.width, .int .u64 m.c.unit, .pointer (some ⟨q.1, 0, none⟩), .map (some q.2.1), .int .i64 m.served] 121, SfqC q.1 m.s, MapC q.2.1 q.2.2])) (x := (sb, lm, LL))

theorem l_none {F : Fs} {LL : List (Int × Value)} (hpm : LL.Perm (F.map lenv)) {id : Int} (h : ∀ x ∈ F, x.1 ≠ id) : ∀ p ∈ LL, p.1 ≠ id := by
  intro p hq
  obtain ⟨x, hx, rfl⟩ := List.mem_map.1 (hpm.subset hq)
  exact h x hx
theorem l_get {F : Fs} {LL : List (Int × Value)} (hpm : LL.Perm (F.map lenv)) (hn : (LL.map Prod.fst).Nodup) {i : Nat} {x : Int × Flw} (hx : F[i]? = some x) : mget LL x.1 = some (.int .i64 x.2.l.length) :=
  mget_mem hn (hpm.symm.subset (List.mem_map.2 ⟨x, List.mem_of_getElem? hx, rfl⟩))
theorem l_at {F : Fs} {LL : List (Int × Value)} (hpm : LL.Perm (F.map lenv)) {i : Nat} {x : Int × Flw} (hx : F[i]? = some x) : ∃ j : Nat, LL[j]? = some (lenv x) :=
  perm_get hpm (by rw [List.getElem?_map, hx]; rfl)
theorem l_cut {F : Fs} {LL : List (Int × Value)} (hpm : LL.Perm (F.map lenv)) (hn : (LL.map Prod.fst).Nodup) {i : Nat} {x : Int × Flw} (hx : F[i]? = some x) : (mdel LL x.1).Perm ((F.eraseIdx i).map lenv) := by
  obtain ⟨j, hj⟩ := l_at hpm hx
  rw [mdel_at hn hj, Go.ChangeMaps.map_eraseIdx]
  exact perm_erase hpm hj (by rw [List.getElem?_map, hx]; rfl)
theorem l_put {F : Fs} {LL : List (Int × Value)} (hpm : LL.Perm (F.map lenv)) (hn : (LL.map Prod.fst).Nodup) {i : Nat} {x : Int × Flw} (hx : F[i]? = some x) (f : Flw) : (mput LL x.1 (.int .i64 f.l.length)).Perm ((F.set i (x.1, f)).map lenv) := by
  obtain ⟨j, hj⟩ := l_at hpm hx
  rw [mput_at hn hj, List.map_set]
  exact perm_set hpm hj (by rw [List.getElem?_map, hx]; rfl) _
theorem l_add {s : Sq} {id : Int} {LL : List (Int × Value)} (hpm : LL.Perm (s.F.map lenv)) (hno : ∀ x ∈ s.F, x.1 ≠ id) (r m : Int) : (mput LL id (.int .i64 0)).Perm ((s.add id r m).F.map lenv) := by
  rw [mput_new (l_none hpm hno)]
  unfold Sq.add
  simp only [List.map_append, List.map_cons]
  refine List.perm_append_comm.trans ?_
  simp only [List.singleton_append]
  refine (List.Perm.cons _ hpm).trans ?_
  conv => lhs; rw [← List.takeWhile_append_dropWhile (p := fun x : Int × Flw => decide (x.1 < id)) (l := s.F)]
  rw [List.map_append]
  exact List.perm_middle.symm

theorem model_within (n a b : Int) (hH : Holds R F w) :
    Ret Tryz.prog 94 [.int .i64 n, .int .i64 a, .int .i64 b] w fun v w' => v = .bool (decide (a ≤ n ∧ n ≤ b)) ∧ Holds R F w' := by
  refine ret_of_g (n := 15) Tryz.func94 rfl rfl (by simp) ?_
  refine g_seq ?_
  refine g_region (l := [0]) rfl ?_
  refine vA (lv rfl) rfl rfl ?_
  refine g_seq ?_
  refine g_region (l := [0, 1, 2, 3, 4, 5, 6, 7, 8]) rfl ?_
  refine vM (lv rfl) rfl rfl ?_
  refine vM (lv rfl) rfl rfl ?_
  refine o_v (lv rfl) rfl (r_ge rfl rfl) ?_
  refine vM (lv rfl) rfl rfl ?_
  refine s_ops (fun g1_3 => ?_) (fun g1_3 => ?_)
  ·refine vM (lvg rfl rfl rfl) rfl rfl ?_
   refine vM (lvg rfl rfl rfl) rfl rfl ?_
   refine o_v (lvg rfl rfl rfl) rfl (r_le rfl rfl) ?_
   refine o_v (lv rfl) rfl (r_pickT rfl rfl) ?_
   refine vA (lv rfl) rfl rfl ?_
   refine g_rq Tryz.func94 (res_t rfl res_0) ?_
   exact ⟨bv (by ((apply decide_eq_decide.2; omega))), (hH.sel (by repeat' (first | exact Sel.refl _)))⟩
  ·refine o_no rfl rfl rfl rfl ?_
   refine o_no rfl rfl rfl rfl ?_
   refine o_no rfl rfl rfl rfl ?_
   refine o_v (lv rfl) rfl (r_pickF rfl rfl) ?_
   refine vA (lv rfl) rfl rfl ?_
   refine g_rq Tryz.func94 (res_t rfl res_0) ?_
   exact ⟨bv (by ((symm; rw [decide_eq_false_iff_not]; omega))), (hH.sel (by repeat' (first | exact Sel.refl _)))⟩
theorem model_refused (e : Int) (hH : Holds R F w) :
    Ret Tryz.prog 95 [.int .i64 e] w fun v w' => v = vR (code e) (.slice none 0 0) ∧ Holds R F w' := by
  refine ret_of_g (n := 5) Tryz.func95 rfl rfl (by simp) ?_
  refine g_seq ?_
  refine g_region (l := [0]) rfl ?_
  refine o_al (lv rfl) rfl ze_57 hH ?_
  intro b2 w hH
  refine g_seq ?_
  refine g_region (l := [0, 1, 2]) rfl ?_
  refine vM (lv rfl) rfl rfl ?_
  refine o_v (lv rfl) rfl (r_bld (ps := [_]) (cs := [_, _, _, _]) pl_57 rfl rfl) ?_
  refine o_st (lv rfl) rfl lk_57 rfl (vs := [_, _, _, _]) rfl rfl (by exact hH) rfl rfl (by simp) rfl ?_
  intro w hH; dsimp only [setL, List.set] at hH
  refine g_rq Tryz.func95 (res_cell rfl (run_loadVarN (vs := [_, _, _, _]) lk_57 (cells_of hH.c0 rfl)) res_0) ?_
  exact ⟨rfl, (hH.sel (by repeat' (first | exact Sel.refl _ | refine Sel.skip _ ?_)))⟩
theorem model_Right (c : Config) (hH : Holds R F w) :
    Ret Tryz.prog 85 [vCfg c] w fun v w' => v = .bool (decide (cfgOk c)) ∧ Holds R F w' := by
  refine ret_of_g (n := 31) Tryz.func85 rfl rfl (by simp) ?_
  refine g_seq ?_
  refine g_region (l := [0, 1]) rfl ?_
  refine o_box (lv rfl) rfl (cs := [_, _, _, _, _]) rfl rfl hH ?_
  intro b1 w hH
  refine vA (lv rfl) rfl rfl ?_
  refine g_seq ?_
  refine g_region (l := [0, 1, 2, 3, 4, 5, 6, 7, 8, 9, 10, 11, 12, 13, 14, 15, 16, 17, 18, 19, 20, 21, 22, 23, 24, 25, 26, 27, 28]) rfl ?_
  refine o_v (lv rfl) rfl (r_fa fa_24_0 rfl) ?_
  refine o_ld (lv rfl) rfl lk_3 rfl ⟨_, _, _, hH.c0, _, rfl, ?_⟩
  refine o_call (lv rfl) rfl en_94 rfl (model_within _ _ _ hH) ?_
  rintro _ w ⟨rfl, hH⟩
  refine vM (lv rfl) rfl rfl ?_
  refine s_ops (fun g1_3 => ?_) (fun g1_3 => ?_)
  ·refine o_v (lvg rfl rfl rfl) rfl (r_fa fa_24_1 rfl) ?_
   refine o_ld (lvg rfl rfl rfl) rfl lk_3 rfl ⟨_, _, _, hH.c0, _, rfl, ?_⟩
   refine o_call (lvg rfl rfl rfl) rfl en_94 rfl (model_within _ _ _ hH) ?_
   rintro _ w ⟨rfl, hH⟩
   refine o_v (lv rfl) rfl (r_pickT rfl rfl) ?_
   refine vM (lv rfl) rfl rfl ?_
   refine s_ops (fun g1_8 => ?_) (fun g1_8 => ?_)
   ·refine o_v (lvg rfl rfl rfl) rfl (r_fa fa_24_2 rfl) ?_
    refine o_ld (lvg rfl rfl rfl) rfl lk_3 rfl ⟨_, _, _, hH.c0, _, rfl, ?_⟩
    refine o_call (lvg rfl rfl rfl) rfl en_94 rfl (model_within _ _ _ hH) ?_
    rintro _ w ⟨rfl, hH⟩
    refine o_v (lv rfl) rfl (r_pickT rfl rfl) ?_
    refine vM (lv rfl) rfl rfl ?_
    refine s_ops (fun g1_13 => ?_) (fun g1_13 => ?_)
    ·refine o_v (lvg rfl rfl rfl) rfl (r_fa fa_24_3 rfl) ?_
     refine o_ld (lvg rfl rfl rfl) rfl lk_3 rfl ⟨_, _, _, hH.c0, _, rfl, ?_⟩
     refine o_call (lvg rfl rfl rfl) rfl en_94 rfl (model_within _ _ _ hH) ?_
     rintro _ w ⟨rfl, hH⟩
     refine o_v (lv rfl) rfl (r_pickT rfl rfl) ?_
     refine vM (lv rfl) rfl rfl ?_
     refine s_ops (fun g1_18 => ?_) (fun g1_18 => ?_)
     ·refine o_v (lvg rfl rfl rfl) rfl (r_fa fa_24_4 rfl) ?_
      refine o_ld (lvg rfl rfl rfl) rfl lk_22 rfl ⟨_, _, _, hH.c0, _, rfl, ?_⟩
      refine o_v (lvg rfl rfl rfl) rfl (r_ge rfl rfl) ?_
      refine o_v (lv rfl) rfl (r_pickT rfl rfl) ?_
      refine vM (lv rfl) rfl rfl ?_
      refine s_ops (fun g1_23 => ?_) (fun g1_23 => ?_)
      ·refine o_v (lvg rfl rfl rfl) rfl (r_fa fa_24_4 rfl) ?_
       refine o_ld (lvg rfl rfl rfl) rfl lk_22 rfl ⟨_, _, _, hH.c0, _, rfl, ?_⟩
       refine o_v (lvg rfl rfl rfl) rfl (r_le rfl rfl) ?_
       refine o_v (lv rfl) rfl (r_pickT rfl rfl) ?_
       refine vA (lv rfl) rfl rfl ?_
       refine g_rq Tryz.func85 (res_t rfl res_0) ?_
       refine ⟨bv ?_, (hH.sel (by repeat' (first | exact Sel.refl _ | refine Sel.skip _ ?_)))⟩
       (apply decide_eq_decide.2; unfold cfgOk; omega)
      ·refine o_no rfl rfl rfl rfl ?_
       refine o_no rfl rfl rfl rfl ?_
       refine o_no rfl rfl rfl rfl ?_
       refine o_v (lv rfl) rfl (r_pickF rfl rfl) ?_
       refine vA (lv rfl) rfl rfl ?_
       refine g_rq Tryz.func85 (res_t rfl res_0) ?_
       refine ⟨bv ?_, (hH.sel (by repeat' (first | exact Sel.refl _ | refine Sel.skip _ ?_)))⟩
       (symm; apply decide_eq_false; unfold cfgOk; omega)
     ·refine o_no rfl rfl rfl rfl ?_
      refine o_no rfl rfl rfl rfl ?_
      refine o_no rfl rfl rfl rfl ?_
      refine o_v (lv rfl) rfl (r_pickF rfl rfl) ?_
      refine vM (lv rfl) rfl rfl ?_
      refine o_no rfl rfl rfl rfl ?_
      refine o_no rfl rfl rfl rfl ?_
      refine o_no rfl rfl rfl rfl ?_
      refine o_v (lv rfl) rfl (r_pickF rfl rfl) ?_
      refine vA (lv rfl) rfl rfl ?_
      refine g_rq Tryz.func85 (res_t rfl res_0) ?_
      refine ⟨bv ?_, (hH.sel (by repeat' (first | exact Sel.refl _ | refine Sel.skip _ ?_)))⟩
      (symm; apply decide_eq_false; unfold cfgOk; omega)
    ·refine o_no rfl rfl rfl rfl ?_
     refine o_no rfl rfl rfl rfl ?_
     refine o_no rfl rfl rfl rfl ?_
     refine o_v (lv rfl) rfl (r_pickF rfl rfl) ?_
     refine vM (lv rfl) rfl rfl ?_
     refine o_no rfl rfl rfl rfl ?_
     refine o_no rfl rfl rfl rfl ?_
     refine o_no rfl rfl rfl rfl ?_
     refine o_v (lv rfl) rfl (r_pickF rfl rfl) ?_
     refine vM (lv rfl) rfl rfl ?_
     refine o_no rfl rfl rfl rfl ?_
     refine o_no rfl rfl rfl rfl ?_
     refine o_no rfl rfl rfl rfl ?_
     refine o_v (lv rfl) rfl (r_pickF rfl rfl) ?_
     refine vA (lv rfl) rfl rfl ?_
     refine g_rq Tryz.func85 (res_t rfl res_0) ?_
     refine ⟨bv ?_, (hH.sel (by repeat' (first | exact Sel.refl _ | refine Sel.skip _ ?_)))⟩
     (symm; apply decide_eq_false; unfold cfgOk; omega)
   ·refine o_no rfl rfl rfl rfl ?_
    refine o_no rfl rfl rfl rfl ?_
    refine o_no rfl rfl rfl rfl ?_
    refine o_v (lv rfl) rfl (r_pickF rfl rfl) ?_
    refine vM (lv rfl) rfl rfl ?_
    refine o_no rfl rfl rfl rfl ?_
    refine o_no rfl rfl rfl rfl ?_
    refine o_no rfl rfl rfl rfl ?_
    refine o_v (lv rfl) rfl (r_pickF rfl rfl) ?_
    refine vM (lv rfl) rfl rfl ?_
    refine o_no rfl rfl rfl rfl ?_
    refine o_no rfl rfl rfl rfl ?_
    refine o_no rfl rfl rfl rfl ?_
    refine o_v (lv rfl) rfl (r_pickF rfl rfl) ?_
    refine vM (lv rfl) rfl rfl ?_
    refine o_no rfl rfl rfl rfl ?_
    refine o_no rfl rfl rfl rfl ?_
    refine o_no rfl rfl rfl rfl ?_
    refine o_v (lv rfl) rfl (r_pickF rfl rfl) ?_
    refine vA (lv rfl) rfl rfl ?_
    refine g_rq Tryz.func85 (res_t rfl res_0) ?_
    refine ⟨bv ?_, (hH.sel (by repeat' (first | exact Sel.refl _ | refine Sel.skip _ ?_)))⟩
    (symm; apply decide_eq_false; unfold cfgOk; omega)
  ·refine o_no rfl rfl rfl rfl ?_
   refine o_no rfl rfl rfl rfl ?_
   refine o_no rfl rfl rfl rfl ?_
   refine o_v (lv rfl) rfl (r_pickF rfl rfl) ?_
   refine vM (lv rfl) rfl rfl ?_
   refine o_no rfl rfl rfl rfl ?_
   refine o_no rfl rfl rfl rfl ?_
   refine o_no rfl rfl rfl rfl ?_
   refine o_v (lv rfl) rfl (r_pickF rfl rfl) ?_
   refine vM (lv rfl) rfl rfl ?_
   refine o_no rfl rfl rfl rfl ?_
   refine o_no rfl rfl rfl rfl ?_
   refine o_no rfl rfl rfl rfl ?_
   refine o_v (lv rfl) rfl (r_pickF rfl rfl) ?_
   refine vM (lv rfl) rfl rfl ?_
   refine o_no rfl rfl rfl rfl ?_
   refine o_no rfl rfl rfl rfl ?_
   refine o_no rfl rfl rfl rfl ?_
   refine o_v (lv rfl) rfl (r_pickF rfl rfl) ?_
   refine vM (lv rfl) rfl rfl ?_
   refine o_no rfl rfl rfl rfl ?_
   refine o_no rfl rfl rfl rfl ?_
   refine o_no rfl rfl rfl rfl ?_
   refine o_v (lv rfl) rfl (r_pickF rfl rfl) ?_
   refine vA (lv rfl) rfl rfl ?_
   refine g_rq Tryz.func85 (res_t rfl res_0) ?_
   refine ⟨bv ?_, (hH.sel (by repeat' (first | exact Sel.refl _ | refine Sel.skip _ ?_)))⟩
   (symm; apply decide_eq_false; unfold cfgOk; omega)
theorem model_New (c : Config) (hH : Holds R F w) :
    Ret Tryz.prog 57 [vCfg c] w fun v w' => if cfgOk c then ∃ b, v = .tuple #[.pointer (some ⟨b, 0, none⟩), .int .i64 0] ∧ Holds R (MdlC b (mkMdl c) :: F) w' else v = .tuple #[.pointer none, .int .i64 1] ∧ Holds R F w' := by
  refine ret_of_g (n := 12) Tryz.func57 rfl rfl (by simp) ?_
  refine g_seq ?_
  refine g_region (l := [0, 1, 2]) rfl ?_
  refine o_box (lv rfl) rfl (cs := [_, _, _, _, _]) rfl rfl hH ?_
  intro b1 w hH
  refine vA (lv rfl) rfl rfl ?_
  refine vA (lv rfl) rfl rfl ?_
  refine g_seq ?_
  refine g_seq ?_
  refine g_region (l := [0, 1, 2]) rfl ?_
  refine o_ldN (lv rfl) rfl lk_24 rfl ⟨_, _, _, hH.c0, [_, _, _, _, _], rfl, rfl, ?_⟩
  refine o_call (lv rfl) rfl en_85 rfl (model_Right c hH) ?_
  rintro _ w ⟨rfl, hH⟩
  refine o_v (lv rfl) rfl (r_notD rfl) ?_
  refine g_if rfl (fun c0 => ?_) (fun c0 => ?_)
  ·refine g_seq ?_
   refine g_region (l := [0, 1]) rfl ?_
   refine vA (lv rfl) rfl rfl ?_
   refine vA (lv rfl) rfl rfl ?_
   refine g_rq Tryz.func57 (res_t rfl (res_t rfl res_0)) ?_
   rw [if_neg (by simpa using c0)]; exact ⟨rfl, (hH.sel (by repeat' (first | exact Sel.refl _ | refine Sel.skip _ ?_)))⟩
  ·refine g_skip ?_
   refine g_seq ?_
   refine rD mixed hH fun w hH => ?_
   refine d_ldN (i := 0) [4] (lv rfl) rfl lk_24 rfl (by kernel_rfl) ⟨_, _, _, hH.c0, [_, _, _, _, _], rfl, rfl, ?_⟩
   refine d_l2 (j := 1) (j2 := 2) (by kernel_rfl) ?_ ?_
   ·refine o_call (lv rfl) rfl en_86 rfl (sfq_New hH) ?_
    rintro _ w ⟨b8, rfl, hH⟩
    refine ⟨(keeps_cons (fun _ => (by exact hH.c1)) trivial), ?_⟩
    refine d_l (j := 2) (by kernel_rfl) ?_
    refine o_mm (lv rfl) rfl hH ?_
    intro b9 w hH
    refine ⟨(keeps_cons (fun _ => (by exact hH.c2)) trivial), ?_⟩
    refine d_p (i := 3) (lv rfl) rfl (fun w => (r_bld (ps := [_, _, _]) (cs := [_, _, _, _, _, _, _, _]) pl_121 rfl rfl)) (by kernel_rfl) ?_
    refine d_l (j := 4) (by kernel_rfl) ?_
    refine o_box (lv rfl) rfl (cs := [_, _, _, _, _, _, _, _]) rfl rfl hH ?_
    intro b11 w hH
    refine ⟨(keeps_in rfl trivial), ?_⟩
    refine pA 5 (lv rfl) rfl rfl ?_
    refine pA 6 (lv rfl) rfl rfl ?_
    refine d_end (by kernel_rfl) ?_
    refine g_rq Tryz.func57 (res_t rfl (res_t rfl res_0)) ?_
    rw [if_pos (by simpa using c0)]; exact ⟨_, rfl, MdlC.mk (m := mkMdl c) (LL := []) (List.Perm.refl _) (hH.sel (by repeat' (first | exact Sel.refl _ | refine Sel.q0 ?_ | refine Sel.q1 ?_ | refine Sel.skip _ ?_)))⟩
   ·refine o_mm (lv rfl) rfl hH ?_
    intro b9 w hH
    refine ⟨(keeps_cons (fun _ => (by exact hH.c1)) trivial), ?_⟩
    refine d_l (j := 1) (by kernel_rfl) ?_
    refine o_call (lv rfl) rfl en_86 rfl (sfq_New hH) ?_
    rintro _ w ⟨b8, rfl, hH⟩
    refine ⟨(keeps_cons (fun _ => (by exact hH.c2)) trivial), ?_⟩
    refine d_p (i := 3) (lv rfl) rfl (fun w => (r_bld (ps := [_, _, _]) (cs := [_, _, _, _, _, _, _, _]) pl_121 rfl rfl)) (by kernel_rfl) ?_
    refine d_l (j := 4) (by kernel_rfl) ?_
    refine o_box (lv rfl) rfl (cs := [_, _, _, _, _, _, _, _]) rfl rfl hH ?_
    intro b11 w hH
    refine ⟨(keeps_in rfl trivial), ?_⟩
    refine pA 5 (lv rfl) rfl rfl ?_
    refine pA 6 (lv rfl) rfl rfl ?_
    refine d_end (by kernel_rfl) ?_
    refine g_rq Tryz.func57 (res_t rfl (res_t rfl res_0)) ?_
    rw [if_pos (by simpa using c0)]; exact ⟨_, rfl, MdlC.mk (m := mkMdl c) (LL := []) (List.Perm.refl _) (hH.sel (by repeat' (first | exact Sel.refl _ | refine Sel.q0 ?_ | refine Sel.skip _ ?_)))⟩
theorem model_Len {b : Nat} {m : Mdl} (id : Int) (hH : Holds R (MdlC b m :: F) w) :
    Ret Tryz.prog 29 [.pointer (some ⟨b, 0, none⟩), .int .i64 id] w fun v w' => v = .int .i64 (m.s.lenAt id) ∧ Holds R (MdlC b m :: F) w' := by
  obtain ⟨sb, lm, LL, hpm, hn, hH⟩ := MdlC.op hH
  cases hat : m.s.at id with
  | none =>
    have e1 : m.s.lenAt id = -1 := by unfold Sq.lenAt; rw [hat]
    rw [e1]
    refine ret_of_g (n := 19) Tryz.func29 rfl rfl (by simp) ?_
    refine g_seq ?_
    refine g_region (l := [0]) rfl ?_
    refine vA (lv rfl) rfl rfl ?_
    refine g_seq ?_
    refine g_region (l := [0, 1, 2, 3, 4, 5, 6, 7, 8, 9, 10]) rfl ?_
    refine vM (lv rfl) rfl rfl ?_
    refine o_v (lv rfl) rfl (r_nil rfl) ?_
    refine o_v (lv rfl) rfl (r_fa fa_121_2 rfl) ?_
    refine o_ld (lv rfl) rfl lk_119 rfl ⟨_, _, _, hH.c0, _, rfl, ?_⟩
    refine vM (lv rfl) rfl rfl ?_
    refine o_v (lv rfl) rfl (r_lkv2 mp_119 rfl rfl (by exact hH.p2.mrd) (mget_none (l_none hpm (at_none_ne hat)))) ?_
    refine vM (lv rfl) rfl rfl ?_
    refine o_v (lv rfl) rfl (r_ex rfl rfl) ?_
    refine o_v (lv rfl) rfl (r_ex rfl rfl) ?_
    refine vA (lv rfl) rfl rfl ?_
    refine vA (lv rfl) rfl rfl ?_
    refine g_seq ?_
    refine g_seq ?_
    refine g_region (l := [0, 1]) rfl ?_
    refine vM (lv rfl) rfl rfl ?_
    refine o_v (lv rfl) rfl (r_not rfl) ?_
    refine g_true rfl ?_
    refine g_seq ?_
    refine g_region (l := [0]) rfl ?_
    refine vA (lv rfl) rfl rfl ?_
    refine g_rq Tryz.func29 (res_t rfl res_0) ?_
    exact ⟨rfl, MdlC.mk hpm (hH.sel (by repeat' (first | exact Sel.refl _)))⟩
  | some k =>
    obtain ⟨x, hx, rfl⟩ := Sq.at_spec hat
    have e1 : m.s.lenAt x.1 = x.2.l.length := by unfold Sq.lenAt; rw [hat]; simp only [hx]
    rw [e1]
    refine ret_of_g (n := 19) Tryz.func29 rfl rfl (by simp) ?_
    refine g_seq ?_
    refine g_region (l := [0]) rfl ?_
    refine vA (lv rfl) rfl rfl ?_
    refine g_seq ?_
    refine g_region (l := [0, 1, 2, 3, 4, 5, 6, 7, 8, 9, 10]) rfl ?_
    refine vM (lv rfl) rfl rfl ?_
    refine o_v (lv rfl) rfl (r_nil rfl) ?_
    refine o_v (lv rfl) rfl (r_fa fa_121_2 rfl) ?_
    refine o_ld (lv rfl) rfl lk_119 rfl ⟨_, _, _, hH.c0, _, rfl, ?_⟩
    refine vM (lv rfl) rfl rfl ?_
    refine o_v (lv rfl) rfl (r_lkv2 mp_119 rfl rfl (by exact hH.p2.mrd) (l_get hpm hn hx)) ?_
    refine vM (lv rfl) rfl rfl ?_
    refine o_v (lv rfl) rfl (r_ex rfl rfl) ?_
    refine o_v (lv rfl) rfl (r_ex rfl rfl) ?_
    refine vA (lv rfl) rfl rfl ?_
    refine vA (lv rfl) rfl rfl ?_
    refine g_seq ?_
    refine g_seq ?_
    refine g_region (l := [0, 1]) rfl ?_
    refine vM (lv rfl) rfl rfl ?_
    refine o_v (lv rfl) rfl (r_not rfl) ?_
    refine g_false rfl ?_
    refine g_skip ?_
    refine g_seq ?_
    refine g_region (l := [0, 1]) rfl ?_
    refine vM (lv rfl) rfl rfl ?_
    refine vA (lv rfl) rfl rfl ?_
    refine g_rq Tryz.func29 (res_t rfl res_0) ?_
    exact ⟨rfl, MdlC.mk hpm (hH.sel (by repeat' (first | exact Sel.refl _)))⟩
theorem model_mates {b sb lm : Nat} {m : Mdl} {LL : List (Int × Value)} (hpm : LL.Perm (m.s.F.map lenv)) (hcfg : cfgOk m.c) (hok : m.s.ok) (id : Int) (hid : Nm id) (hH : Holds R (cel b [.int .i64 m.c.shards, .int .i64 m.c.slots, .int .i64 m.c.workers, .int .i64 m.c.width, .int .u64 m.c.unit, .pointer (some ⟨sb, 0, none⟩), .map (some lm), .int .i64 m.served] 121 :: SfqC sb m.s :: MapC lm LL :: F) w) :
    Ret Tryz.prog 119 [.pointer (some ⟨b, 0, none⟩), .int .i64 id] w fun v w' => v = .int .i64 (mates m.s.F m.c.shards id) ∧ Holds R (cel b [.int .i64 m.c.shards, .int .i64 m.c.slots, .int .i64 m.c.workers, .int .i64 m.c.width, .int .u64 m.c.unit, .pointer (some ⟨sb, 0, none⟩), .map (some lm), .int .i64 m.served] 121 :: SfqC sb m.s :: MapC lm LL :: F) w' := by
  have hlen := hok.2.2.2
  have hcfg' := hcfg; unfold cfgOk at hcfg'
  unfold Nm at hid
  have hLl : LL.length = m.s.F.length := by have := hpm.length_eq; simpa using this
  refine ret_of_g (n := 34) Tryz.func119 rfl rfl (by simp) ?_
  refine g_seq ?_
  refine g_region (l := [0]) rfl ?_
  refine vA (lv rfl) rfl rfl ?_
  refine g_seq ?_
  refine g_region (l := [0]) rfl ?_
  refine vA (lv rfl) rfl rfl ?_
  refine g_seq ?_
  refine g_seq ?_
  refine g_region (l := [0, 1, 2, 3, 4]) rfl ?_
  refine vM (lv rfl) rfl rfl ?_
  refine o_v (lv rfl) rfl (r_nil rfl) ?_
  refine o_v (lv rfl) rfl (r_fa fa_121_2 rfl) ?_
  refine o_ld (lv rfl) rfl lk_119 rfl ⟨_, _, _, hH.c0, _, rfl, ?_⟩
  refine o_rg (lv rfl) rfl mp_119 rfl (by exact hH.p2) ?_
  intro r11 w hH
  refine g_block ?_
  refine g_loop (fun mm e w => ∃ (D : List (Int × Value)) (e0 : Env), (∀ p ∈ D, p ∈ LL) ∧ D.length ≤ LL.length ∧ mm = LL.length - D.length ∧ e = J e0 [(0, .pointer (some ⟨b, 0, none⟩)), (1, .int .i64 id), (5, .int .i64 (D.filter fun p => p.1 % m.c.shards == id % m.c.shards).length), (11, .pointer (some ⟨r11, 0, none⟩))] ∧
      Holds R (RngC lm r11 LL D :: cel b [.int .i64 m.c.shards, .int .i64 m.c.slots, .int .i64 m.c.workers, .int .i64 m.c.width, .int .u64 m.c.unit, .pointer (some ⟨sb, 0, none⟩), .map (some lm), .int .i64 m.served] 121 :: SfqC sb m.s :: F) w) LL.length ⟨[], _, by simp, by simp, by simp, (J_self (has_s rfl (has_s rfl (has_s rfl (has_s rfl has_0))))), (hH.sel (by repeat' (first | exact Sel.refl _)))⟩ ?_
  rintro mm _ w ⟨D, e0, hD1, hD2, hm, rfl, hH⟩ hback
  refine g_seq ?_
  refine g_region (l := [0, 1]) rfl ?_
  refine o_nx (lv rfl) rfl rfl (by exact hH) (fun hD => ?_) (fun pn w hpn hnpn hltn hH => ?_)
  ·refine o_v (lv rfl) rfl (r_ex rfl rfl) ?_
   refine g_seq ?_
   refine g_false rfl ?_
   refine g_exit rfl ?_
   refine g_seq ?_
   refine g_region (l := [0, 1]) rfl ?_
   refine vM (lv rfl) rfl rfl ?_
   refine vA (lv rfl) rfl rfl ?_
   refine g_rq Tryz.func119 (res_t rfl res_0) ?_
   refine ⟨iv ?_, Holds.p2 (Holds.p2 (RngC.fin (hH.sel (by repeat' (first | exact Sel.refl _)))))⟩
   unfold mates
   have h1 := ((hD.trans hpm).filter fun p => p.1 % m.c.shards == id % m.c.shards).length_eq
   rw [h1, List.filter_map, List.length_map]
   rfl
  ·obtain ⟨x, hx, rfl⟩ := List.mem_map.1 (hpm.subset hpn)
   have hxn := (hok.1 x hx).1; unfold Nm at hxn
   have hlx : (lenv x).1 = x.1 := rfl
   have hfl : (D.filter fun p => p.1 % m.c.shards == id % m.c.shards).length ≤ D.length := List.length_filter_le _ _
   have hDq : ∀ q' ∈ D ++ [lenv x], q' ∈ LL := fun q' h => by
     rcases List.mem_append.1 h with h | h
     ·exact hD1 q' h
     ·rw [List.mem_singleton.1 h]; exact hpn
   have hst : ((D ++ [lenv x]).filter fun p => p.1 % m.c.shards == id % m.c.shards).length = (D.filter fun p => p.1 % m.c.shards == id % m.c.shards).length + (if x.1 % m.c.shards = id % m.c.shards then 1 else 0) := by
     rw [List.filter_append, List.length_append]
     congr 1
     by_cases h : x.1 % m.c.shards = id % m.c.shards
     ·simp [lenv, h]
     ·simp [lenv, h]
   refine o_v (lv rfl) rfl (r_ex rfl rfl) ?_
   refine g_seq ?_
   refine g_true rfl ?_
   refine g_skip ?_
   refine g_block ?_
   refine g_seq ?_
   refine g_region (l := [0, 1, 2]) rfl ?_
   refine o_en (lv rfl) rfl rfl (by exact hH) ?_
   refine o_v (lv rfl) rfl (r_ex rfl rfl) ?_
   refine vA (lv rfl) rfl rfl ?_
   refine g_seq ?_
   refine rD mixed hH fun w hH => ?_
   refine pM 0 (lv rfl) rfl rfl ?_
   refine pM 1 (lv rfl) rfl rfl ?_
   refine pN 2 (lv rfl) rfl rfl ?_
   refine pF 3 (lv rfl) rfl fa_121_0 rfl ?_
   refine pF 4 (lv rfl) rfl fa_24_0 rfl ?_
   refine d_ld (i := 5) [] (lv rfl) rfl lk_3 rfl (by kernel_rfl) ⟨_, _, _, hH.c1, _, rfl, ?_⟩
   refine d_p (i := 6) (lv rfl) rfl (fun w => (r_remI rfl rfl ?_ ?_)) (by kernel_rfl) ?_; omega; omega
   refine pM 7 (lv rfl) rfl rfl ?_
   refine pM 8 (lv rfl) rfl rfl ?_
   refine pN 9 (lv rfl) rfl rfl ?_
   refine pF 10 (lv rfl) rfl fa_121_0 rfl ?_
   refine pF 11 (lv rfl) rfl fa_24_0 rfl ?_
   refine d_ld (i := 12) [] (lv rfl) rfl lk_3 rfl (by kernel_rfl) ⟨_, _, _, hH.c1, _, rfl, ?_⟩
   refine d_p (i := 13) (lv rfl) rfl (fun w => (r_remI rfl rfl ?_ ?_)) (by kernel_rfl) ?_; omega; omega
   refine d_p (i := 14) (lv rfl) rfl (fun w => (r_eq rfl rfl)) (by kernel_rfl) ?_
   refine d_end (by kernel_rfl) ?_
   refine g_if rfl (fun c1 => ?_) (fun c1 => ?_)
   ·refine g_region (l := [0, 1, 2]) rfl ?_
    refine vM (lv rfl) rfl rfl ?_
    refine o_v (lv rfl) rfl (r_addI rfl rfl ?_) ?_; omega
    refine vA (lv rfl) rfl rfl ?_
    refine g_inBlock ?_
    (rw [if_pos (show x.1 % m.c.shards = id % m.c.shards from c1)] at hst
     exact hback _ _ _ ⟨D ++ [lenv x], _, hDq, by simp; omega, rfl, by rw [hst]; exact (J_self (has_s rfl (has_s rfl (has_s rfl (has_s rfl has_0))))), hH⟩ (by simp; omega))
   ·refine g_skip ?_
    refine g_inBlock ?_
    (rw [if_neg (show ¬ x.1 % m.c.shards = id % m.c.shards from c1), Nat.add_zero] at hst
     exact hback _ _ _ ⟨D ++ [lenv x], _, hDq, by simp; omega, rfl, by rw [hst]; exact (J_self (has_s rfl (has_s rfl (has_s rfl (has_s rfl has_0))))), hH⟩ (by simp; omega))
end
end Go.Proofs.YtkdbglfdgeldpaaGreat
