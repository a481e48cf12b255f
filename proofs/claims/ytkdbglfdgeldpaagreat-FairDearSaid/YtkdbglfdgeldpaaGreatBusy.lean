/- Contract of package law28: a plan in which few flows have much to do. Condition: the lists are only read. -/
import Derived.Test.YtkdbglfdgeldpaaGreatKept
set_option linter.unusedVariables false
namespace Go.Proofs.YtkdbglfdgeldpaaGreat
open Go.Lt
/-- A call of such a plan. -/
def bCall (c : Call) : Prop := 1 ≤ c.op ∧ c.op ≤ 4 ∧ 0 ≤ c.flow ∧ c.flow ≤ 2 ∧ 0 ≤ c.a ∧ c.a ≤ 60 ∧ 0 ≤ c.b ∧ c.b ≤ 4
theorem bCall.ok {c : Call} (h : bCall c) : c.ok := by unfold bCall at h; unfold Call.ok I; omega
def bOk (Q : Ql) (m : Nat) : Prop := ∀ q ∈ Q, (∀ c ∈ q.2.2, bCall c) ∧ q.2.2.length ≤ m
theorem bOk.set {Q : Ql} {m : Nat} (h : bOk Q m) {m' : Nat} (hm : m ≤ m') {i : Nat} {q : Option Addr × Nat × List Call} (h1 : ∀ c ∈ q.2.2, bCall c) (h2 : q.2.2.length ≤ m') : bOk (Q.set i q) m' := by
  intro x hx
  rcases List.mem_or_eq_of_mem_set hx with h' | h'
  ·exact ⟨(h x h').1, by have := (h x h').2; omega⟩
  ·subst h'; exact ⟨h1, h2⟩
theorem bSnoc {ql : List Call} {y : Call} (h : ∀ c ∈ ql, bCall c) (hy : bCall y) : ∀ c ∈ ql ++ [y], bCall c := by
  intro c hc
  rcases List.mem_append.1 hc with h' | h'
  ·exact h c h'
  ·rw [List.mem_singleton.1 h']; exact hy
theorem wrapI (a : Int) : I (IntKind.i64.wrap a) := by
  unfold I IntKind.wrap
  simp only [IntKind.bits, IntKind.signed]
  simp
  by_cases h : 9223372036854775808 ≤ a % 18446744073709551616
  ·simp only [h, if_true]; omega
  ·simp only [h, if_false]; omega
section
variable {R : Base} {F : List HP} {w : World}
theorem b_take {Q : Ql} {L : List HP} {j : Nat} {q : Option Addr × Nat × List Call} (hq : Q[j]? = some q) (h : Go.Lt.Holds R (All (Q.map qch) :: L) w) : Go.Lt.Holds R (Vec 46 4 encC (.slice q.1 q.2.2.length q.2.1) q.2.2 :: All ((Q.map qch).eraseIdx j) :: L) w :=
  h.all_take (p := qch q) (by rw [List.getElem?_map, hq]; rfl)
theorem b_give {Q : Ql} {L : List HP} {j : Nat} (q : Option Addr × Nat × List Call) (hj : j < Q.length) (h : Go.Lt.Holds R (Vec 46 4 encC (.slice q.1 q.2.2.length q.2.1) q.2.2 :: All ((Q.map qch).eraseIdx j) :: L) w) : Go.Lt.Holds R (All ((Q.set j q).map qch) :: L) w := by
  rw [List.map_set]
  exact Holds.all_give (i := j) (p := qch q) h (by simpa using hj)
set_option maxHeartbeats 2000000 in
theorem law28_Busy {wv lv0 : Value} {ws : List Int} {l : List Call} (cf : Config) (h1 : I cf.shards) (h2 : I cf.slots) (h3 : I cf.workers) (h4 : I cf.width) (h5 : U cf.unit) (hW : Rd encI wv ws R.h) (hwl : ws.length ≤ 9223372036854775807) (hws : ∀ x ∈ ws, I x)
    (hL : Rd encC lv0 l R.h) (hll : l.length ≤ 9223372036854775807) (hlc : ∀ c ∈ l, c.ok) (hH : Go.Lt.Holds R F w) :
    Ret Tryz.prog 19 [vCfg cf, wv, lv0] w fun x w' => ∃ c' v ls', x = vPlan c' v ∧ cfgOk c' ∧ ls'.length = 2 ∧ (∀ l ∈ ls', l.length ≤ 53 ∧ ∀ c ∈ l, bCall c) ∧ Go.Lt.Holds R (ListsC v ls' :: F) w' := by
  obtain ⟨wa, wcap, rfl, hwcap⟩ := hW.len
  obtain ⟨la, lcap, rfl, hlcap⟩ := hL.len
  refine ret_of_g (n := 117) Tryz.func19 rfl rfl (by simp) ?_
  refine g_seq ?_
  refine g_region (l := [0, 1]) rfl ?_
  refine o_box (lv rfl) rfl (cs := [_, _, _, _, _]) rfl rfl hH ?_
  intro b3 w hH
  refine o_al (lv rfl) rfl ze_28 hH ?_
  intro b6 w hH
  refine g_seq ?_
  refine g_region (l := [0, 1, 2]) rfl ?_
  refine o_ldN (lv rfl) rfl lk_24 rfl ⟨_, _, _, hH.c1, [_, _, _, _, _], rfl, rfl, ?_⟩
  refine o_call (lv rfl) rfl en_39 rfl (play_Config cf h1 h2 h3 h4 h5 hH) ?_
  rintro _ w ⟨⟨cg1, cg2, cg3, cg4, cg5⟩, rfl, hcfg, hH⟩
  refine o_st (lv rfl) rfl lk_24 rfl (vs := [_, _, _, _, _]) rfl rfl (by exact hH.p1) rfl rfl (by simp) rfl ?_
  intro w hH; dsimp only [setL, List.set] at hH
  refine g_seq ?_
  unfold cfgOk at hcfg
  dsimp only at hcfg
  refine g_region (l := [0, 1, 2, 3]) rfl ?_
  refine o_v (lv rfl) rfl (r_fa fa_24_1 rfl) ?_
  refine o_st (lv rfl) rfl lk_3 rfl (vs := [_]) rfl rfl (by exact hH) rfl rfl (by simp) rfl ?_
  intro w hH; dsimp only [setL, List.set] at hH
  refine o_v (lv rfl) rfl (r_fa fa_24_2 rfl) ?_
  refine o_st (lv rfl) rfl lk_3 rfl (vs := [_]) rfl rfl (by exact hH) rfl rfl (by simp) rfl ?_
  intro w hH; dsimp only [setL, List.set] at hH
  refine g_seq ?_
  refine g_join (fun e w => ∃ (e0 : Env) (b7 b22 : Nat) (Q : Ql), Q = List.replicate 2 (none, 0, []) ∧ e = J e0 [(1, .slice wa ws.length wcap), (2, .slice la l.length lcap), (3, .pointer (some ⟨b3, 0, none⟩)), (6, .pointer (some ⟨b6, 0, none⟩)), (7, .pointer (some ⟨b7, 0, none⟩))] ∧ Go.Lt.Holds R (cel b22 (flat encQ Q) 39 :: All (Q.map qch) :: cel b7 [.int .i64 cg1, .int .i64 4, .int .i64 2, .int .i64 cg4, .int .u64 cg5, .slice (some ⟨b22, 0, none⟩) 2 2] 28 :: cel b6 [.int .i64 0, .int .i64 0, .int .i64 0, .int .i64 0, .int .u64 0, .slice none 0 0] 28 :: cel b3 [.int .i64 cg1, .int .i64 4, .int .i64 2, .int .i64 cg4, .int .u64 cg5] 24 :: F) w) (fun kk hkk => ?_) ?_
  ·refine rD mixed hH fun w hH => ?_
   refine d_ldN (i := 0) [4] (lv rfl) rfl lk_24 rfl (by kernel_rfl) ⟨_, _, _, hH.c0, [_, _, _, _, _], rfl, rfl, ?_⟩
   refine d_l2 (j := 1) (j2 := 3) (by kernel_rfl) ?_ ?_
   ·refine o_mk (lv rfl) rfl el_25 ze_39 rfl rfl rfl rfl (by omega) (by omega) (by omega) hH ?_; intro b22 w hH
    refine ⟨(keeps_cons (fun _ => (by exact hH.c1)) trivial), ?_⟩
    refine d_p (i := 2) (lv rfl) rfl (fun w => (r_bld (ps := [_, _]) (cs := [_, _, _, _, _, _]) pl_28 rfl rfl)) (by kernel_rfl) ?_
    refine d_l (j := 3) (by kernel_rfl) ?_
    refine o_al (lv rfl) rfl ze_28 hH ?_
    intro b7 w hH
    refine ⟨(keeps_cons (fun _ => (by exact hH.c2)) trivial), ?_⟩
    refine d_l (j := 4) (by kernel_rfl) ?_
    refine o_st (lv rfl) rfl lk_28 rfl (vs := [_, _, _, _, _, _]) rfl rfl (by exact hH) rfl rfl (by simp) rfl ?_
    intro w hH; dsimp only [setL, List.set] at hH
    refine ⟨(keeps_in rfl trivial), ?_⟩
    refine d_end (by kernel_rfl) ?_
    refine hkk _ _ ⟨_, _, b22, _, rfl, (J_self (has_s rfl (has_s rfl (has_s rfl (has_s rfl (has_s rfl has_0)))))), ?_⟩
    rw [flat_rep encQ]
    exact Holds.p1 (all_rep 2 (hH.sel (by repeat' (first | exact Sel.refl _ | refine Sel.q0 ?_ | refine Sel.q1 ?_))))
   ·refine o_al (lv rfl) rfl ze_28 hH ?_
    intro b7 w hH
    refine ⟨(keeps_cons (fun _ => (by exact hH.c1)) trivial), ?_⟩
    refine d_l (j := 1) (by kernel_rfl) ?_
    refine o_mk (lv rfl) rfl el_25 ze_39 rfl rfl rfl rfl (by omega) (by omega) (by omega) hH ?_; intro b22 w hH
    refine ⟨(keeps_cons (fun _ => (by exact hH.c2)) trivial), ?_⟩
    refine d_p (i := 2) (lv rfl) rfl (fun w => (r_bld (ps := [_, _]) (cs := [_, _, _, _, _, _]) pl_28 rfl rfl)) (by kernel_rfl) ?_
    refine d_l (j := 4) (by kernel_rfl) ?_
    refine o_st (lv rfl) rfl lk_28 rfl (vs := [_, _, _, _, _, _]) rfl rfl (by exact hH.p1) rfl rfl (by simp) rfl ?_
    intro w hH; dsimp only [setL, List.set] at hH
    refine ⟨(keeps_in rfl trivial), ?_⟩
    refine d_end (by kernel_rfl) ?_
    refine hkk _ _ ⟨_, _, b22, _, rfl, (J_self (has_s rfl (has_s rfl (has_s rfl (has_s rfl (has_s rfl has_0)))))), ?_⟩
    rw [flat_rep encQ]
    exact Holds.p1 (all_rep 2 (hH.sel (by repeat' (first | exact Sel.refl _ | refine Sel.q0 ?_ | refine Sel.q1 ?_))))
  ·rintro _ w ⟨e0, b7, b22, Q, hQ, rfl, hH⟩
   have hQN : Q.length = 2 := by rw [hQ]; rfl
   have hQok : bOk Q 0 := by
     intro q hq
     rw [hQ] at hq
     rw [List.eq_of_mem_replicate hq]; simp
   clear hQ
   refine g_seq ?_
   refine g_seq ?_
   refine g_region (l := [0]) rfl ?_
   refine vA (lv rfl) rfl rfl ?_
   refine g_block ?_
   refine g_loop (fun mm e w => ∃ (i : Nat) (e0 : Env) (Q : Ql), i ≤ 3 ∧ mm = 3 - i ∧ Q.length = 2 ∧ bOk Q i ∧ e = J e0 [(1, .slice wa ws.length wcap), (2, .slice la l.length lcap), (3, .pointer (some ⟨b3, 0, none⟩)), (6, .pointer (some ⟨b6, 0, none⟩)), (7, .pointer (some ⟨b7, 0, none⟩)), (8, .int .i64 i)] ∧ Go.Lt.Holds R (cel b22 (flat encQ Q) 39 :: All (Q.map qch) :: cel b7 [.int .i64 cg1, .int .i64 4, .int .i64 2, .int .i64 cg4, .int .u64 cg5, .slice (some ⟨b22, 0, none⟩) 2 2] 28 :: cel b6 [.int .i64 0, .int .i64 0, .int .i64 0, .int .i64 0, .int .u64 0, .slice none 0 0] 28 :: cel b3 [.int .i64 cg1, .int .i64 4, .int .i64 2, .int .i64 cg4, .int .u64 cg5] 24 :: F) w) 3 ⟨0, _, Q, by omega, rfl, hQN, hQok, (J_self (has_s rfl (has_s rfl (has_s rfl (has_s rfl (has_s rfl (has_s rfl has_0))))))), (hH.sel (by repeat' (first | exact Sel.refl _)))⟩ ?_; clear hQN hQok
   rintro mm _ w ⟨i, e1, Q, hi, hm, hQN, hQok, rfl, hH⟩ hback
   refine g_seq ?_
   refine g_seq ?_
   refine g_region (l := [0, 1]) rfl ?_
   refine vM (lv rfl) rfl rfl ?_
   refine o_v (lv rfl) rfl (r_lt rfl rfl) ?_
   refine g_if rfl (fun c0 => ?_) (fun c0 => ?_)
   ·refine g_skip ?_
    refine g_seq ?_
    refine g_block ?_
    refine g_seq ?_
    refine g_region (l := [0, 1, 2]) rfl ?_
    refine vM (lv rfl) rfl rfl ?_
    refine o_v (lv rfl) rfl (r_addI rfl rfl ?_) ?_; omega
    refine vA (lv rfl) rfl rfl ?_
    refine g_seq ?_
    refine g_seq ?_
    refine g_region (l := [0, 1, 2, 3]) rfl ?_
    refine vM (lv rfl) rfl rfl ?_
    refine vM (lv rfl) rfl rfl ?_
    refine o_v (lv rfl) rfl (r_len el_26 rfl) ?_
    refine o_v (lv rfl) rfl (r_lt rfl rfl) ?_
    refine g_join (fun e w => ∃ (e0 : Env) (ww : Int), (1 ≤ ww ∧ ww ≤ 40) ∧ e = J e0 [(1, .slice wa ws.length wcap), (2, .slice la l.length lcap), (3, .pointer (some ⟨b3, 0, none⟩)), (6, .pointer (some ⟨b6, 0, none⟩)), (7, .pointer (some ⟨b7, 0, none⟩)), (8, .int .i64 i), (9, .int .i64 ww)] ∧ Go.Lt.Holds R (cel b22 (flat encQ Q) 39 :: All (Q.map qch) :: cel b7 [.int .i64 cg1, .int .i64 4, .int .i64 2, .int .i64 cg4, .int .u64 cg5, .slice (some ⟨b22, 0, none⟩) 2 2] 28 :: cel b6 [.int .i64 0, .int .i64 0, .int .i64 0, .int .i64 0, .int .u64 0, .slice none 0 0] 28 :: cel b3 [.int .i64 cg1, .int .i64 4, .int .i64 2, .int .i64 cg4, .int .u64 cg5] 24 :: F) w) (fun kk hkk => ?_) ?_
    ·refine g_if rfl (fun c1 => ?_) (fun c1 => ?_)
     ·have hil : i < ws.length := by omega
      obtain ⟨x, hx⟩ : ∃ x, ws[i]? = some x := ⟨_, List.getElem?_eq_getElem hil⟩
      have hxI := hws x (List.mem_of_getElem? hx)
      have hmx := md_b x (n := 40) (by omega)
      obtain ⟨bw, ow, csw, Tw, hwe, hbw, hcw0⟩ := Rd.el hkI hW hx
      subst hwe
      have hcw := hcw0 0 _ rfl
      refine g_region (l := [0, 1, 2, 3, 4, 5, 6]) rfl ?_
      refine vM (lv rfl) rfl rfl ?_
      refine vM (lv rfl) rfl rfl ?_
      refine o_v (lv rfl) rfl (r_ia el_26 rfl rfl ?_ ?_) ?_; omega; omega
      refine o_ld (lv rfl) rfl lk_3 rfl ⟨_, _, _, hH.old hbw, _, hcw, ?_⟩
      refine o_call (lv rfl) rfl en_12 rfl (play_Mod x 40 hxI (by omega) (by omega) hH) ?_
      rintro _ w ⟨rfl, hH⟩
      refine o_v (lv rfl) rfl (r_addI rfl rfl ?_) ?_; omega
      refine vA (lv rfl) rfl rfl ?_
      (have hg : (i : Int) < ws.length := c1
       exact hkk _ _ ⟨_, _, by omega, (J_self (has_s rfl (has_s rfl (has_s rfl (has_s rfl (has_s rfl (has_s rfl (has_s rfl has_0)))))))), (hH.sel (by repeat' (first | exact Sel.refl _)))⟩)
     ·refine g_skip ?_
      (have hg : ¬ (i : Int) < ws.length := c1
       exact hkk _ _ ⟨_, 1 + (i : Int), by omega, (J_self (has_s rfl (has_s rfl (has_s rfl (has_s rfl (has_s rfl (has_s rfl (has_s rfl has_0)))))))), (hH.sel (by repeat' (first | exact Sel.refl _)))⟩)
    ·rintro _ w ⟨e2, ww, hww, rfl, hH⟩
     obtain ⟨⟨qa, qc, ql⟩, hq⟩ : ∃ q, Q[0]? = some q := ⟨_, List.getElem?_eq_getElem (by omega)⟩
     have hqok := hQok _ (List.mem_of_getElem? hq)
     dsimp only at hqok
     replace hH := b_take hq hH.p1
     dsimp only at hH
     have hcq : (flat encQ Q)[0 + ((0 : Int)).toNat * 1]? = some (.slice qa ql.length qc) := flat_at1 (f := fQ) (fun _ => rfl) (by simp) hq
     refine rD mixed hH fun w hH => ?_
     refine pF 0 (lv rfl) rfl fa_28_1 rfl ?_
     refine d_ld (i := 1) [12] (lv rfl) rfl lk_25 rfl (by kernel_rfl) ⟨_, _, _, hH.c3, _, rfl, ?_⟩
     refine pF 2 (lv rfl) rfl fa_28_1 rfl ?_
     refine d_ld (i := 3) [10, 12] (lv rfl) rfl lk_25 rfl (by kernel_rfl) ⟨_, _, _, hH.c3, _, rfl, ?_⟩
     refine d_p (i := 4) (lv rfl) rfl (fun w => (r_ia el_25 rfl rfl ?_ ?_)) (by kernel_rfl) ?_; omega; omega
     refine d_ld (i := 5) [10, 12] (lv rfl) rfl lk_39 rfl (by kernel_rfl) ⟨_, _, _, hH.c2, _, hcq, ?_⟩
     refine pM 6 (lv rfl) rfl rfl ?_
     refine pM 7 (lv rfl) rfl rfl ?_
     refine d_p (i := 8) (lv rfl) rfl (fun w => (r_bld (ps := [_, _, _, _]) (cs := [_, _, _, _]) pl_46 rfl rfl)) (by kernel_rfl) ?_
     refine d_l (j := 9) (by kernel_rfl) ?_
     refine o_bs (lv rfl) rfl el_39 ze_46 rfl rfl rfl (ps := [_]) rfl rfl rfl (cs := [_, _, _, _]) rfl hH ?_
     intro b45 w hH
     refine ⟨(keeps_cons (fun _ => (by exact hH.c3)) (keeps_cons (fun _ => (by exact hH.c4)) (keeps_cons (fun _ => (by exact hH.c4)) trivial))), ?_⟩
     refine d_l (j := 10) (by kernel_rfl) ?_
     refine o_app (enc := encC) (lv rfl) rfl el_39 ze_46 rfl (fun _ => rfl) (fun _ => rfl) rfl rfl (by exact hH.p1) (rd_of_cel [(⟨1, i, ww, 4⟩ : Call)] (by exact hH.c0) rfl) (by simp; omega) (by simp; omega) ?_
     intro v46 w hH; obtain ⟨a46, k46, rfl, -⟩ := hH.rd.len
     refine ⟨(keeps_in rfl (keeps_in rfl (keeps_cons (fun _ => (by exact hH.c4)) trivial))), ?_⟩
     refine d_p (i := 11) (lv rfl) rfl (fun w => (r_ia el_25 rfl rfl ?_ ?_)) (by kernel_rfl) ?_; omega; omega
     refine d_l (j := 12) (by kernel_rfl) ?_
     refine o_st (lv rfl) rfl lk_39 rfl rfl (vs := [_]) rfl (by exact hH.p3) rfl rfl ?_ (setL_flat1 (enc := encQ) (f := fQ) (fun _ => rfl) (l := Q) (x := (a46, k46, ql ++ [⟨1, i, ww, 4⟩])) (i := 0) (by simp)) ?_
     ·rw [flat_length hkQ]; simp only [List.length_singleton]; simp; omega
     intro w hH
     refine ⟨(keeps_in rfl (keeps_in rfl (keeps_in rfl trivial))), ?_⟩
     refine d_end (by kernel_rfl) ?_
     refine g_inBlock ?_
     refine g_region (l := [0, 1, 2]) rfl ?_
     refine vM (lv rfl) rfl rfl ?_
     refine o_v (lv rfl) rfl (r_addI rfl rfl ?_) ?_; omega
     refine vA (lv rfl) rfl rfl ?_
     have hset : Go.Lt.Holds R (cel b22 (flat encQ (Q.set 0 (a46, k46, ql ++ [⟨1, i, ww, 4⟩]))) 39 :: All ((Q.set 0 (a46, k46, ql ++ [⟨1, i, ww, 4⟩])).map qch) :: cel b7 [.int .i64 cg1, .int .i64 4, .int .i64 2, .int .i64 cg4, .int .u64 cg5, .slice (some ⟨b22, 0, none⟩) 2 2] 28 :: cel b6 [.int .i64 0, .int .i64 0, .int .i64 0, .int .i64 0, .int .u64 0, .slice none 0 0] 28 :: cel b3 [.int .i64 cg1, .int .i64 4, .int .i64 2, .int .i64 cg4, .int .u64 cg5] 24 :: F) w := by
       refine Holds.p1 (b_give _ (by omega) ?_)
       exact (hH.sel (by repeat' (first | exact Sel.refl _ | refine Sel.q0 ?_ | refine Sel.q1 ?_ | refine Sel.q2 ?_ | refine Sel.skip _ ?_)))
     exact hback _ _ _ ⟨i + 1, _, _, by omega, rfl, by simpa using hQN, hQok.set (by omega) (bSnoc hqok.1 (by unfold bCall; dsimp only; omega)) (by simp; omega), (J_self (has_s rfl (has_s rfl (has_s rfl (has_s rfl (has_s rfl (has_s rfl has_0))))))), hset⟩ (by omega)
   ·refine g_exit rfl ?_
    refine g_seq ?_
    refine g_seq ?_
    refine g_region (l := [0]) rfl ?_
    refine vA (lv rfl) rfl rfl ?_
    refine g_block ?_
    refine g_loop (fun mm e w => ∃ (i : Nat) (e0 : Env) (Q : Ql), i ≤ 50 ∧ mm = 50 - i ∧ Q.length = 2 ∧ bOk Q (3 + i) ∧ e = J e0 [(1, .slice wa ws.length wcap), (2, .slice la l.length lcap), (3, .pointer (some ⟨b3, 0, none⟩)), (6, .pointer (some ⟨b6, 0, none⟩)), (7, .pointer (some ⟨b7, 0, none⟩)), (10, .int .i64 i)] ∧ Go.Lt.Holds R (cel b22 (flat encQ Q) 39 :: All (Q.map qch) :: cel b7 [.int .i64 cg1, .int .i64 4, .int .i64 2, .int .i64 cg4, .int .u64 cg5, .slice (some ⟨b22, 0, none⟩) 2 2] 28 :: cel b6 [.int .i64 0, .int .i64 0, .int .i64 0, .int .i64 0, .int .u64 0, .slice none 0 0] 28 :: cel b3 [.int .i64 cg1, .int .i64 4, .int .i64 2, .int .i64 cg4, .int .u64 cg5] 24 :: F) w) 50 ⟨0, _, Q, by omega, rfl, hQN, (fun q hq => ⟨(hQok q hq).1, by have := (hQok q hq).2; omega⟩), (J_self (has_s rfl (has_s rfl (has_s rfl (has_s rfl (has_s rfl (has_s rfl has_0))))))), (hH.sel (by repeat' (first | exact Sel.refl _)))⟩ ?_; clear hQN hQok hback
    rintro mm2 _ w ⟨i, e1, Q, hi, hm, hQN, hQok, rfl, hH⟩ hback
    refine g_seq ?_
    refine g_seq ?_
    refine g_region (l := [0, 1]) rfl ?_
    refine vM (lv rfl) rfl rfl ?_
    refine o_v (lv rfl) rfl (r_lt rfl rfl) ?_
    refine g_if rfl (fun c2 => ?_) (fun c2 => ?_)
    ·refine g_skip ?_
     refine g_seq ?_
     refine g_block ?_
     refine g_seq ?_
     refine g_region (l := [0, 1, 2, 3, 4, 5, 6, 7]) rfl ?_
     refine vM (lv rfl) rfl rfl ?_
     refine o_v (lv rfl) rfl (r_remI rfl rfl ?_ ?_) ?_; omega; omega
     refine vM (lv rfl) rfl rfl ?_
     refine o_v (lv rfl) rfl (r_remI rfl rfl ?_ ?_) ?_; omega; omega
     refine o_v (lv rfl) rfl (r_addI rfl rfl ?_) ?_; omega
     refine o_v (lv rfl) rfl (r_bld (ps := [_, _, _]) (cs := [_, _, _, _]) pl_46 rfl rfl) ?_
     refine o_al (lv rfl) rfl ze_46 hH ?_
     intro b11 w hH
     refine o_st (lv rfl) rfl lk_46 rfl (vs := [_, _, _, _]) rfl rfl (by exact hH) rfl rfl (by simp) rfl ?_
     intro w hH; dsimp only [setL, List.set] at hH
     refine g_seq ?_
     refine g_seq ?_
     refine g_region (l := [0, 1, 2]) rfl ?_
     refine vM (lv rfl) rfl rfl ?_
     refine o_v (lv rfl) rfl (r_len el_39 rfl) ?_
     refine o_v (lv rfl) rfl (r_gt rfl rfl) ?_
     refine g_join (fun e w => ∃ (e0 : Env) (y : Call), bCall y ∧ e = J e0 [(1, .slice wa ws.length wcap), (2, .slice la l.length lcap), (3, .pointer (some ⟨b3, 0, none⟩)), (6, .pointer (some ⟨b6, 0, none⟩)), (7, .pointer (some ⟨b7, 0, none⟩)), (10, .int .i64 i), (11, .pointer (some ⟨b11, 0, none⟩))] ∧ Go.Lt.Holds R (cel b11 [.int .i64 y.op, .int .i64 y.flow, .int .i64 y.a, .int .i64 y.b] 46 :: cel b22 (flat encQ Q) 39 :: All (Q.map qch) :: cel b7 [.int .i64 cg1, .int .i64 4, .int .i64 2, .int .i64 cg4, .int .u64 cg5, .slice (some ⟨b22, 0, none⟩) 2 2] 28 :: cel b6 [.int .i64 0, .int .i64 0, .int .i64 0, .int .i64 0, .int .u64 0, .slice none 0 0] 28 :: cel b3 [.int .i64 cg1, .int .i64 4, .int .i64 2, .int .i64 cg4, .int .u64 cg5] 24 :: F) w) (fun kk hkk => ?_) ?_
     ·refine g_if rfl (fun c3 => ?_) (fun c3 => ?_)
      ·have hl0 : 0 < l.length := by omega
       obtain ⟨x, hx⟩ : ∃ x, l[i % l.length]? = some x := ⟨_, List.getElem?_eq_getElem (Nat.mod_lt _ hl0)⟩
       have hxok := hlc x (List.mem_of_getElem? hx)
       have hxok' := hxok
       unfold Call.ok at hxok'
       obtain ⟨bc, oc, csc, Tc, hle, hbc, hcc0⟩ := Rd.el hkC hL hx
       subst hle
       have hcc := dt_of hcc0
       have hm1 := md_b (IntKind.i64.wrap (x.flow + (i : Int) / (l.length : Int))) (n := 3) (by omega)
       have hm2 := md_b (IntKind.i64.wrap (x.a + (i : Int))) (n := 60) (by omega)
       have hm3 := md_b x.flow (n := 3) (by omega)
       refine g_seq ?_
       refine g_region (l := [0, 1, 2, 3, 4, 5, 6, 7, 8]) rfl ?_
       refine vM (lv rfl) rfl rfl ?_
       refine vM (lv rfl) rfl rfl ?_
       refine vM (lv rfl) rfl rfl ?_
       refine o_v (lv rfl) rfl (r_len el_39 rfl) ?_
       refine o_v (lv rfl) rfl (r_remI rfl rfl (by omega) (by omega)) ?_
       rw [show ((i : Int) % (l.length : Int)) = ((i % l.length : Nat) : Int) from by simp]
       refine o_v (lv rfl) rfl (r_ia el_39 rfl rfl (by have := Nat.mod_lt i hl0; omega) (by have := Nat.mod_lt i hl0; omega)) ?_
       refine o_ldN (lv rfl) rfl lk_46 rfl ⟨_, _, _, hH.old hbc, _, hcc, rfl, ?_⟩
       refine o_al (lv rfl) rfl ze_46 hH ?_
       intro b12 w hH
       refine o_st (lv rfl) rfl lk_46 rfl (vs := [_, _, _, _]) rfl rfl (by exact hH) rfl rfl (by simp) rfl ?_
       intro w hH; dsimp only [setL, List.set] at hH
       refine g_seq ?_
       refine rD mixed hH fun w hH => ?_
       refine pF 0 (lv rfl) rfl fa_46_1 rfl ?_
       refine d_ld (i := 1) [7, 12, 15, 17] (lv rfl) rfl lk_3 rfl (by kernel_rfl) ⟨_, _, _, hH.c0, _, rfl, ?_⟩
       refine pM 2 (lv rfl) rfl rfl ?_
       refine pM 3 (lv rfl) rfl rfl ?_
       refine d_p (i := 4) (lv rfl) rfl (fun w => (r_len el_39 rfl)) (by kernel_rfl) ?_
       refine d_p (i := 5) (lv rfl) rfl (fun w => (r_quoI rfl rfl ?_ ?_)) (by kernel_rfl) ?_; omega; omega
       refine d_p (i := 6) (lv rfl) rfl (fun w => (r_add rfl rfl)) (by kernel_rfl) ?_
       refine pF 8 (lv rfl) rfl fa_46_2 rfl ?_
       refine d_ld (i := 9) [12, 15, 17] (lv rfl) rfl lk_3 rfl (by kernel_rfl) ⟨_, _, _, hH.c0, _, rfl, ?_⟩
       refine pM 10 (lv rfl) rfl rfl ?_
       refine d_p (i := 11) (lv rfl) rfl (fun w => (r_add rfl rfl)) (by kernel_rfl) ?_
       refine d_l (j := 7) (by kernel_rfl) ?_
       refine o_call (lv rfl) rfl en_12 rfl (play_Mod _ 3 (wrapI _) (by omega) (by omega) hH) ?_
       rintro _ w ⟨rfl, hH⟩
       refine ⟨(keeps_cons (fun _ => (by exact hH.c0)) (keeps_in rfl trivial)), ?_⟩
       refine pF 14 (lv rfl) rfl fa_46_1 rfl ?_
       refine d_l (j := 12) (by kernel_rfl) ?_
       refine o_call (lv rfl) rfl en_12 rfl (play_Mod _ 60 (wrapI _) (by omega) (by omega) hH) ?_
       rintro _ w ⟨rfl, hH⟩
       refine ⟨(keeps_in rfl (keeps_in rfl trivial)), ?_⟩
       refine d_p (i := 13) (lv rfl) rfl (fun w => (r_addI rfl rfl ?_)) (by kernel_rfl) ?_; omega
       refine d_l (j := 15) (by kernel_rfl) ?_
       refine o_st (lv rfl) rfl lk_3 rfl (vs := [_]) rfl rfl (by exact hH.p1) rfl rfl (by simp) rfl ?_
       intro w hH; dsimp only [setL, List.set] at hH
       refine ⟨(keeps_in rfl (keeps_in rfl trivial)), ?_⟩
       refine pF 16 (lv rfl) rfl fa_46_2 rfl ?_
       refine d_l (j := 17) (by kernel_rfl) ?_
       refine o_st (lv rfl) rfl lk_3 rfl (vs := [_]) rfl rfl (by exact hH) rfl rfl (by simp) rfl ?_
       intro w hH; dsimp only [setL, List.set] at hH
       refine ⟨(keeps_in rfl (keeps_in rfl trivial)), ?_⟩
       refine d_end (by kernel_rfl) ?_
       refine g_seq ?_
       refine g_seq ?_
       refine g_region (l := [0, 1, 2, 3, 4, 5, 6]) rfl ?_
       refine o_v (lv rfl) rfl (r_fa fa_46_0 rfl) ?_
       refine o_ld (lv rfl) rfl lk_3 rfl ⟨_, _, _, hH.c1, _, rfl, ?_⟩
       refine vM (lv rfl) rfl rfl ?_
       refine o_v (lv rfl) rfl (r_quoI rfl rfl ?_ ?_) ?_; omega; omega
       refine o_v (lv rfl) rfl (r_add rfl rfl) ?_
       refine o_call (lv rfl) rfl en_12 rfl (play_Mod _ 7 (wrapI _) (by omega) (by omega) hH) ?_
       rintro _ w ⟨rfl, hH⟩
       refine o_v (lv rfl) rfl (r_gt rfl rfl) ?_
       refine g_join (fun e w => ∃ (e0 : Env) (y : Call), bCall y ∧ e = J e0 [(1, .slice wa ws.length wcap), (2, .slice (some ⟨bc, oc, none⟩) l.length lcap), (3, .pointer (some ⟨b3, 0, none⟩)), (6, .pointer (some ⟨b6, 0, none⟩)), (7, .pointer (some ⟨b7, 0, none⟩)), (10, .int .i64 i), (11, .pointer (some ⟨b11, 0, none⟩)), (12, .pointer (some ⟨b12, 0, none⟩))] ∧ Go.Lt.Holds R (cel b12 [.int .i64 x.op, .int .i64 x.flow, .int .i64 x.a, .int .i64 x.b] 46 :: cel b11 [.int .i64 y.op, .int .i64 y.flow, .int .i64 y.a, .int .i64 y.b] 46 :: cel b22 (flat encQ Q) 39 :: All (Q.map qch) :: cel b7 [.int .i64 cg1, .int .i64 4, .int .i64 2, .int .i64 cg4, .int .u64 cg5, .slice (some ⟨b22, 0, none⟩) 2 2] 28 :: cel b6 [.int .i64 0, .int .i64 0, .int .i64 0, .int .i64 0, .int .u64 0, .slice none 0 0] 28 :: cel b3 [.int .i64 cg1, .int .i64 4, .int .i64 2, .int .i64 cg4, .int .u64 cg5] 24 :: F) w) (fun kk hkk => ?_) ?_
       ·refine g_if rfl (fun c4 => ?_) (fun c4 => ?_)
        ·refine g_region (l := [0, 1]) rfl ?_
         refine o_v (lv rfl) rfl (r_bld (ps := [_]) (cs := [_, _, _, _]) pl_46 rfl rfl) ?_
         refine o_st (lv rfl) rfl lk_46 rfl (vs := [_, _, _, _]) rfl rfl (by exact hH) rfl rfl (by simp) rfl ?_
         intro w hH; dsimp only [setL, List.set] at hH
         (have hg : md (IntKind.i64.wrap (x.op + (i : Int) / 3)) 7 > 4 := c4
          exact hkk _ _ ⟨_, ⟨4, 0, 0, 0⟩, by unfold bCall; dsimp only; omega, (J_self (has_s rfl (has_s rfl (has_s rfl (has_s rfl (has_s rfl (has_s rfl (has_s rfl (has_s rfl has_0))))))))), by dsimp only; exact (hH.sel (by repeat' (first | exact Sel.refl _ | refine Sel.q1 ?_)))⟩)
        ·refine g_skip ?_
         (have hg : ¬ md (IntKind.i64.wrap (x.op + (i : Int) / 3)) 7 > 4 := c4
          exact hkk _ _ ⟨_, ⟨3, md (IntKind.i64.wrap (x.flow + (i : Int) / (l.length : Int))) 3, 1 + md (IntKind.i64.wrap (x.a + (i : Int))) 60, 0⟩, by unfold bCall; dsimp only; omega, (J_self (has_s rfl (has_s rfl (has_s rfl (has_s rfl (has_s rfl (has_s rfl (has_s rfl (has_s rfl has_0))))))))), by dsimp only; exact (hH.sel (by repeat' (first | exact Sel.refl _ | refine Sel.q1 ?_)))⟩)
       ·rintro _ w ⟨e4, y, hy, rfl, hH⟩
        refine g_seq ?_
        refine g_region (l := [0, 1, 2, 3, 4, 5]) rfl ?_
        refine o_v (lv rfl) rfl (r_fa fa_46_0 rfl) ?_
        refine o_ld (lv rfl) rfl lk_3 rfl ⟨_, _, _, hH.c0, _, rfl, ?_⟩
        refine vM (lv rfl) rfl rfl ?_
        refine o_v (lv rfl) rfl (r_add rfl rfl) ?_
        refine o_call (lv rfl) rfl en_12 rfl (play_Mod _ 41 (wrapI _) (by omega) (by omega) hH) ?_
        rintro _ w ⟨rfl, hH⟩
        refine o_v (lv rfl) rfl (r_eq rfl rfl) ?_
        refine g_if rfl (fun c5 => ?_) (fun c5 => ?_)
        ·refine g_region (l := [0, 1, 2, 3, 4]) rfl ?_
         refine o_v (lv rfl) rfl (r_fa fa_46_1 rfl) ?_
         refine o_ld (lv rfl) rfl lk_3 rfl ⟨_, _, _, hH.c0, _, rfl, ?_⟩
         refine o_call (lv rfl) rfl en_12 rfl (play_Mod _ 3 hxok'.2.1 (by omega) (by omega) hH) ?_
         rintro _ w ⟨rfl, hH⟩
         refine o_v (lv rfl) rfl (r_bld (ps := [_, _]) (cs := [_, _, _, _]) pl_46 rfl rfl) ?_
         refine o_st (lv rfl) rfl lk_46 rfl (vs := [_, _, _, _]) rfl rfl (by exact hH.p1) rfl rfl (by simp) rfl ?_
         intro w hH; dsimp only [setL, List.set] at hH
         (have hg : md (IntKind.i64.wrap (x.op + (i : Int))) 41 = 40 := c5
          exact hkk _ _ ⟨_, ⟨2, md x.flow 3, 0, 0⟩, by unfold bCall; dsimp only; omega, (J_self (has_s rfl (has_s rfl (has_s rfl (has_s rfl (has_s rfl (has_s rfl (has_s rfl has_0)))))))), by dsimp only; exact (hH.sel (by repeat' (first | exact Sel.refl _ | refine Sel.q0 ?_ | refine Sel.q1 ?_ | refine Sel.skip _ ?_)))⟩)
        ·refine g_skip ?_
         (have hg : ¬ md (IntKind.i64.wrap (x.op + (i : Int))) 41 = 40 := c5
          exact hkk _ _ ⟨_, y, hy, (J_self (has_s rfl (has_s rfl (has_s rfl (has_s rfl (has_s rfl (has_s rfl (has_s rfl has_0)))))))), (hH.sel (by repeat' (first | exact Sel.refl _ | refine Sel.q1 ?_ | refine Sel.skip _ ?_)))⟩)
      ·refine g_skip ?_
       (have hg : ¬ (l.length : Int) > 0 := c3
        exact hkk _ _ ⟨_, ⟨3, (i : Int) % 3, 1 + (i : Int) % 4, 0⟩, by unfold bCall; dsimp only; omega, (J_self (has_s rfl (has_s rfl (has_s rfl (has_s rfl (has_s rfl (has_s rfl (has_s rfl has_0)))))))), by dsimp only; exact (hH.sel (by repeat' (first | exact Sel.refl _)))⟩)
     ·rintro _ w ⟨e3, y, hy, rfl, hH⟩
      obtain ⟨⟨qa, qc, ql⟩, hq⟩ : ∃ q, Q[i % 2]? = some q := ⟨_, List.getElem?_eq_getElem (by omega)⟩
      have hqok := hQok _ (List.mem_of_getElem? hq)
      dsimp only at hqok
      replace hH := b_take hq hH.p2
      dsimp only at hH
      have hcq : (flat encQ Q)[0 + ((i : Int) % 2).toNat * 1]? = some (.slice qa ql.length qc) := flat_at1 (f := fQ) (fun _ => rfl) (by omega) hq
      refine rD mixed hH fun w hH => ?_
      refine pF 0 (lv rfl) rfl fa_28_1 rfl ?_
      refine d_ld (i := 1) [14] (lv rfl) rfl lk_25 rfl (by kernel_rfl) ⟨_, _, _, hH.c4, _, rfl, ?_⟩
      refine pM 2 (lv rfl) rfl rfl ?_
      refine d_p (i := 3) (lv rfl) rfl (fun w => (r_remI rfl rfl ?_ ?_)) (by kernel_rfl) ?_; omega; omega
      refine pF 4 (lv rfl) rfl fa_28_1 rfl ?_
      refine d_ld (i := 5) [12, 14] (lv rfl) rfl lk_25 rfl (by kernel_rfl) ⟨_, _, _, hH.c4, _, rfl, ?_⟩
      refine pM 6 (lv rfl) rfl rfl ?_
      refine d_p (i := 7) (lv rfl) rfl (fun w => (r_remI rfl rfl ?_ ?_)) (by kernel_rfl) ?_; omega; omega
      refine d_p (i := 8) (lv rfl) rfl (fun w => (r_ia el_25 rfl rfl ?_ ?_)) (by kernel_rfl) ?_; omega; omega
      refine d_ld (i := 9) [12, 14] (lv rfl) rfl lk_39 rfl (by kernel_rfl) ⟨_, _, _, hH.c3, _, hcq, ?_⟩
      refine d_ldN (i := 10) [11, 12, 14] (lv rfl) rfl lk_46 rfl (by kernel_rfl) ⟨_, _, _, hH.c2, [_, _, _, _], rfl, rfl, ?_⟩
      refine d_l (j := 11) (by kernel_rfl) ?_
      refine o_bs (lv rfl) rfl el_39 ze_46 rfl rfl rfl (ps := [_]) rfl rfl rfl (cs := [_, _, _, _]) rfl hH ?_
      intro b113 w hH
      refine ⟨(keeps_in rfl (keeps_cons (fun _ => (by exact hH.c4)) (keeps_cons (fun _ => (by exact hH.c5)) (keeps_cons (fun _ => (by exact hH.c5)) trivial)))), ?_⟩
      refine d_l (j := 12) (by kernel_rfl) ?_
      refine o_app (enc := encC) (lv rfl) rfl el_39 ze_46 rfl (fun _ => rfl) (fun _ => rfl) rfl rfl (by exact hH.p1) (rd_of_cel [y] (by exact hH.c0) rfl) (by simp; omega) (by simp; omega) ?_
      intro v114 w hH; obtain ⟨a114, k114, rfl, -⟩ := hH.rd.len
      refine ⟨(keeps_in rfl (keeps_in rfl (keeps_in rfl (keeps_cons (fun _ => (by exact hH.c5)) trivial)))), ?_⟩
      refine d_p (i := 13) (lv rfl) rfl (fun w => (r_ia el_25 rfl rfl ?_ ?_)) (by kernel_rfl) ?_; omega; omega
      refine d_l (j := 14) (by kernel_rfl) ?_
      refine o_st (lv rfl) rfl lk_39 rfl rfl (vs := [_]) rfl (by exact hH.p4) rfl rfl ?_ (setL_flat1 (enc := encQ) (f := fQ) (fun _ => rfl) (l := Q) (x := (a114, k114, ql ++ [y])) (i := i % 2) (by omega)) ?_
      ·rw [flat_length hkQ]; simp only [List.length_singleton]; omega
      intro w hH
      refine ⟨(keeps_in rfl (keeps_in rfl (keeps_in rfl (keeps_in rfl trivial)))), ?_⟩
      refine d_end (by kernel_rfl) ?_
      refine g_inBlock ?_
      refine g_region (l := [0, 1, 2]) rfl ?_
      refine vM (lv rfl) rfl rfl ?_
      refine o_v (lv rfl) rfl (r_addI rfl rfl ?_) ?_; omega
      refine vA (lv rfl) rfl rfl ?_
      have hset : Go.Lt.Holds R (cel b22 (flat encQ (Q.set (i % 2) (a114, k114, ql ++ [y]))) 39 :: All ((Q.set (i % 2) (a114, k114, ql ++ [y])).map qch) :: cel b7 [.int .i64 cg1, .int .i64 4, .int .i64 2, .int .i64 cg4, .int .u64 cg5, .slice (some ⟨b22, 0, none⟩) 2 2] 28 :: cel b6 [.int .i64 0, .int .i64 0, .int .i64 0, .int .i64 0, .int .u64 0, .slice none 0 0] 28 :: cel b3 [.int .i64 cg1, .int .i64 4, .int .i64 2, .int .i64 cg4, .int .u64 cg5] 24 :: F) w := by
        refine Holds.p1 (b_give _ (by omega) ?_)
        exact (hH.sel (by repeat' (first | exact Sel.refl _ | refine Sel.q0 ?_ | refine Sel.q1 ?_ | refine Sel.q2 ?_ | refine Sel.skip _ ?_)))
      exact hback _ _ _ ⟨i + 1, _, _, by omega, rfl, by simpa using hQN, hQok.set (by omega) (bSnoc hqok.1 hy) (by simp; omega), (J_self (has_s rfl (has_s rfl (has_s rfl (has_s rfl (has_s rfl (has_s rfl has_0))))))), hset⟩ (by omega)
    ·refine g_exit rfl ?_
     refine g_seq ?_
     refine g_region (l := [0, 1]) rfl ?_
     refine o_ldN (lv rfl) rfl lk_28 rfl ⟨_, _, _, hH.c2, [_, _, _, _, _, _], rfl, rfl, ?_⟩
     refine o_st (lv rfl) rfl lk_28 rfl (vs := [_, _, _, _, _, _]) rfl rfl (by exact hH.p3) rfl rfl (by simp) rfl ?_
     intro w hH; dsimp only [setL, List.set] at hH
     refine g_rq Tryz.func19 (res_cell rfl (run_loadVarN (vs := [_, _, _, _, _, _]) lk_28 (cells_of hH.c0 rfl)) res_0) ?_
     have hLs := ListsC.mk (F := F) (b := b22) (Q := Q) (hH.sel (by repeat' (first | exact Sel.refl _ | refine Sel.q1 ?_ | refine Sel.skip _ ?_)))
     rw [hQN] at hLs
     refine ⟨⟨cg1, 4, 2, cg4, cg5⟩, _, _, rfl, by unfold cfgOk; dsimp only; omega, by simp [hQN], ?_, hLs⟩
     intro l' hl'
     obtain ⟨q, hq, rfl⟩ := List.mem_map.1 hl'
     exact ⟨by have := (hQok q hq).2; omega, (hQok q hq).1⟩
end
end Go.Proofs.YtkdbglfdgeldpaaGreat
