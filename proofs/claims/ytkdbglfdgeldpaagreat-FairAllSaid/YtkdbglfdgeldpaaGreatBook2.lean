/- Contracts of package fair: a point is entered. Condition: few points. -/
import Derived.Test.YtkdbglfdgeldpaaGreatBook
import Derived.Test.YtkdbglfdgeldpaaGreatLtH
set_option linter.unusedVariables false
namespace Go.Proofs.YtkdbglfdgeldpaaGreat
open Go.Lt
section
variable {R : Base} {F : List HP} {w : World}
theorem fair_enterO {bk mb : Nat} {c : Config} {lsv xv : Value} {ls : List (List Call)} {A : As} {sum : Int} {n : Nat} (hP : RLists lsv ls R.h) (hls : listsOk ls) (hcfg : cfgOk c) (i : Nat) (hi : i ≤ 1000000) (x : Point) (hop : (callOf ls x).1.op ≠ 1 ∧ (callOf ls x).1.op ≠ 3) {pv : Value}
    (hpr : Rd encP pv x.ret.packets R.h) (hpl : x.ret.packets.length ≤ 100) (hA : aOk n A) (hn : n ≤ 1000000000) (hs : U sum)
    (hH : Holds R (cel bk [.int .i64 c.shards, .int .i64 c.slots, .int .i64 c.workers, .int .i64 c.width, .int .u64 c.unit, lsv, xv, .map (some mb), .int .u64 sum] 91 :: AccsC mb A :: F) w) :
    Ret Tryz.prog 78 [.pointer (some ⟨bk, 0, none⟩), .int .i64 i, vPt x pv] w fun v w' => Holds R (cel bk [.int .i64 c.shards, .int .i64 c.slots, .int .i64 c.workers, .int .i64 c.width, .int .u64 c.unit, lsv, xv, .map (some mb), .int .u64 (bookStep c.unit ls A sum i x).2] 91 :: AccsC mb (bookStep c.unit ls A sum i x).1 :: F) w' := by
  obtain ⟨pa, pcap, rfl, hpc⟩ := hpr.len
  have hco := callOf_ok hls x
  have hco' := hco; unfold Call.ok I at hco'
  have hcfg' := hcfg; unfold cfgOk at hcfg'
  have hg := aget_ok hA (callOf ls x).1.flow
  have hg' := hg; unfold accOk at hg'
  have hcu := costOf_U hco.2.2.1 hg.2.2
  have hcu' := hcu; unfold costOf at hcu'
  have hmid := bookMid_ok (unit := c.unit) hls hA hs i x
  refine ret_of_g (n := 161) Tryz.func78 rfl rfl (by simp) ?_
  refine g_seq ?_
  refine g_region (l := [0]) rfl ?_
  refine o_box (lv rfl) rfl (cs := [_, _, _, _, _, _, _]) rfl rfl hH ?_
  intro b5 w hH
  refine g_seq ?_
  refine g_join (fun e w => ∃ (e0 : Env) (b6 : Nat), e = J e0 [(0, .pointer (some ⟨bk, 0, none⟩)), (1, .int .i64 i), (5, .pointer (some ⟨b5, 0, none⟩)), (6, .pointer (some ⟨b6, 0, none⟩)), (7, .bool (callOf ls x).2)] ∧ Holds R (cel b6 [.int .i64 (callOf ls x).1.op, .int .i64 (callOf ls x).1.flow, .int .i64 (callOf ls x).1.a, .int .i64 (callOf ls x).1.b] 46 :: cel b5 [.int .i64 x.step, .int .i64 x.who, .int .i64 x.place, .int .i64 x.ret.e, .slice pa x.ret.packets.length pcap, .int .i64 x.ret.n, .int .u64 x.ret.v] 59 :: cel bk [.int .i64 c.shards, .int .i64 c.slots, .int .i64 c.workers, .int .i64 c.width, .int .u64 c.unit, lsv, xv, .map (some mb), .int .u64 sum] 91 :: AccsC mb A :: F) w) (fun kk hkk => ?_) ?_
  ·refine rD mixed hH fun w hH => ?_
   refine pM 0 (lv rfl) rfl rfl ?_
   refine pN 1 (lv rfl) rfl rfl ?_
   refine pF 2 (lv rfl) rfl fa_91_0 rfl ?_
   refine d_ldN (i := 3) [5, 10] (lv rfl) rfl lk_28 rfl (by kernel_rfl) ⟨_, _, _, hH.c1, [_, _, _, _, _, _], rfl, rfl, ?_⟩
   refine d_ldN (i := 4) [5, 10] (lv rfl) rfl lk_59 rfl (by kernel_rfl) ⟨_, _, _, hH.c0, [_, _, _, _, _, _, _], rfl, rfl, ?_⟩
   refine d_l2 (j := 5) (j2 := 9) (by kernel_rfl) ?_ ?_
   ·refine o_call (lv rfl) rfl en_58 rfl (wit_Call (c := c) hP (by have := hls.1; omega) x hH) ?_
    rintro _ w ⟨rfl, hH⟩
    refine ⟨(keeps_in rfl (keeps_in rfl trivial)), ?_⟩
    refine pM 6 (lv rfl) rfl rfl ?_
    refine pE 7 (lv rfl) rfl rfl rfl ?_
    refine pE 8 (lv rfl) rfl rfl rfl ?_
    refine d_l (j := 9) (by kernel_rfl) ?_
    refine o_al (lv rfl) rfl ze_46 hH ?_
    intro b6 w hH
    refine ⟨(keeps_cons (fun _ => (by exact hH.c1)) (keeps_cons (fun _ => (by exact hH.c2)) trivial)), ?_⟩
    refine d_l (j := 10) (by kernel_rfl) ?_
    refine o_st (lv rfl) rfl lk_46 rfl (vs := [_, _, _, _]) rfl rfl (by exact hH) rfl rfl (by simp) rfl ?_
    intro w hH; dsimp only [setL, List.set] at hH
    refine ⟨(keeps_in rfl (keeps_in rfl trivial)), ?_⟩
    refine pA 11 (lv rfl) rfl rfl ?_
    refine d_end (by kernel_rfl) ?_
    exact hkk _ _ ⟨_, b6, (J_self (has_s rfl (has_s rfl (has_s rfl (has_s rfl (has_s rfl has_0)))))), (hH.sel (by repeat' (first | exact Sel.refl _)))⟩
   ·refine o_al (lv rfl) rfl ze_46 hH ?_
    intro b6 w hH
    refine ⟨(keeps_cons (fun _ => (by exact hH.c1)) (keeps_cons (fun _ => (by exact hH.c2)) trivial)), ?_⟩
    refine d_l (j := 5) (by kernel_rfl) ?_
    refine o_call (lv rfl) rfl en_58 rfl (wit_Call (c := c) hP (by have := hls.1; omega) x hH) ?_
    rintro _ w ⟨rfl, hH⟩
    refine ⟨(keeps_in rfl (keeps_in rfl trivial)), ?_⟩
    refine pM 6 (lv rfl) rfl rfl ?_
    refine pE 7 (lv rfl) rfl rfl rfl ?_
    refine pE 8 (lv rfl) rfl rfl rfl ?_
    refine d_l (j := 10) (by kernel_rfl) ?_
    refine o_st (lv rfl) rfl lk_46 rfl (vs := [_, _, _, _]) rfl rfl (by exact hH) rfl rfl (by simp) rfl ?_
    intro w hH; dsimp only [setL, List.set] at hH
    refine ⟨(keeps_in rfl (keeps_in rfl trivial)), ?_⟩
    refine pA 11 (lv rfl) rfl rfl ?_
    refine d_end (by kernel_rfl) ?_
    exact hkk _ _ ⟨_, b6, (J_self (has_s rfl (has_s rfl (has_s rfl (has_s rfl (has_s rfl has_0)))))), (hH.sel (by repeat' (first | exact Sel.refl _)))⟩
  ·rintro _ w ⟨e0, b6, rfl, hH⟩
   refine g_seq ?_
   obtain ⟨l, cv, av, rest, hval, hH, hkeep, hput⟩ := AccsC.take (callOf ls x).1.flow (by exact hH.p3)
   obtain ⟨ca, ccap, rfl, -⟩ := hH.p1.rd.len
   obtain ⟨la, lcap, rfl, -⟩ := hH.p2.rd.len
   refine rD mixed hH fun w hH => ?_
   refine pM 0 (lv rfl) rfl rfl ?_
   refine pN 1 (lv rfl) rfl rfl ?_
   refine pF 2 (lv rfl) rfl fa_91_2 rfl ?_
   refine d_ld (i := 3) [8] (lv rfl) rfl lk_89 rfl (by kernel_rfl) ⟨_, _, _, hH.c6, _, rfl, ?_⟩
   refine pF 4 (lv rfl) rfl fa_46_1 rfl ?_
   refine d_ld (i := 5) [8] (lv rfl) rfl lk_3 rfl (by kernel_rfl) ⟨_, _, _, hH.c4, _, rfl, ?_⟩
   refine d_q (i := 6) (fun w => MapR _ _ (Go.Lt.hp w)) [8] (lv rfl) rfl (fun w hS => r_lkw mp_89 rfl rfl hS (hval)) (by exact hH.mrd) (by kernel_rfl) ?_
   refine d_l (j := 7) (by kernel_rfl) ?_
   refine o_al (lv rfl) rfl ze_106 hH ?_
   intro b8 w hH
   refine ⟨(keeps_cons (fun _ => (by exact hH.p1.mrd)) (keeps_cons (fun _ => (by exact hH.c5)) (keeps_cons (fun _ => (by exact hH.c7)) trivial))), ?_⟩
   refine d_l (j := 8) (by kernel_rfl) ?_
   refine o_st (lv rfl) rfl lk_106 rfl (vs := [_, _, _, _]) rfl rfl (by exact hH) rfl rfl (by simp) rfl ?_
   intro w hH; dsimp only [setL, List.set] at hH
   refine ⟨(keeps_in rfl (keeps_in rfl (keeps_in rfl trivial))), ?_⟩
   refine d_end (by kernel_rfl) ?_
   refine g_seq ?_
   refine g_block ?_
   refine g_seq ?_
   refine g_region (l := [0, 1, 2, 3, 4]) rfl ?_
   refine o_v (lv rfl) rfl (r_fa fa_59_3 rfl) ?_
   refine o_v (lv rfl) rfl (r_fa fa_57_0 rfl) ?_
   refine o_ld (lv rfl) rfl lk_55 rfl ⟨_, _, _, hH.c6, _, rfl, ?_⟩
   refine o_v (lv rfl) rfl (r_ne rfl rfl) ?_
   refine vA (lv rfl) rfl rfl ?_
   refine g_if rfl (fun c0 => ?_) (fun c0 => ?_)
   ·refine g_rq Tryz.func78 res_0 ?_
    rw [show bookStep c.unit ls A sum i x = (A, sum) from by unfold bookStep; rw [if_pos c0]]
    exact Holds.p1 (hkeep _ _ (hH.sel (by repeat' (first | exact Sel.refl _ | refine Sel.q1 ?_ | refine Sel.q3 ?_ | refine Sel.skip _ ?_))))
   ·refine g_seq ?_
    refine g_region (l := [0, 1, 2, 3]) rfl ?_
    refine o_v (lv rfl) rfl (r_fa fa_46_0 rfl) ?_
    refine o_ld (lv rfl) rfl lk_3 rfl ⟨_, _, _, hH.c5, _, rfl, ?_⟩
    refine o_v (lv rfl) rfl (r_eq rfl rfl) ?_
    refine vA (lv rfl) rfl rfl ?_
    refine g_if rfl (fun c1 => ?_) (fun c1 => ?_)
    ·exact absurd c1 hop.1
    ·refine g_seq ?_
     refine g_region (l := [0, 1, 2, 3]) rfl ?_
     refine o_v (lv rfl) rfl (r_fa fa_46_0 rfl) ?_
     refine o_ld (lv rfl) rfl lk_3 rfl ⟨_, _, _, hH.c5, _, rfl, ?_⟩
     refine o_v (lv rfl) rfl (r_eq rfl rfl) ?_
     refine vA (lv rfl) rfl rfl ?_
     refine g_if rfl (fun c2 => ?_) (fun c2 => ?_)
     ·exact absurd c2 hop.2
     ·refine g_skip ?_
      refine g_inBlock ?_
      refine g_seq ?_
      obtain ⟨A1, s1, hA1, hH⟩ : ∃ A1 s1, bookMid c.unit ls A sum i x = (A1, s1) ∧ Holds R (cel bk [.int .i64 c.shards, .int .i64 c.slots, .int .i64 c.workers, .int .i64 c.width, .int .u64 c.unit, lsv, xv, .map (some mb), .int .u64 s1] 91 :: AccsC mb A1 :: cel b5 [.int .i64 x.step, .int .i64 x.who, .int .i64 x.place, .int .i64 x.ret.e, .slice pa x.ret.packets.length pcap, .int .i64 x.ret.n, .int .u64 x.ret.v] 59 :: F) w := by
        exact ⟨A, sum, by unfold bookMid; rw [if_neg c1, if_neg c2], Holds.p1 (hkeep _ _ (hH.sel (by repeat' (first | exact Sel.refl _ | refine Sel.q1 ?_ | refine Sel.q2 ?_ | refine Sel.q3 ?_ | refine Sel.skip _ ?_))))⟩
      rw [hA1] at hmid
      have hstep : bookStep c.unit ls A sum i x = (x.ret.packets.foldl (tell i) A1, s1) := by unfold bookStep; rw [if_neg c0, hA1]
      refine g_region (l := [0, 1, 2, 3, 4]) rfl ?_
      refine o_v (lv rfl) rfl (r_fa fa_59_3 rfl) ?_
      refine o_v (lv rfl) rfl (r_fa fa_57_1 rfl) ?_
      refine o_ld (lv rfl) rfl lk_48 rfl ⟨_, _, _, hH.c2, _, rfl, ?_⟩
      refine o_v (lv rfl) rfl (r_len el_48 rfl) ?_
      refine vM (lv rfl) rfl rfl ?_
      refine g_block ?_
      refine g_loop (fun mm e w => ∃ (k : Nat) (e0 : Env) (Ak : As), k ≤ x.ret.packets.length ∧ mm = x.ret.packets.length - k ∧ aOk (n + 1 + k) Ak ∧ x.ret.packets.foldl (tell i) A1 = (x.ret.packets.drop k).foldl (tell i) Ak ∧
          e = J e0 [(0, .pointer (some ⟨bk, 0, none⟩)), (1, .int .i64 i), (101, .slice pa x.ret.packets.length pcap), (102, .int .i64 x.ret.packets.length), (103, .int .i64 k)] ∧ Holds R (cel bk [.int .i64 c.shards, .int .i64 c.slots, .int .i64 c.workers, .int .i64 c.width, .int .u64 c.unit, lsv, xv, .map (some mb), .int .u64 s1] 91 :: AccsC mb Ak :: F) w) x.ret.packets.length ⟨0, _, A1, by omega, by omega, hmid.1, rfl, (J_self (has_s rfl (has_s rfl (has_s rfl (has_s rfl (has_s rfl has_0)))))), (hH.sel (by repeat' (first | exact Sel.refl _ | refine Sel.q0 ?_ | refine Sel.skip _ ?_)))⟩ ?_
      rintro mm _ w ⟨k, e0, Ak, hk, hm, hAk, hfo, rfl, hH⟩ hback
      refine g_seq ?_
      refine g_region (l := [0]) rfl ?_
      refine o_v (lv rfl) rfl (r_lt rfl rfl) ?_
      refine g_seq ?_
      refine g_if rfl (fun c3 => ?_) (fun c3 => ?_)
      ·have hkl : k < x.ret.packets.length := by omega
       obtain ⟨p, hp2⟩ : ∃ p, x.ret.packets[k]? = some p := ⟨_, List.getElem?_eq_getElem hkl⟩
       obtain ⟨bp, op_, cs, T, hpe, hbp, hcp0⟩ := Rd.el hkP hpr hp2
       rw [hpe]; rw [hpe] at hback
       have hcp := dt_of hcp0
       have hfo2 : x.ret.packets.foldl (tell i) A1 = (x.ret.packets.drop (k + 1)).foldl (tell i) (tell i Ak p) := by
         rw [hfo]
         obtain ⟨h1, h2⟩ := List.getElem?_eq_some_iff.1 hp2
         rw [List.drop_eq_getElem_cons h1, List.foldl_cons, h2]
       have hgk := aget_ok hAk p.flow
       have hgk' := hgk; unfold accOk at hgk'
       have htk := tell_ok hAk i p
       refine g_skip ?_
       refine g_seq ?_
       refine g_block ?_
       refine g_seq ?_
       refine g_region (l := [0, 1, 2, 3]) rfl ?_
       refine o_v (lv rfl) rfl (r_ia el_48 rfl rfl ?_ ?_) ?_; omega; omega
       refine o_ldN (lv rfl) rfl lk_54 rfl ⟨_, _, _, hH.old hbp, _, hcp, rfl, ?_⟩
       refine o_al (lv rfl) rfl ze_54 hH ?_
       intro b11 w hH
       refine o_st (lv rfl) rfl lk_54 rfl (vs := [_, _, _]) rfl rfl (by exact hH) rfl rfl (by simp) rfl ?_
       intro w hH; dsimp only [setL, List.set] at hH
       refine g_seq ?_
       obtain ⟨l2, cv2, av2, rest2, hval2, hH, hkeep2, hput2⟩ := AccsC.take p.flow (by exact hH.p2)
       obtain ⟨ca2, ccap2, hc2e, -⟩ := hH.p1.rd.len
       obtain ⟨la2, lcap2, hl2e, -⟩ := hH.p2.rd.len
       rw [hc2e, hl2e] at hval2 hH
       refine rD mixed hH fun w hH => ?_
       refine pM 0 (lv rfl) rfl rfl ?_
       refine pN 1 (lv rfl) rfl rfl ?_
       refine pF 2 (lv rfl) rfl fa_91_2 rfl ?_
       refine d_ld (i := 3) [8] (lv rfl) rfl lk_89 rfl (by kernel_rfl) ⟨_, _, _, hH.c5, _, rfl, ?_⟩
       refine pF 4 (lv rfl) rfl fa_54_0 rfl ?_
       refine d_ld (i := 5) [8] (lv rfl) rfl lk_3 rfl (by kernel_rfl) ⟨_, _, _, hH.c4, _, rfl, ?_⟩
       refine d_q (i := 6) (fun w => MapR _ _ (Go.Lt.hp w)) [8] (lv rfl) rfl (fun w hS => r_lkw mp_89 rfl rfl hS (hval2)) (by exact hH.mrd) (by kernel_rfl) ?_
       refine d_l (j := 7) (by kernel_rfl) ?_
       refine o_al (lv rfl) rfl ze_106 hH ?_
       intro b12 w hH
       refine ⟨(keeps_cons (fun _ => (by exact hH.p1.mrd)) (keeps_cons (fun _ => (by exact hH.c5)) (keeps_cons (fun _ => (by exact hH.c6)) trivial))), ?_⟩
       refine d_l (j := 8) (by kernel_rfl) ?_
       refine o_st (lv rfl) rfl lk_106 rfl (vs := [_, _, _, _]) rfl rfl (by exact hH) rfl rfl (by simp) rfl ?_
       intro w hH; dsimp only [setL, List.set] at hH
       refine ⟨(keeps_in rfl (keeps_in rfl (keeps_in rfl trivial))), ?_⟩
       refine d_end (by kernel_rfl) ?_
       refine g_seq ?_
       refine g_region (l := [0, 1, 2, 3]) rfl ?_
       refine o_v (lv rfl) rfl (r_fa fa_106_2 rfl) ?_
       refine o_ld (lv rfl) rfl lk_26 rfl ⟨_, _, _, hH.c0, _, rfl, ?_⟩
       refine o_v (lv rfl) rfl (r_len el_26 rfl) ?_
       refine vA (lv rfl) rfl rfl ?_
       refine g_seq ?_
       refine rD mixed hH fun w hH => ?_
       refine pF 0 (lv rfl) rfl fa_106_3 rfl ?_
       refine d_ld (i := 1) [30] (lv rfl) rfl lk_4 rfl (by kernel_rfl) ⟨_, _, _, hH.c0, _, rfl, ?_⟩
       refine pM 2 (lv rfl) rfl rfl ?_
       refine s_opdb (fun g17_2 => ?_) (fun g17_2 => ?_)
       ·refine pO 3 rfl rfl rfl rfl ?_
        refine pO 4 rfl rfl rfl rfl ?_
        refine pO 5 rfl rfl rfl rfl ?_
        refine pO 6 rfl rfl rfl rfl ?_
        refine pO 7 rfl rfl rfl rfl ?_
        refine d_p (i := 8) (lv rfl) rfl (fun w => (r_pickT rfl rfl)) (by kernel_rfl) ?_
        refine pM 9 (lv rfl) rfl rfl ?_
        refine pO 10 rfl rfl rfl rfl ?_
        refine pO 11 rfl rfl rfl rfl ?_
        refine pO 12 rfl rfl rfl rfl ?_
        refine pO 13 rfl rfl rfl rfl ?_
        refine pO 14 rfl rfl rfl rfl ?_
        refine pO 15 rfl rfl rfl rfl ?_
        refine pO 16 rfl rfl rfl rfl ?_
        refine pO 17 rfl rfl rfl rfl ?_
        refine d_p (i := 18) (lv rfl) rfl (fun w => (r_pickT rfl rfl)) (by kernel_rfl) ?_
        refine pM 19 (lv rfl) rfl rfl ?_
        refine pO 20 rfl rfl rfl rfl ?_
        refine pO 21 rfl rfl rfl rfl ?_
        refine pO 22 rfl rfl rfl rfl ?_
        refine pO 23 rfl rfl rfl rfl ?_
        refine pO 24 rfl rfl rfl rfl ?_
        refine pO 25 rfl rfl rfl rfl ?_
        refine pO 26 rfl rfl rfl rfl ?_
        refine pO 27 rfl rfl rfl rfl ?_
        refine d_p (i := 28) (lv rfl) rfl (fun w => (r_pickT rfl rfl)) (by kernel_rfl) ?_
        refine pF 29 (lv rfl) rfl fa_106_3 rfl ?_
        refine d_l (j := 30) (by kernel_rfl) ?_
        refine o_st (lv rfl) rfl lk_4 rfl (vs := [_]) rfl rfl (by exact hH) rfl rfl (by simp) rfl ?_
        intro w hH; dsimp only [setL, List.set] at hH
        refine ⟨(keeps_in rfl trivial), ?_⟩
        refine d_end (by kernel_rfl) ?_
        refine g_seq ?_
        refine g_region (l := [0, 1, 2, 3, 4, 5, 6]) rfl ?_
        refine o_v (lv rfl) rfl (r_fa fa_106_2 rfl) ?_
        refine o_ld (lv rfl) rfl lk_26 rfl ⟨_, _, _, hH.c0, _, rfl, ?_⟩
        refine vM (lv rfl) rfl rfl ?_
        refine o_bs (lv rfl) rfl el_26 ze_3 rfl rfl rfl (ps := [_]) rfl rfl rfl (cs := [_]) rfl hH ?_
        intro b150 w hH
        refine o_app (enc := encI) (lv rfl) rfl el_26 ze_3 rfl (fun _ => rfl) (fun _ => rfl) rfl rfl (by exact hH.p4) (rd_of_cel [(i : Int)] (by exact hH.c0) rfl) (by simp; omega) (by simp; omega) ?_
        intro v151 w hH; obtain ⟨a151, k151, rfl, -⟩ := hH.rd.len
        refine o_v (lv rfl) rfl (r_fa fa_106_2 rfl) ?_
        refine o_st (lv rfl) rfl lk_26 rfl (vs := [_]) rfl rfl (by exact hH.p2) rfl rfl (by simp) rfl ?_
        intro w hH; dsimp only [setL, List.set] at hH
        refine rD mixed hH fun w hH => ?_
        refine pM 0 (lv rfl) rfl rfl ?_
        refine pN 1 (lv rfl) rfl rfl ?_
        refine pF 2 (lv rfl) rfl fa_91_2 rfl ?_
        refine d_ld (i := 3) [7] (lv rfl) rfl lk_89 rfl (by kernel_rfl) ⟨_, _, _, hH.c7, _, rfl, ?_⟩
        refine pF 4 (lv rfl) rfl fa_54_0 rfl ?_
        refine d_ld (i := 5) [7] (lv rfl) rfl lk_3 rfl (by kernel_rfl) ⟨_, _, _, hH.c6, _, rfl, ?_⟩
        refine d_ldN (i := 6) [7] (lv rfl) rfl lk_106 rfl (by kernel_rfl) ⟨_, _, _, hH.c0, [_, _, _, _], rfl, rfl, ?_⟩
        refine d_l (j := 7) (by kernel_rfl) ?_
        refine o_mu (lv rfl) rfl mp_89 rfl rfl rfl (by exact hH.p3) ?_
        intro w hH
        refine ⟨(keeps_in rfl (keeps_in rfl (keeps_in rfl trivial))), ?_⟩
        refine d_end (by kernel_rfl) ?_
        refine g_inBlock ?_
        refine g_region (l := [0, 1]) rfl ?_
        refine o_v (lv rfl) rfl (r_addI rfl rfl ?_) ?_; omega
        refine vM (lv rfl) rfl rfl ?_
        have fin : ∀ wb : Bool, ((aget Ak p.flow).wrong || wrongAt (aget Ak p.flow) i p) = wb → tell i Ak p = aput Ak p.flow { aget Ak p.flow with wrong := wb, left := (aget Ak p.flow).left ++ [(i : Int)] } := fun wb h => by unfold tell; rw [h]
        (have hw := fin true (by rw [g17_2]; rfl)
         exact hback _ _ _ ⟨k + 1, _, tell i Ak p, by omega, rfl, htk, hfo2, (J_self (has_s rfl (has_s rfl (has_s rfl (has_s rfl (has_s rfl has_0)))))), by rw [hw]; exact Holds.p1 (hput2 { aget Ak p.flow with wrong := true, left := (aget Ak p.flow).left ++ [(i : Int)] } _ _ _ _ (hH.sel (by repeat' (first | exact Sel.refl _ | refine Sel.q0 ?_ | refine Sel.q1 ?_ | refine Sel.q2 ?_ | refine Sel.q3 ?_ | refine Sel.skip _ ?_))))⟩ (by omega))
       ·refine pM 3 (lvg rfl rfl rfl) rfl rfl ?_
        refine pF 4 (lvg rfl rfl rfl) rfl fa_106_1 rfl ?_
        refine d_ld (i := 5) [30] (lvg rfl rfl rfl) rfl lk_104 rfl (by kernel_rfl) ⟨_, _, _, hH.c0, _, rfl, ?_⟩
        refine d_p (i := 6) (lvg rfl rfl rfl) rfl (fun w => (r_len el_104 rfl)) (by kernel_rfl) ?_
        refine d_p (i := 7) (lvg rfl rfl rfl) rfl (fun w => (r_ge rfl rfl)) (by kernel_rfl) ?_
        refine d_p (i := 8) (lv rfl) rfl (fun w => (r_pickF rfl rfl)) (by kernel_rfl) ?_
        refine pM 9 (lv rfl) rfl rfl ?_
        refine s_opd (fun g17_9 => ?_) (fun g17_9 => ?_)
        ·refine pO 10 rfl rfl rfl rfl ?_
         refine pO 11 rfl rfl rfl rfl ?_
         refine pO 12 rfl rfl rfl rfl ?_
         refine pO 13 rfl rfl rfl rfl ?_
         refine pO 14 rfl rfl rfl rfl ?_
         refine pO 15 rfl rfl rfl rfl ?_
         refine pO 16 rfl rfl rfl rfl ?_
         refine pO 17 rfl rfl rfl rfl ?_
         refine d_p (i := 18) (lv rfl) rfl (fun w => (r_pickT rfl rfl)) (by kernel_rfl) ?_
         refine pM 19 (lv rfl) rfl rfl ?_
         refine pO 20 rfl rfl rfl rfl ?_
         refine pO 21 rfl rfl rfl rfl ?_
         refine pO 22 rfl rfl rfl rfl ?_
         refine pO 23 rfl rfl rfl rfl ?_
         refine pO 24 rfl rfl rfl rfl ?_
         refine pO 25 rfl rfl rfl rfl ?_
         refine pO 26 rfl rfl rfl rfl ?_
         refine pO 27 rfl rfl rfl rfl ?_
         refine d_p (i := 28) (lv rfl) rfl (fun w => (r_pickT rfl rfl)) (by kernel_rfl) ?_
         refine pF 29 (lv rfl) rfl fa_106_3 rfl ?_
         refine d_l (j := 30) (by kernel_rfl) ?_
         refine o_st (lv rfl) rfl lk_4 rfl (vs := [_]) rfl rfl (by exact hH) rfl rfl (by simp) rfl ?_
         intro w hH; dsimp only [setL, List.set] at hH
         refine ⟨(keeps_in rfl (keeps_in rfl trivial)), ?_⟩
         refine d_end (by kernel_rfl) ?_
         refine g_seq ?_
         refine g_region (l := [0, 1, 2, 3, 4, 5, 6]) rfl ?_
         refine o_v (lv rfl) rfl (r_fa fa_106_2 rfl) ?_
         refine o_ld (lv rfl) rfl lk_26 rfl ⟨_, _, _, hH.c0, _, rfl, ?_⟩
         refine vM (lv rfl) rfl rfl ?_
         refine o_bs (lv rfl) rfl el_26 ze_3 rfl rfl rfl (ps := [_]) rfl rfl rfl (cs := [_]) rfl hH ?_
         intro b150 w hH
         refine o_app (enc := encI) (lv rfl) rfl el_26 ze_3 rfl (fun _ => rfl) (fun _ => rfl) rfl rfl (by exact hH.p4) (rd_of_cel [(i : Int)] (by exact hH.c0) rfl) (by simp; omega) (by simp; omega) ?_
         intro v151 w hH; obtain ⟨a151, k151, rfl, -⟩ := hH.rd.len
         refine o_v (lv rfl) rfl (r_fa fa_106_2 rfl) ?_
         refine o_st (lv rfl) rfl lk_26 rfl (vs := [_]) rfl rfl (by exact hH.p2) rfl rfl (by simp) rfl ?_
         intro w hH; dsimp only [setL, List.set] at hH
         refine rD mixed hH fun w hH => ?_
         refine pM 0 (lv rfl) rfl rfl ?_
         refine pN 1 (lv rfl) rfl rfl ?_
         refine pF 2 (lv rfl) rfl fa_91_2 rfl ?_
         refine d_ld (i := 3) [7] (lv rfl) rfl lk_89 rfl (by kernel_rfl) ⟨_, _, _, hH.c7, _, rfl, ?_⟩
         refine pF 4 (lv rfl) rfl fa_54_0 rfl ?_
         refine d_ld (i := 5) [7] (lv rfl) rfl lk_3 rfl (by kernel_rfl) ⟨_, _, _, hH.c6, _, rfl, ?_⟩
         refine d_ldN (i := 6) [7] (lv rfl) rfl lk_106 rfl (by kernel_rfl) ⟨_, _, _, hH.c0, [_, _, _, _], rfl, rfl, ?_⟩
         refine d_l (j := 7) (by kernel_rfl) ?_
         refine o_mu (lv rfl) rfl mp_89 rfl rfl rfl (by exact hH.p3) ?_
         intro w hH
         refine ⟨(keeps_in rfl (keeps_in rfl (keeps_in rfl trivial))), ?_⟩
         refine d_end (by kernel_rfl) ?_
         refine g_inBlock ?_
         refine g_region (l := [0, 1]) rfl ?_
         refine o_v (lv rfl) rfl (r_addI rfl rfl ?_) ?_; omega
         refine vM (lv rfl) rfl rfl ?_
         have fin : ∀ wb : Bool, ((aget Ak p.flow).wrong || wrongAt (aget Ak p.flow) i p) = wb → tell i Ak p = aput Ak p.flow { aget Ak p.flow with wrong := wb, left := (aget Ak p.flow).left ++ [(i : Int)] } := fun wb h => by unfold tell; rw [h]
         (have hw := fin true (by rw [show wrongAt (aget Ak p.flow) i p = true from by unfold wrongAt; rw [List.getElem?_eq_none (by omega)]]; simp)
          exact hback _ _ _ ⟨k + 1, _, tell i Ak p, by omega, rfl, htk, hfo2, (J_self (has_s rfl (has_s rfl (has_s rfl (has_s rfl (has_s rfl has_0)))))), by rw [hw]; exact Holds.p1 (hput2 { aget Ak p.flow with wrong := true, left := (aget Ak p.flow).left ++ [(i : Int)] } _ _ _ _ (hH.sel (by repeat' (first | exact Sel.refl _ | refine Sel.q0 ?_ | refine Sel.q1 ?_ | refine Sel.q2 ?_ | refine Sel.q3 ?_ | refine Sel.skip _ ?_))))⟩ (by omega))
        ·obtain ⟨q, hq⟩ : ∃ q, (aget Ak p.flow).came[(aget Ak p.flow).left.length]? = some q := ⟨_, List.getElem?_eq_getElem (by omega)⟩
         obtain ⟨bq, oq, csq, Tq, hqe, hbq, hcq0⟩ := Rd.el hkPc (show Rd encPc _ (aget Ak p.flow).came (Go.Lt.hp w) from (by exact hH.p2.rd)) hq
         rw [hqe]; rw [hqe] at hH
         have hcq := hcq0 4 _ rfl
         have hcqN := dt_of (vs := [.int .i64 q.p.flow, .int .i64 q.p.len, .int .i64 q.p.mark]) (cs := csq) (fun j c hj => hcq0 j c (by
           match j, hj with
           | 0, h => exact h
           | 1, h => exact h
           | 2, h => exact h))
         refine pF 10 (lvg rfl rfl rfl) rfl fa_106_1 rfl ?_
         refine d_ld (i := 11) [30] (lvg rfl rfl rfl) rfl lk_104 rfl (by kernel_rfl) ⟨_, _, _, hH.c0, _, rfl, ?_⟩
         refine pM 12 (lvg rfl rfl rfl) rfl rfl ?_
         refine d_p (i := 13) (lvg rfl rfl rfl) rfl (fun w => (r_ia el_104 rfl rfl ?_ ?_)) (by kernel_rfl) ?_; omega; omega
         refine pF 14 (lvg rfl rfl rfl) rfl fa_108_0 rfl ?_
         refine d_ldN (i := 15) [30] (lvg rfl rfl rfl) rfl lk_54 rfl (by kernel_rfl) ⟨_, _, _, hbq, _, hcqN, rfl, ?_⟩
         refine d_ldN (i := 16) [30] (lvg rfl rfl rfl) rfl lk_54 rfl (by kernel_rfl) ⟨_, _, _, hH.c5, [_, _, _], rfl, rfl, ?_⟩
         refine d_p (i := 17) (lvg rfl rfl rfl) rfl (fun w => (r_nest fi_54 rfl rfl rfl rfl)) (by kernel_rfl) ?_
         refine d_p (i := 18) (lv rfl) rfl (fun w => (r_pickF rfl rfl)) (by kernel_rfl) ?_
         refine pM 19 (lv rfl) rfl rfl ?_
         refine s_opd (fun g17_19 => ?_) (fun g17_19 => ?_)
         ·refine pO 20 rfl rfl rfl rfl ?_
          refine pO 21 rfl rfl rfl rfl ?_
          refine pO 22 rfl rfl rfl rfl ?_
          refine pO 23 rfl rfl rfl rfl ?_
          refine pO 24 rfl rfl rfl rfl ?_
          refine pO 25 rfl rfl rfl rfl ?_
          refine pO 26 rfl rfl rfl rfl ?_
          refine pO 27 rfl rfl rfl rfl ?_
          refine d_p (i := 28) (lv rfl) rfl (fun w => (r_pickT rfl rfl)) (by kernel_rfl) ?_
          refine pF 29 (lv rfl) rfl fa_106_3 rfl ?_
          refine d_l (j := 30) (by kernel_rfl) ?_
          refine o_st (lv rfl) rfl lk_4 rfl (vs := [_]) rfl rfl (by exact hH) rfl rfl (by simp) rfl ?_
          intro w hH; dsimp only [setL, List.set] at hH
          refine ⟨(keeps_in rfl (keeps_in rfl (keeps_in rfl (keeps_in rfl (keeps_in rfl trivial))))), ?_⟩
          refine d_end (by kernel_rfl) ?_
          refine g_seq ?_
          refine g_region (l := [0, 1, 2, 3, 4, 5, 6]) rfl ?_
          refine o_v (lv rfl) rfl (r_fa fa_106_2 rfl) ?_
          refine o_ld (lv rfl) rfl lk_26 rfl ⟨_, _, _, hH.c0, _, rfl, ?_⟩
          refine vM (lv rfl) rfl rfl ?_
          refine o_bs (lv rfl) rfl el_26 ze_3 rfl rfl rfl (ps := [_]) rfl rfl rfl (cs := [_]) rfl hH ?_
          intro b150 w hH
          refine o_app (enc := encI) (lv rfl) rfl el_26 ze_3 rfl (fun _ => rfl) (fun _ => rfl) rfl rfl (by exact hH.p4) (rd_of_cel [(i : Int)] (by exact hH.c0) rfl) (by simp; omega) (by simp; omega) ?_
          intro v151 w hH; obtain ⟨a151, k151, rfl, -⟩ := hH.rd.len
          refine o_v (lv rfl) rfl (r_fa fa_106_2 rfl) ?_
          refine o_st (lv rfl) rfl lk_26 rfl (vs := [_]) rfl rfl (by exact hH.p2) rfl rfl (by simp) rfl ?_
          intro w hH; dsimp only [setL, List.set] at hH
          refine g_regionD mixed ?_
          rintro w1 rfl; replace hH := hH.drew (n := w.drawn + 1); replace hbq := drewf (n := w.drawn + 1) hbq; replace hbq := drewf (n := w.drawn + 1) hbq; generalize hw1 : { w with drawn := w.drawn + 1 } = w at hH ⊢; try rw [hw1] at hbq; try rw [hw1] at hbq; clear hw1
          refine pM 0 (lv rfl) rfl rfl ?_
          refine pN 1 (lv rfl) rfl rfl ?_
          refine pF 2 (lv rfl) rfl fa_91_2 rfl ?_
          refine d_ld (i := 3) [7] (lv rfl) rfl lk_89 rfl (by kernel_rfl) ⟨_, _, _, hH.c7, _, rfl, ?_⟩
          refine pF 4 (lv rfl) rfl fa_54_0 rfl ?_
          refine d_ld (i := 5) [7] (lv rfl) rfl lk_3 rfl (by kernel_rfl) ⟨_, _, _, hH.c6, _, rfl, ?_⟩
          refine d_ldN (i := 6) [7] (lv rfl) rfl lk_106 rfl (by kernel_rfl) ⟨_, _, _, hH.c0, [_, _, _, _], rfl, rfl, ?_⟩
          refine d_l (j := 7) (by kernel_rfl) ?_
          refine o_mu (lv rfl) rfl mp_89 rfl rfl rfl (by exact hH.p3) ?_
          intro w hH
          refine ⟨(keeps_in rfl (keeps_in rfl (keeps_in rfl trivial))), ?_⟩
          refine d_end (by kernel_rfl) ?_
          refine g_inBlock ?_
          refine g_region (l := [0, 1]) rfl ?_
          refine o_v (lv rfl) rfl (r_addI rfl rfl ?_) ?_; omega
          refine vM (lv rfl) rfl rfl ?_
          have fin : ∀ wb : Bool, ((aget Ak p.flow).wrong || wrongAt (aget Ak p.flow) i p) = wb → tell i Ak p = aput Ak p.flow { aget Ak p.flow with wrong := wb, left := (aget Ak p.flow).left ++ [(i : Int)] } := fun wb h => by unfold tell; rw [h]
          (replace g17_19 : [q.p.flow, q.p.len, q.p.mark] ≠ [p.flow, p.len, p.mark] := g17_19
           have hw := fin true (by rw [show wrongAt (aget Ak p.flow) i p = true from by unfold wrongAt; rw [hq]; simp only [Bool.or_eq_true, decide_eq_true_eq]; exact .inl (fun h => g17_19 (by rw [h]))]; simp)
           exact hback _ _ _ ⟨k + 1, _, tell i Ak p, by omega, rfl, htk, hfo2, (J_self (has_s rfl (has_s rfl (has_s rfl (has_s rfl (has_s rfl has_0)))))), by rw [hw]; exact Holds.p1 (hput2 { aget Ak p.flow with wrong := true, left := (aget Ak p.flow).left ++ [(i : Int)] } _ _ _ _ (hH.sel (by repeat' (first | exact Sel.refl _ | refine Sel.q0 ?_ | refine Sel.q1 ?_ | refine Sel.q2 ?_ | refine Sel.q3 ?_ | refine Sel.skip _ ?_))))⟩ (by omega))
         ·refine pF 20 (lvg rfl rfl rfl) rfl fa_106_1 rfl ?_
          refine d_ld (i := 21) [30] (lvg rfl rfl rfl) rfl lk_104 rfl (by kernel_rfl) ⟨_, _, _, hH.c0, _, rfl, ?_⟩
          refine pM 22 (lvg rfl rfl rfl) rfl rfl ?_
          refine d_p (i := 23) (lvg rfl rfl rfl) rfl (fun w => (r_ia el_104 rfl rfl ?_ ?_)) (by kernel_rfl) ?_; omega; omega
          refine pF 24 (lvg rfl rfl rfl) rfl fa_108_2 rfl ?_
          refine d_ld (i := 25) [30] (lvg rfl rfl rfl) rfl lk_3 rfl (by kernel_rfl) ⟨_, _, _, hbq, _, hcq, ?_⟩
          refine pM 26 (lvg rfl rfl rfl) rfl rfl ?_
          refine d_p (i := 27) (lvg rfl rfl rfl) rfl (fun w => (r_ge rfl rfl)) (by kernel_rfl) ?_
          refine d_p (i := 28) (lv rfl) rfl (fun w => (r_pickF rfl rfl)) (by kernel_rfl) ?_
          refine pF 29 (lv rfl) rfl fa_106_3 rfl ?_
          refine d_l (j := 30) (by kernel_rfl) ?_
          refine o_st (lv rfl) rfl lk_4 rfl (vs := [_]) rfl rfl (by exact hH) rfl rfl (by simp) rfl ?_
          intro w hH; dsimp only [setL, List.set] at hH
          refine ⟨(keeps_in rfl (keeps_in rfl (keeps_in rfl (keeps_in rfl (keeps_in rfl (keeps_in rfl (keeps_in rfl trivial))))))), ?_⟩
          refine d_end (by kernel_rfl) ?_
          refine g_seq ?_
          refine g_region (l := [0, 1, 2, 3, 4, 5, 6]) rfl ?_
          refine o_v (lv rfl) rfl (r_fa fa_106_2 rfl) ?_
          refine o_ld (lv rfl) rfl lk_26 rfl ⟨_, _, _, hH.c0, _, rfl, ?_⟩
          refine vM (lv rfl) rfl rfl ?_
          refine o_bs (lv rfl) rfl el_26 ze_3 rfl rfl rfl (ps := [_]) rfl rfl rfl (cs := [_]) rfl hH ?_
          intro b150 w hH
          refine o_app (enc := encI) (lv rfl) rfl el_26 ze_3 rfl (fun _ => rfl) (fun _ => rfl) rfl rfl (by exact hH.p4) (rd_of_cel [(i : Int)] (by exact hH.c0) rfl) (by simp; omega) (by simp; omega) ?_
          intro v151 w hH; obtain ⟨a151, k151, rfl, -⟩ := hH.rd.len
          refine o_v (lv rfl) rfl (r_fa fa_106_2 rfl) ?_
          refine o_st (lv rfl) rfl lk_26 rfl (vs := [_]) rfl rfl (by exact hH.p2) rfl rfl (by simp) rfl ?_
          intro w hH; dsimp only [setL, List.set] at hH
          refine g_regionD mixed ?_
          rintro w1 rfl; replace hH := hH.drew (n := w.drawn + 1); replace hbq := drewf (n := w.drawn + 1) hbq; replace hbq := drewf (n := w.drawn + 1) hbq; generalize hw1 : { w with drawn := w.drawn + 1 } = w at hH ⊢; try rw [hw1] at hbq; try rw [hw1] at hbq; clear hw1
          refine pM 0 (lv rfl) rfl rfl ?_
          refine pN 1 (lv rfl) rfl rfl ?_
          refine pF 2 (lv rfl) rfl fa_91_2 rfl ?_
          refine d_ld (i := 3) [7] (lv rfl) rfl lk_89 rfl (by kernel_rfl) ⟨_, _, _, hH.c7, _, rfl, ?_⟩
          refine pF 4 (lv rfl) rfl fa_54_0 rfl ?_
          refine d_ld (i := 5) [7] (lv rfl) rfl lk_3 rfl (by kernel_rfl) ⟨_, _, _, hH.c6, _, rfl, ?_⟩
          refine d_ldN (i := 6) [7] (lv rfl) rfl lk_106 rfl (by kernel_rfl) ⟨_, _, _, hH.c0, [_, _, _, _], rfl, rfl, ?_⟩
          refine d_l (j := 7) (by kernel_rfl) ?_
          refine o_mu (lv rfl) rfl mp_89 rfl rfl rfl (by exact hH.p3) ?_
          intro w hH
          refine ⟨(keeps_in rfl (keeps_in rfl (keeps_in rfl trivial))), ?_⟩
          refine d_end (by kernel_rfl) ?_
          refine g_inBlock ?_
          refine g_region (l := [0, 1]) rfl ?_
          refine o_v (lv rfl) rfl (r_addI rfl rfl ?_) ?_; omega
          refine vM (lv rfl) rfl rfl ?_
          have fin : ∀ wb : Bool, ((aget Ak p.flow).wrong || wrongAt (aget Ak p.flow) i p) = wb → tell i Ak p = aput Ak p.flow { aget Ak p.flow with wrong := wb, left := (aget Ak p.flow).left ++ [(i : Int)] } := fun wb h => by unfold tell; rw [h]
          (have hqp : q.p = p := by
             obtain ⟨⟨a1, b1, c1'⟩, d1, e1⟩ := q; obtain ⟨a2, b2, c2'⟩ := p
             simpa using g17_19
           have hw := fin (decide (q.pt ≥ (i : Int))) (by rw [g17_2, show wrongAt (aget Ak p.flow) i p = decide (q.pt ≥ (i : Int)) from by unfold wrongAt; rw [hq]; simp [hqp]]; simp)
           exact hback _ _ _ ⟨k + 1, _, tell i Ak p, by omega, rfl, htk, hfo2, (J_self (has_s rfl (has_s rfl (has_s rfl (has_s rfl (has_s rfl has_0)))))), by rw [hw]; exact Holds.p1 (hput2 { aget Ak p.flow with wrong := decide (q.pt ≥ (i : Int)), left := (aget Ak p.flow).left ++ [(i : Int)] } _ _ _ _ (hH.sel (by repeat' (first | exact Sel.refl _ | refine Sel.q0 ?_ | refine Sel.q1 ?_ | refine Sel.q2 ?_ | refine Sel.q3 ?_ | refine Sel.skip _ ?_))))⟩ (by omega))
      ·refine g_exit rfl ?_
       refine g_eq Tryz.func78 res_0 ?_
       have hkn : k = x.ret.packets.length := by omega
       have hf : x.ret.packets.foldl (tell i) A1 = Ak := by rw [hfo, hkn, List.drop_length]; rfl
       rw [hstep, hf]
       exact (hH.sel (by repeat' (first | exact Sel.refl _)))
theorem fair_enter1 {bk mb : Nat} {c : Config} {lsv xv : Value} {ls : List (List Call)} {A : As} {sum : Int} {n : Nat} (hP : RLists lsv ls R.h) (hls : listsOk ls) (hcfg : cfgOk c) (i : Nat) (hi : i ≤ 1000000) (x : Point) (hop : (callOf ls x).1.op = 1) {pv : Value}
    (hpr : Rd encP pv x.ret.packets R.h) (hpl : x.ret.packets.length ≤ 100) (hA : aOk n A) (hn : n ≤ 1000000000) (hs : U sum)
    (hH : Holds R (cel bk [.int .i64 c.shards, .int .i64 c.slots, .int .i64 c.workers, .int .i64 c.width, .int .u64 c.unit, lsv, xv, .map (some mb), .int .u64 sum] 91 :: AccsC mb A :: F) w) :
    Ret Tryz.prog 78 [.pointer (some ⟨bk, 0, none⟩), .int .i64 i, vPt x pv] w fun v w' => Holds R (cel bk [.int .i64 c.shards, .int .i64 c.slots, .int .i64 c.workers, .int .i64 c.width, .int .u64 c.unit, lsv, xv, .map (some mb), .int .u64 (bookStep c.unit ls A sum i x).2] 91 :: AccsC mb (bookStep c.unit ls A sum i x).1 :: F) w' := by
  obtain ⟨pa, pcap, rfl, hpc⟩ := hpr.len
  have hco := callOf_ok hls x
  have hco' := hco; unfold Call.ok I at hco'
  have hcfg' := hcfg; unfold cfgOk at hcfg'
  have hg := aget_ok hA (callOf ls x).1.flow
  have hg' := hg; unfold accOk at hg'
  have hcu := costOf_U hco.2.2.1 hg.2.2
  have hcu' := hcu; unfold costOf at hcu'
  have hmid := bookMid_ok (unit := c.unit) hls hA hs i x
  refine ret_of_g (n := 161) Tryz.func78 rfl rfl (by simp) ?_
  refine g_seq ?_
  refine g_region (l := [0]) rfl ?_
  refine o_box (lv rfl) rfl (cs := [_, _, _, _, _, _, _]) rfl rfl hH ?_
  intro b5 w hH
  refine g_seq ?_
  refine g_join (fun e w => ∃ (e0 : Env) (b6 : Nat), e = J e0 [(0, .pointer (some ⟨bk, 0, none⟩)), (1, .int .i64 i), (5, .pointer (some ⟨b5, 0, none⟩)), (6, .pointer (some ⟨b6, 0, none⟩)), (7, .bool (callOf ls x).2)] ∧ Holds R (cel b6 [.int .i64 (callOf ls x).1.op, .int .i64 (callOf ls x).1.flow, .int .i64 (callOf ls x).1.a, .int .i64 (callOf ls x).1.b] 46 :: cel b5 [.int .i64 x.step, .int .i64 x.who, .int .i64 x.place, .int .i64 x.ret.e, .slice pa x.ret.packets.length pcap, .int .i64 x.ret.n, .int .u64 x.ret.v] 59 :: cel bk [.int .i64 c.shards, .int .i64 c.slots, .int .i64 c.workers, .int .i64 c.width, .int .u64 c.unit, lsv, xv, .map (some mb), .int .u64 sum] 91 :: AccsC mb A :: F) w) (fun kk hkk => ?_) ?_
  ·refine rD mixed hH fun w hH => ?_
   refine pM 0 (lv rfl) rfl rfl ?_
   refine pN 1 (lv rfl) rfl rfl ?_
   refine pF 2 (lv rfl) rfl fa_91_0 rfl ?_
   refine d_ldN (i := 3) [5, 10] (lv rfl) rfl lk_28 rfl (by kernel_rfl) ⟨_, _, _, hH.c1, [_, _, _, _, _, _], rfl, rfl, ?_⟩
   refine d_ldN (i := 4) [5, 10] (lv rfl) rfl lk_59 rfl (by kernel_rfl) ⟨_, _, _, hH.c0, [_, _, _, _, _, _, _], rfl, rfl, ?_⟩
   refine d_l2 (j := 5) (j2 := 9) (by kernel_rfl) ?_ ?_
   ·refine o_call (lv rfl) rfl en_58 rfl (wit_Call (c := c) hP (by have := hls.1; omega) x hH) ?_
    rintro _ w ⟨rfl, hH⟩
    refine ⟨(keeps_in rfl (keeps_in rfl trivial)), ?_⟩
    refine pM 6 (lv rfl) rfl rfl ?_
    refine pE 7 (lv rfl) rfl rfl rfl ?_
    refine pE 8 (lv rfl) rfl rfl rfl ?_
    refine d_l (j := 9) (by kernel_rfl) ?_
    refine o_al (lv rfl) rfl ze_46 hH ?_
    intro b6 w hH
    refine ⟨(keeps_cons (fun _ => (by exact hH.c1)) (keeps_cons (fun _ => (by exact hH.c2)) trivial)), ?_⟩
    refine d_l (j := 10) (by kernel_rfl) ?_
    refine o_st (lv rfl) rfl lk_46 rfl (vs := [_, _, _, _]) rfl rfl (by exact hH) rfl rfl (by simp) rfl ?_
    intro w hH; dsimp only [setL, List.set] at hH
    refine ⟨(keeps_in rfl (keeps_in rfl trivial)), ?_⟩
    refine pA 11 (lv rfl) rfl rfl ?_
    refine d_end (by kernel_rfl) ?_
    exact hkk _ _ ⟨_, b6, (J_self (has_s rfl (has_s rfl (has_s rfl (has_s rfl (has_s rfl has_0)))))), (hH.sel (by repeat' (first | exact Sel.refl _)))⟩
   ·refine o_al (lv rfl) rfl ze_46 hH ?_
    intro b6 w hH
    refine ⟨(keeps_cons (fun _ => (by exact hH.c1)) (keeps_cons (fun _ => (by exact hH.c2)) trivial)), ?_⟩
    refine d_l (j := 5) (by kernel_rfl) ?_
    refine o_call (lv rfl) rfl en_58 rfl (wit_Call (c := c) hP (by have := hls.1; omega) x hH) ?_
    rintro _ w ⟨rfl, hH⟩
    refine ⟨(keeps_in rfl (keeps_in rfl trivial)), ?_⟩
    refine pM 6 (lv rfl) rfl rfl ?_
    refine pE 7 (lv rfl) rfl rfl rfl ?_
    refine pE 8 (lv rfl) rfl rfl rfl ?_
    refine d_l (j := 10) (by kernel_rfl) ?_
    refine o_st (lv rfl) rfl lk_46 rfl (vs := [_, _, _, _]) rfl rfl (by exact hH) rfl rfl (by simp) rfl ?_
    intro w hH; dsimp only [setL, List.set] at hH
    refine ⟨(keeps_in rfl (keeps_in rfl trivial)), ?_⟩
    refine pA 11 (lv rfl) rfl rfl ?_
    refine d_end (by kernel_rfl) ?_
    exact hkk _ _ ⟨_, b6, (J_self (has_s rfl (has_s rfl (has_s rfl (has_s rfl (has_s rfl has_0)))))), (hH.sel (by repeat' (first | exact Sel.refl _)))⟩
  ·rintro _ w ⟨e0, b6, rfl, hH⟩
   refine g_seq ?_
   obtain ⟨l, cv, av, rest, hval, hH, hkeep, hput⟩ := AccsC.take (callOf ls x).1.flow (by exact hH.p3)
   obtain ⟨ca, ccap, rfl, -⟩ := hH.p1.rd.len
   obtain ⟨la, lcap, rfl, -⟩ := hH.p2.rd.len
   refine rD mixed hH fun w hH => ?_
   refine pM 0 (lv rfl) rfl rfl ?_
   refine pN 1 (lv rfl) rfl rfl ?_
   refine pF 2 (lv rfl) rfl fa_91_2 rfl ?_
   refine d_ld (i := 3) [8] (lv rfl) rfl lk_89 rfl (by kernel_rfl) ⟨_, _, _, hH.c6, _, rfl, ?_⟩
   refine pF 4 (lv rfl) rfl fa_46_1 rfl ?_
   refine d_ld (i := 5) [8] (lv rfl) rfl lk_3 rfl (by kernel_rfl) ⟨_, _, _, hH.c4, _, rfl, ?_⟩
   refine d_q (i := 6) (fun w => MapR _ _ (Go.Lt.hp w)) [8] (lv rfl) rfl (fun w hS => r_lkw mp_89 rfl rfl hS (hval)) (by exact hH.mrd) (by kernel_rfl) ?_
   refine d_l (j := 7) (by kernel_rfl) ?_
   refine o_al (lv rfl) rfl ze_106 hH ?_
   intro b8 w hH
   refine ⟨(keeps_cons (fun _ => (by exact hH.p1.mrd)) (keeps_cons (fun _ => (by exact hH.c5)) (keeps_cons (fun _ => (by exact hH.c7)) trivial))), ?_⟩
   refine d_l (j := 8) (by kernel_rfl) ?_
   refine o_st (lv rfl) rfl lk_106 rfl (vs := [_, _, _, _]) rfl rfl (by exact hH) rfl rfl (by simp) rfl ?_
   intro w hH; dsimp only [setL, List.set] at hH
   refine ⟨(keeps_in rfl (keeps_in rfl (keeps_in rfl trivial))), ?_⟩
   refine d_end (by kernel_rfl) ?_
   refine g_seq ?_
   refine g_block ?_
   refine g_seq ?_
   refine g_region (l := [0, 1, 2, 3, 4]) rfl ?_
   refine o_v (lv rfl) rfl (r_fa fa_59_3 rfl) ?_
   refine o_v (lv rfl) rfl (r_fa fa_57_0 rfl) ?_
   refine o_ld (lv rfl) rfl lk_55 rfl ⟨_, _, _, hH.c6, _, rfl, ?_⟩
   refine o_v (lv rfl) rfl (r_ne rfl rfl) ?_
   refine vA (lv rfl) rfl rfl ?_
   refine g_if rfl (fun c0 => ?_) (fun c0 => ?_)
   ·refine g_rq Tryz.func78 res_0 ?_
    rw [show bookStep c.unit ls A sum i x = (A, sum) from by unfold bookStep; rw [if_pos c0]]
    exact Holds.p1 (hkeep _ _ (hH.sel (by repeat' (first | exact Sel.refl _ | refine Sel.q1 ?_ | refine Sel.q3 ?_ | refine Sel.skip _ ?_))))
   ·refine g_seq ?_
    refine g_region (l := [0, 1, 2, 3]) rfl ?_
    refine o_v (lv rfl) rfl (r_fa fa_46_0 rfl) ?_
    refine o_ld (lv rfl) rfl lk_3 rfl ⟨_, _, _, hH.c5, _, rfl, ?_⟩
    refine o_v (lv rfl) rfl (r_eq rfl rfl) ?_
    refine vA (lv rfl) rfl rfl ?_
    refine g_if rfl (fun c1 => ?_) (fun c1 => ?_)
    ·refine g_seq ?_
     refine rD mixed hH fun w hH => ?_
     refine pM 0 (lv rfl) rfl rfl ?_
     refine pN 1 (lv rfl) rfl rfl ?_
     refine pF 2 (lv rfl) rfl fa_91_0 rfl ?_
     refine pF 3 (lv rfl) rfl fa_28_0 rfl ?_
     refine pF 4 (lv rfl) rfl fa_24_4 rfl ?_
     refine d_ld (i := 5) [8, 13] (lv rfl) rfl lk_22 rfl (by kernel_rfl) ⟨_, _, _, hH.c7, _, rfl, ?_⟩
     refine pF 6 (lv rfl) rfl fa_46_2 rfl ?_
     refine d_ld (i := 7) [8, 13] (lv rfl) rfl lk_3 rfl (by kernel_rfl) ⟨_, _, _, hH.c5, _, rfl, ?_⟩
     refine d_l (j := 8) (by kernel_rfl) ?_
     refine o_call (lv rfl) rfl en_113 rfl (tag_Inverse c.unit (callOf ls x).1.a (by unfold U; omega) (by unfold I; omega) hH) ?_
     rintro _ w ⟨rfl, hH⟩
     refine ⟨(keeps_in rfl (keeps_in rfl trivial)), ?_⟩
     refine pM 9 (lv rfl) rfl rfl ?_
     refine pE 10 (lv rfl) rfl rfl rfl ?_
     refine pE 11 (lv rfl) rfl rfl rfl ?_
     refine pF 12 (lv rfl) rfl fa_106_0 rfl ?_
     refine d_l (j := 13) (by kernel_rfl) ?_
     refine o_st (lv rfl) rfl lk_22 rfl (vs := [_]) rfl rfl (by exact hH) rfl rfl (by simp) rfl ?_
     intro w hH; dsimp only [setL, List.set] at hH
     refine ⟨(keeps_in rfl (keeps_in rfl trivial)), ?_⟩
     refine d_end (by kernel_rfl) ?_
     refine rD mixed hH fun w hH => ?_
     refine pM 0 (lv rfl) rfl rfl ?_
     refine pN 1 (lv rfl) rfl rfl ?_
     refine pF 2 (lv rfl) rfl fa_91_2 rfl ?_
     refine d_ld (i := 3) [7] (lv rfl) rfl lk_89 rfl (by kernel_rfl) ⟨_, _, _, hH.c7, _, rfl, ?_⟩
     refine pF 4 (lv rfl) rfl fa_46_1 rfl ?_
     refine d_ld (i := 5) [7] (lv rfl) rfl lk_3 rfl (by kernel_rfl) ⟨_, _, _, hH.c5, _, rfl, ?_⟩
     refine d_ldN (i := 6) [7] (lv rfl) rfl lk_106 rfl (by kernel_rfl) ⟨_, _, _, hH.c0, [_, _, _, _], rfl, rfl, ?_⟩
     refine d_l (j := 7) (by kernel_rfl) ?_
     refine o_mu (lv rfl) rfl mp_89 rfl rfl rfl (by exact hH.p1) ?_
     intro w hH
     refine ⟨(keeps_in rfl (keeps_in rfl (keeps_in rfl trivial))), ?_⟩
     refine d_end (by kernel_rfl) ?_
     refine g_inBlock ?_
     refine g_seq ?_
     obtain ⟨A1, s1, hA1, hH⟩ : ∃ A1 s1, bookMid c.unit ls A sum i x = (A1, s1) ∧ Holds R (cel bk [.int .i64 c.shards, .int .i64 c.slots, .int .i64 c.workers, .int .i64 c.width, .int .u64 c.unit, lsv, xv, .map (some mb), .int .u64 s1] 91 :: AccsC mb A1 :: cel b5 [.int .i64 x.step, .int .i64 x.who, .int .i64 x.place, .int .i64 x.ret.e, .slice pa x.ret.packets.length pcap, .int .i64 x.ret.n, .int .u64 x.ret.v] 59 :: F) w := by
       exact ⟨_, _, by unfold bookMid; rw [if_pos c1], Holds.p1 (hput { aget A (callOf ls x).1.flow with r := if invOk c.unit (callOf ls x).1.a then inverse c.unit (callOf ls x).1.a else 0 } _ _ _ _ (hH.sel (by repeat' (first | exact Sel.refl _ | refine Sel.q0 ?_ | refine Sel.q1 ?_ | refine Sel.q2 ?_ | refine Sel.q3 ?_ | refine Sel.skip _ ?_))))⟩
     rw [hA1] at hmid
     have hstep : bookStep c.unit ls A sum i x = (x.ret.packets.foldl (tell i) A1, s1) := by unfold bookStep; rw [if_neg c0, hA1]
     refine g_region (l := [0, 1, 2, 3, 4]) rfl ?_
     refine o_v (lv rfl) rfl (r_fa fa_59_3 rfl) ?_
     refine o_v (lv rfl) rfl (r_fa fa_57_1 rfl) ?_
     refine o_ld (lv rfl) rfl lk_48 rfl ⟨_, _, _, hH.c2, _, rfl, ?_⟩
     refine o_v (lv rfl) rfl (r_len el_48 rfl) ?_
     refine vM (lv rfl) rfl rfl ?_
     refine g_block ?_
     refine g_loop (fun mm e w => ∃ (k : Nat) (e0 : Env) (Ak : As), k ≤ x.ret.packets.length ∧ mm = x.ret.packets.length - k ∧ aOk (n + 1 + k) Ak ∧ x.ret.packets.foldl (tell i) A1 = (x.ret.packets.drop k).foldl (tell i) Ak ∧
         e = J e0 [(0, .pointer (some ⟨bk, 0, none⟩)), (1, .int .i64 i), (101, .slice pa x.ret.packets.length pcap), (102, .int .i64 x.ret.packets.length), (103, .int .i64 k)] ∧ Holds R (cel bk [.int .i64 c.shards, .int .i64 c.slots, .int .i64 c.workers, .int .i64 c.width, .int .u64 c.unit, lsv, xv, .map (some mb), .int .u64 s1] 91 :: AccsC mb Ak :: F) w) x.ret.packets.length ⟨0, _, A1, by omega, by omega, hmid.1, rfl, (J_self (has_s rfl (has_s rfl (has_s rfl (has_s rfl (has_s rfl has_0)))))), (hH.sel (by repeat' (first | exact Sel.refl _ | refine Sel.q0 ?_ | refine Sel.skip _ ?_)))⟩ ?_
     rintro mm _ w ⟨k, e0, Ak, hk, hm, hAk, hfo, rfl, hH⟩ hback
     refine g_seq ?_
     refine g_region (l := [0]) rfl ?_
     refine o_v (lv rfl) rfl (r_lt rfl rfl) ?_
     refine g_seq ?_
     refine g_if rfl (fun c3 => ?_) (fun c3 => ?_)
     ·have hkl : k < x.ret.packets.length := by omega
      obtain ⟨p, hp2⟩ : ∃ p, x.ret.packets[k]? = some p := ⟨_, List.getElem?_eq_getElem hkl⟩
      obtain ⟨bp, op_, cs, T, hpe, hbp, hcp0⟩ := Rd.el hkP hpr hp2
      rw [hpe]; rw [hpe] at hback
      have hcp := dt_of hcp0
      have hfo2 : x.ret.packets.foldl (tell i) A1 = (x.ret.packets.drop (k + 1)).foldl (tell i) (tell i Ak p) := by
        rw [hfo]
        obtain ⟨h1, h2⟩ := List.getElem?_eq_some_iff.1 hp2
        rw [List.drop_eq_getElem_cons h1, List.foldl_cons, h2]
      have hgk := aget_ok hAk p.flow
      have hgk' := hgk; unfold accOk at hgk'
      have htk := tell_ok hAk i p
      refine g_skip ?_
      refine g_seq ?_
      refine g_block ?_
      refine g_seq ?_
      refine g_region (l := [0, 1, 2, 3]) rfl ?_
      refine o_v (lv rfl) rfl (r_ia el_48 rfl rfl ?_ ?_) ?_; omega; omega
      refine o_ldN (lv rfl) rfl lk_54 rfl ⟨_, _, _, hH.old hbp, _, hcp, rfl, ?_⟩
      refine o_al (lv rfl) rfl ze_54 hH ?_
      intro b11 w hH
      refine o_st (lv rfl) rfl lk_54 rfl (vs := [_, _, _]) rfl rfl (by exact hH) rfl rfl (by simp) rfl ?_
      intro w hH; dsimp only [setL, List.set] at hH
      refine g_seq ?_
      obtain ⟨l2, cv2, av2, rest2, hval2, hH, hkeep2, hput2⟩ := AccsC.take p.flow (by exact hH.p2)
      obtain ⟨ca2, ccap2, hc2e, -⟩ := hH.p1.rd.len
      obtain ⟨la2, lcap2, hl2e, -⟩ := hH.p2.rd.len
      rw [hc2e, hl2e] at hval2 hH
      refine rD mixed hH fun w hH => ?_
      refine pM 0 (lv rfl) rfl rfl ?_
      refine pN 1 (lv rfl) rfl rfl ?_
      refine pF 2 (lv rfl) rfl fa_91_2 rfl ?_
      refine d_ld (i := 3) [8] (lv rfl) rfl lk_89 rfl (by kernel_rfl) ⟨_, _, _, hH.c5, _, rfl, ?_⟩
      refine pF 4 (lv rfl) rfl fa_54_0 rfl ?_
      refine d_ld (i := 5) [8] (lv rfl) rfl lk_3 rfl (by kernel_rfl) ⟨_, _, _, hH.c4, _, rfl, ?_⟩
      refine d_q (i := 6) (fun w => MapR _ _ (Go.Lt.hp w)) [8] (lv rfl) rfl (fun w hS => r_lkw mp_89 rfl rfl hS (hval2)) (by exact hH.mrd) (by kernel_rfl) ?_
      refine d_l (j := 7) (by kernel_rfl) ?_
      refine o_al (lv rfl) rfl ze_106 hH ?_
      intro b12 w hH
      refine ⟨(keeps_cons (fun _ => (by exact hH.p1.mrd)) (keeps_cons (fun _ => (by exact hH.c5)) (keeps_cons (fun _ => (by exact hH.c6)) trivial))), ?_⟩
      refine d_l (j := 8) (by kernel_rfl) ?_
      refine o_st (lv rfl) rfl lk_106 rfl (vs := [_, _, _, _]) rfl rfl (by exact hH) rfl rfl (by simp) rfl ?_
      intro w hH; dsimp only [setL, List.set] at hH
      refine ⟨(keeps_in rfl (keeps_in rfl (keeps_in rfl trivial))), ?_⟩
      refine d_end (by kernel_rfl) ?_
      refine g_seq ?_
      refine g_region (l := [0, 1, 2, 3]) rfl ?_
      refine o_v (lv rfl) rfl (r_fa fa_106_2 rfl) ?_
      refine o_ld (lv rfl) rfl lk_26 rfl ⟨_, _, _, hH.c0, _, rfl, ?_⟩
      refine o_v (lv rfl) rfl (r_len el_26 rfl) ?_
      refine vA (lv rfl) rfl rfl ?_
      refine g_seq ?_
      refine rD mixed hH fun w hH => ?_
      refine pF 0 (lv rfl) rfl fa_106_3 rfl ?_
      refine d_ld (i := 1) [30] (lv rfl) rfl lk_4 rfl (by kernel_rfl) ⟨_, _, _, hH.c0, _, rfl, ?_⟩
      refine pM 2 (lv rfl) rfl rfl ?_
      refine s_opdb (fun g17_2 => ?_) (fun g17_2 => ?_)
      ·refine pO 3 rfl rfl rfl rfl ?_
       refine pO 4 rfl rfl rfl rfl ?_
       refine pO 5 rfl rfl rfl rfl ?_
       refine pO 6 rfl rfl rfl rfl ?_
       refine pO 7 rfl rfl rfl rfl ?_
       refine d_p (i := 8) (lv rfl) rfl (fun w => (r_pickT rfl rfl)) (by kernel_rfl) ?_
       refine pM 9 (lv rfl) rfl rfl ?_
       refine pO 10 rfl rfl rfl rfl ?_
       refine pO 11 rfl rfl rfl rfl ?_
       refine pO 12 rfl rfl rfl rfl ?_
       refine pO 13 rfl rfl rfl rfl ?_
       refine pO 14 rfl rfl rfl rfl ?_
       refine pO 15 rfl rfl rfl rfl ?_
       refine pO 16 rfl rfl rfl rfl ?_
       refine pO 17 rfl rfl rfl rfl ?_
       refine d_p (i := 18) (lv rfl) rfl (fun w => (r_pickT rfl rfl)) (by kernel_rfl) ?_
       refine pM 19 (lv rfl) rfl rfl ?_
       refine pO 20 rfl rfl rfl rfl ?_
       refine pO 21 rfl rfl rfl rfl ?_
       refine pO 22 rfl rfl rfl rfl ?_
       refine pO 23 rfl rfl rfl rfl ?_
       refine pO 24 rfl rfl rfl rfl ?_
       refine pO 25 rfl rfl rfl rfl ?_
       refine pO 26 rfl rfl rfl rfl ?_
       refine pO 27 rfl rfl rfl rfl ?_
       refine d_p (i := 28) (lv rfl) rfl (fun w => (r_pickT rfl rfl)) (by kernel_rfl) ?_
       refine pF 29 (lv rfl) rfl fa_106_3 rfl ?_
       refine d_l (j := 30) (by kernel_rfl) ?_
       refine o_st (lv rfl) rfl lk_4 rfl (vs := [_]) rfl rfl (by exact hH) rfl rfl (by simp) rfl ?_
       intro w hH; dsimp only [setL, List.set] at hH
       refine ⟨(keeps_in rfl trivial), ?_⟩
       refine d_end (by kernel_rfl) ?_
       refine g_seq ?_
       refine g_region (l := [0, 1, 2, 3, 4, 5, 6]) rfl ?_
       refine o_v (lv rfl) rfl (r_fa fa_106_2 rfl) ?_
       refine o_ld (lv rfl) rfl lk_26 rfl ⟨_, _, _, hH.c0, _, rfl, ?_⟩
       refine vM (lv rfl) rfl rfl ?_
       refine o_bs (lv rfl) rfl el_26 ze_3 rfl rfl rfl (ps := [_]) rfl rfl rfl (cs := [_]) rfl hH ?_
       intro b150 w hH
       refine o_app (enc := encI) (lv rfl) rfl el_26 ze_3 rfl (fun _ => rfl) (fun _ => rfl) rfl rfl (by exact hH.p4) (rd_of_cel [(i : Int)] (by exact hH.c0) rfl) (by simp; omega) (by simp; omega) ?_
       intro v151 w hH; obtain ⟨a151, k151, rfl, -⟩ := hH.rd.len
       refine o_v (lv rfl) rfl (r_fa fa_106_2 rfl) ?_
       refine o_st (lv rfl) rfl lk_26 rfl (vs := [_]) rfl rfl (by exact hH.p2) rfl rfl (by simp) rfl ?_
       intro w hH; dsimp only [setL, List.set] at hH
       refine rD mixed hH fun w hH => ?_
       refine pM 0 (lv rfl) rfl rfl ?_
       refine pN 1 (lv rfl) rfl rfl ?_
       refine pF 2 (lv rfl) rfl fa_91_2 rfl ?_
       refine d_ld (i := 3) [7] (lv rfl) rfl lk_89 rfl (by kernel_rfl) ⟨_, _, _, hH.c7, _, rfl, ?_⟩
       refine pF 4 (lv rfl) rfl fa_54_0 rfl ?_
       refine d_ld (i := 5) [7] (lv rfl) rfl lk_3 rfl (by kernel_rfl) ⟨_, _, _, hH.c6, _, rfl, ?_⟩
       refine d_ldN (i := 6) [7] (lv rfl) rfl lk_106 rfl (by kernel_rfl) ⟨_, _, _, hH.c0, [_, _, _, _], rfl, rfl, ?_⟩
       refine d_l (j := 7) (by kernel_rfl) ?_
       refine o_mu (lv rfl) rfl mp_89 rfl rfl rfl (by exact hH.p3) ?_
       intro w hH
       refine ⟨(keeps_in rfl (keeps_in rfl (keeps_in rfl trivial))), ?_⟩
       refine d_end (by kernel_rfl) ?_
       refine g_inBlock ?_
       refine g_region (l := [0, 1]) rfl ?_
       refine o_v (lv rfl) rfl (r_addI rfl rfl ?_) ?_; omega
       refine vM (lv rfl) rfl rfl ?_
       have fin : ∀ wb : Bool, ((aget Ak p.flow).wrong || wrongAt (aget Ak p.flow) i p) = wb → tell i Ak p = aput Ak p.flow { aget Ak p.flow with wrong := wb, left := (aget Ak p.flow).left ++ [(i : Int)] } := fun wb h => by unfold tell; rw [h]
       (have hw := fin true (by rw [g17_2]; rfl)
        exact hback _ _ _ ⟨k + 1, _, tell i Ak p, by omega, rfl, htk, hfo2, (J_self (has_s rfl (has_s rfl (has_s rfl (has_s rfl (has_s rfl has_0)))))), by rw [hw]; exact Holds.p1 (hput2 { aget Ak p.flow with wrong := true, left := (aget Ak p.flow).left ++ [(i : Int)] } _ _ _ _ (hH.sel (by repeat' (first | exact Sel.refl _ | refine Sel.q0 ?_ | refine Sel.q1 ?_ | refine Sel.q2 ?_ | refine Sel.q3 ?_ | refine Sel.skip _ ?_))))⟩ (by omega))
      ·refine pM 3 (lvg rfl rfl rfl) rfl rfl ?_
       refine pF 4 (lvg rfl rfl rfl) rfl fa_106_1 rfl ?_
       refine d_ld (i := 5) [30] (lvg rfl rfl rfl) rfl lk_104 rfl (by kernel_rfl) ⟨_, _, _, hH.c0, _, rfl, ?_⟩
       refine d_p (i := 6) (lvg rfl rfl rfl) rfl (fun w => (r_len el_104 rfl)) (by kernel_rfl) ?_
       refine d_p (i := 7) (lvg rfl rfl rfl) rfl (fun w => (r_ge rfl rfl)) (by kernel_rfl) ?_
       refine d_p (i := 8) (lv rfl) rfl (fun w => (r_pickF rfl rfl)) (by kernel_rfl) ?_
       refine pM 9 (lv rfl) rfl rfl ?_
       refine s_opd (fun g17_9 => ?_) (fun g17_9 => ?_)
       ·refine pO 10 rfl rfl rfl rfl ?_
        refine pO 11 rfl rfl rfl rfl ?_
        refine pO 12 rfl rfl rfl rfl ?_
        refine pO 13 rfl rfl rfl rfl ?_
        refine pO 14 rfl rfl rfl rfl ?_
        refine pO 15 rfl rfl rfl rfl ?_
        refine pO 16 rfl rfl rfl rfl ?_
        refine pO 17 rfl rfl rfl rfl ?_
        refine d_p (i := 18) (lv rfl) rfl (fun w => (r_pickT rfl rfl)) (by kernel_rfl) ?_
        refine pM 19 (lv rfl) rfl rfl ?_
        refine pO 20 rfl rfl rfl rfl ?_
        refine pO 21 rfl rfl rfl rfl ?_
        refine pO 22 rfl rfl rfl rfl ?_
        refine pO 23 rfl rfl rfl rfl ?_
        refine pO 24 rfl rfl rfl rfl ?_
        refine pO 25 rfl rfl rfl rfl ?_
        refine pO 26 rfl rfl rfl rfl ?_
        refine pO 27 rfl rfl rfl rfl ?_
        refine d_p (i := 28) (lv rfl) rfl (fun w => (r_pickT rfl rfl)) (by kernel_rfl) ?_
        refine pF 29 (lv rfl) rfl fa_106_3 rfl ?_
        refine d_l (j := 30) (by kernel_rfl) ?_
        refine o_st (lv rfl) rfl lk_4 rfl (vs := [_]) rfl rfl (by exact hH) rfl rfl (by simp) rfl ?_
        intro w hH; dsimp only [setL, List.set] at hH
        refine ⟨(keeps_in rfl (keeps_in rfl trivial)), ?_⟩
        refine d_end (by kernel_rfl) ?_
        refine g_seq ?_
        refine g_region (l := [0, 1, 2, 3, 4, 5, 6]) rfl ?_
        refine o_v (lv rfl) rfl (r_fa fa_106_2 rfl) ?_
        refine o_ld (lv rfl) rfl lk_26 rfl ⟨_, _, _, hH.c0, _, rfl, ?_⟩
        refine vM (lv rfl) rfl rfl ?_
        refine o_bs (lv rfl) rfl el_26 ze_3 rfl rfl rfl (ps := [_]) rfl rfl rfl (cs := [_]) rfl hH ?_
        intro b150 w hH
        refine o_app (enc := encI) (lv rfl) rfl el_26 ze_3 rfl (fun _ => rfl) (fun _ => rfl) rfl rfl (by exact hH.p4) (rd_of_cel [(i : Int)] (by exact hH.c0) rfl) (by simp; omega) (by simp; omega) ?_
        intro v151 w hH; obtain ⟨a151, k151, rfl, -⟩ := hH.rd.len
        refine o_v (lv rfl) rfl (r_fa fa_106_2 rfl) ?_
        refine o_st (lv rfl) rfl lk_26 rfl (vs := [_]) rfl rfl (by exact hH.p2) rfl rfl (by simp) rfl ?_
        intro w hH; dsimp only [setL, List.set] at hH
        refine rD mixed hH fun w hH => ?_
        refine pM 0 (lv rfl) rfl rfl ?_
        refine pN 1 (lv rfl) rfl rfl ?_
        refine pF 2 (lv rfl) rfl fa_91_2 rfl ?_
        refine d_ld (i := 3) [7] (lv rfl) rfl lk_89 rfl (by kernel_rfl) ⟨_, _, _, hH.c7, _, rfl, ?_⟩
        refine pF 4 (lv rfl) rfl fa_54_0 rfl ?_
        refine d_ld (i := 5) [7] (lv rfl) rfl lk_3 rfl (by kernel_rfl) ⟨_, _, _, hH.c6, _, rfl, ?_⟩
        refine d_ldN (i := 6) [7] (lv rfl) rfl lk_106 rfl (by kernel_rfl) ⟨_, _, _, hH.c0, [_, _, _, _], rfl, rfl, ?_⟩
        refine d_l (j := 7) (by kernel_rfl) ?_
        refine o_mu (lv rfl) rfl mp_89 rfl rfl rfl (by exact hH.p3) ?_
        intro w hH
        refine ⟨(keeps_in rfl (keeps_in rfl (keeps_in rfl trivial))), ?_⟩
        refine d_end (by kernel_rfl) ?_
        refine g_inBlock ?_
        refine g_region (l := [0, 1]) rfl ?_
        refine o_v (lv rfl) rfl (r_addI rfl rfl ?_) ?_; omega
        refine vM (lv rfl) rfl rfl ?_
        have fin : ∀ wb : Bool, ((aget Ak p.flow).wrong || wrongAt (aget Ak p.flow) i p) = wb → tell i Ak p = aput Ak p.flow { aget Ak p.flow with wrong := wb, left := (aget Ak p.flow).left ++ [(i : Int)] } := fun wb h => by unfold tell; rw [h]
        (have hw := fin true (by rw [show wrongAt (aget Ak p.flow) i p = true from by unfold wrongAt; rw [List.getElem?_eq_none (by omega)]]; simp)
         exact hback _ _ _ ⟨k + 1, _, tell i Ak p, by omega, rfl, htk, hfo2, (J_self (has_s rfl (has_s rfl (has_s rfl (has_s rfl (has_s rfl has_0)))))), by rw [hw]; exact Holds.p1 (hput2 { aget Ak p.flow with wrong := true, left := (aget Ak p.flow).left ++ [(i : Int)] } _ _ _ _ (hH.sel (by repeat' (first | exact Sel.refl _ | refine Sel.q0 ?_ | refine Sel.q1 ?_ | refine Sel.q2 ?_ | refine Sel.q3 ?_ | refine Sel.skip _ ?_))))⟩ (by omega))
       ·obtain ⟨q, hq⟩ : ∃ q, (aget Ak p.flow).came[(aget Ak p.flow).left.length]? = some q := ⟨_, List.getElem?_eq_getElem (by omega)⟩
        obtain ⟨bq, oq, csq, Tq, hqe, hbq, hcq0⟩ := Rd.el hkPc (show Rd encPc _ (aget Ak p.flow).came (Go.Lt.hp w) from (by exact hH.p2.rd)) hq
        rw [hqe]; rw [hqe] at hH
        have hcq := hcq0 4 _ rfl
        have hcqN := dt_of (vs := [.int .i64 q.p.flow, .int .i64 q.p.len, .int .i64 q.p.mark]) (cs := csq) (fun j c hj => hcq0 j c (by
          match j, hj with
          | 0, h => exact h
          | 1, h => exact h
          | 2, h => exact h))
        refine pF 10 (lvg rfl rfl rfl) rfl fa_106_1 rfl ?_
        refine d_ld (i := 11) [30] (lvg rfl rfl rfl) rfl lk_104 rfl (by kernel_rfl) ⟨_, _, _, hH.c0, _, rfl, ?_⟩
        refine pM 12 (lvg rfl rfl rfl) rfl rfl ?_
        refine d_p (i := 13) (lvg rfl rfl rfl) rfl (fun w => (r_ia el_104 rfl rfl ?_ ?_)) (by kernel_rfl) ?_; omega; omega
        refine pF 14 (lvg rfl rfl rfl) rfl fa_108_0 rfl ?_
        refine d_ldN (i := 15) [30] (lvg rfl rfl rfl) rfl lk_54 rfl (by kernel_rfl) ⟨_, _, _, hbq, _, hcqN, rfl, ?_⟩
        refine d_ldN (i := 16) [30] (lvg rfl rfl rfl) rfl lk_54 rfl (by kernel_rfl) ⟨_, _, _, hH.c5, [_, _, _], rfl, rfl, ?_⟩
        refine d_p (i := 17) (lvg rfl rfl rfl) rfl (fun w => (r_nest fi_54 rfl rfl rfl rfl)) (by kernel_rfl) ?_
        refine d_p (i := 18) (lv rfl) rfl (fun w => (r_pickF rfl rfl)) (by kernel_rfl) ?_
        refine pM 19 (lv rfl) rfl rfl ?_
        refine s_opd (fun g17_19 => ?_) (fun g17_19 => ?_)
        ·refine pO 20 rfl rfl rfl rfl ?_
         refine pO 21 rfl rfl rfl rfl ?_
         refine pO 22 rfl rfl rfl rfl ?_
         refine pO 23 rfl rfl rfl rfl ?_
         refine pO 24 rfl rfl rfl rfl ?_
         refine pO 25 rfl rfl rfl rfl ?_
         refine pO 26 rfl rfl rfl rfl ?_
         refine pO 27 rfl rfl rfl rfl ?_
         refine d_p (i := 28) (lv rfl) rfl (fun w => (r_pickT rfl rfl)) (by kernel_rfl) ?_
         refine pF 29 (lv rfl) rfl fa_106_3 rfl ?_
         refine d_l (j := 30) (by kernel_rfl) ?_
         refine o_st (lv rfl) rfl lk_4 rfl (vs := [_]) rfl rfl (by exact hH) rfl rfl (by simp) rfl ?_
         intro w hH; dsimp only [setL, List.set] at hH
         refine ⟨(keeps_in rfl (keeps_in rfl (keeps_in rfl (keeps_in rfl (keeps_in rfl trivial))))), ?_⟩
         refine d_end (by kernel_rfl) ?_
         refine g_seq ?_
         refine g_region (l := [0, 1, 2, 3, 4, 5, 6]) rfl ?_
         refine o_v (lv rfl) rfl (r_fa fa_106_2 rfl) ?_
         refine o_ld (lv rfl) rfl lk_26 rfl ⟨_, _, _, hH.c0, _, rfl, ?_⟩
         refine vM (lv rfl) rfl rfl ?_
         refine o_bs (lv rfl) rfl el_26 ze_3 rfl rfl rfl (ps := [_]) rfl rfl rfl (cs := [_]) rfl hH ?_
         intro b150 w hH
         refine o_app (enc := encI) (lv rfl) rfl el_26 ze_3 rfl (fun _ => rfl) (fun _ => rfl) rfl rfl (by exact hH.p4) (rd_of_cel [(i : Int)] (by exact hH.c0) rfl) (by simp; omega) (by simp; omega) ?_
         intro v151 w hH; obtain ⟨a151, k151, rfl, -⟩ := hH.rd.len
         refine o_v (lv rfl) rfl (r_fa fa_106_2 rfl) ?_
         refine o_st (lv rfl) rfl lk_26 rfl (vs := [_]) rfl rfl (by exact hH.p2) rfl rfl (by simp) rfl ?_
         intro w hH; dsimp only [setL, List.set] at hH
         refine g_regionD mixed ?_
         rintro w1 rfl; replace hH := hH.drew (n := w.drawn + 1); replace hbq := drewf (n := w.drawn + 1) hbq; replace hbq := drewf (n := w.drawn + 1) hbq; generalize hw1 : { w with drawn := w.drawn + 1 } = w at hH ⊢; try rw [hw1] at hbq; try rw [hw1] at hbq; clear hw1
         refine pM 0 (lv rfl) rfl rfl ?_
         refine pN 1 (lv rfl) rfl rfl ?_
         refine pF 2 (lv rfl) rfl fa_91_2 rfl ?_
         refine d_ld (i := 3) [7] (lv rfl) rfl lk_89 rfl (by kernel_rfl) ⟨_, _, _, hH.c7, _, rfl, ?_⟩
         refine pF 4 (lv rfl) rfl fa_54_0 rfl ?_
         refine d_ld (i := 5) [7] (lv rfl) rfl lk_3 rfl (by kernel_rfl) ⟨_, _, _, hH.c6, _, rfl, ?_⟩
         refine d_ldN (i := 6) [7] (lv rfl) rfl lk_106 rfl (by kernel_rfl) ⟨_, _, _, hH.c0, [_, _, _, _], rfl, rfl, ?_⟩
         refine d_l (j := 7) (by kernel_rfl) ?_
         refine o_mu (lv rfl) rfl mp_89 rfl rfl rfl (by exact hH.p3) ?_
         intro w hH
         refine ⟨(keeps_in rfl (keeps_in rfl (keeps_in rfl trivial))), ?_⟩
         refine d_end (by kernel_rfl) ?_
         refine g_inBlock ?_
         refine g_region (l := [0, 1]) rfl ?_
         refine o_v (lv rfl) rfl (r_addI rfl rfl ?_) ?_; omega
         refine vM (lv rfl) rfl rfl ?_
         have fin : ∀ wb : Bool, ((aget Ak p.flow).wrong || wrongAt (aget Ak p.flow) i p) = wb → tell i Ak p = aput Ak p.flow { aget Ak p.flow with wrong := wb, left := (aget Ak p.flow).left ++ [(i : Int)] } := fun wb h => by unfold tell; rw [h]
         (replace g17_19 : [q.p.flow, q.p.len, q.p.mark] ≠ [p.flow, p.len, p.mark] := g17_19
          have hw := fin true (by rw [show wrongAt (aget Ak p.flow) i p = true from by unfold wrongAt; rw [hq]; simp only [Bool.or_eq_true, decide_eq_true_eq]; exact .inl (fun h => g17_19 (by rw [h]))]; simp)
          exact hback _ _ _ ⟨k + 1, _, tell i Ak p, by omega, rfl, htk, hfo2, (J_self (has_s rfl (has_s rfl (has_s rfl (has_s rfl (has_s rfl has_0)))))), by rw [hw]; exact Holds.p1 (hput2 { aget Ak p.flow with wrong := true, left := (aget Ak p.flow).left ++ [(i : Int)] } _ _ _ _ (hH.sel (by repeat' (first | exact Sel.refl _ | refine Sel.q0 ?_ | refine Sel.q1 ?_ | refine Sel.q2 ?_ | refine Sel.q3 ?_ | refine Sel.skip _ ?_))))⟩ (by omega))
        ·refine pF 20 (lvg rfl rfl rfl) rfl fa_106_1 rfl ?_
         refine d_ld (i := 21) [30] (lvg rfl rfl rfl) rfl lk_104 rfl (by kernel_rfl) ⟨_, _, _, hH.c0, _, rfl, ?_⟩
         refine pM 22 (lvg rfl rfl rfl) rfl rfl ?_
         refine d_p (i := 23) (lvg rfl rfl rfl) rfl (fun w => (r_ia el_104 rfl rfl ?_ ?_)) (by kernel_rfl) ?_; omega; omega
         refine pF 24 (lvg rfl rfl rfl) rfl fa_108_2 rfl ?_
         refine d_ld (i := 25) [30] (lvg rfl rfl rfl) rfl lk_3 rfl (by kernel_rfl) ⟨_, _, _, hbq, _, hcq, ?_⟩
         refine pM 26 (lvg rfl rfl rfl) rfl rfl ?_
         refine d_p (i := 27) (lvg rfl rfl rfl) rfl (fun w => (r_ge rfl rfl)) (by kernel_rfl) ?_
         refine d_p (i := 28) (lv rfl) rfl (fun w => (r_pickF rfl rfl)) (by kernel_rfl) ?_
         refine pF 29 (lv rfl) rfl fa_106_3 rfl ?_
         refine d_l (j := 30) (by kernel_rfl) ?_
         refine o_st (lv rfl) rfl lk_4 rfl (vs := [_]) rfl rfl (by exact hH) rfl rfl (by simp) rfl ?_
         intro w hH; dsimp only [setL, List.set] at hH
         refine ⟨(keeps_in rfl (keeps_in rfl (keeps_in rfl (keeps_in rfl (keeps_in rfl (keeps_in rfl (keeps_in rfl trivial))))))), ?_⟩
         refine d_end (by kernel_rfl) ?_
         refine g_seq ?_
         refine g_region (l := [0, 1, 2, 3, 4, 5, 6]) rfl ?_
         refine o_v (lv rfl) rfl (r_fa fa_106_2 rfl) ?_
         refine o_ld (lv rfl) rfl lk_26 rfl ⟨_, _, _, hH.c0, _, rfl, ?_⟩
         refine vM (lv rfl) rfl rfl ?_
         refine o_bs (lv rfl) rfl el_26 ze_3 rfl rfl rfl (ps := [_]) rfl rfl rfl (cs := [_]) rfl hH ?_
         intro b150 w hH
         refine o_app (enc := encI) (lv rfl) rfl el_26 ze_3 rfl (fun _ => rfl) (fun _ => rfl) rfl rfl (by exact hH.p4) (rd_of_cel [(i : Int)] (by exact hH.c0) rfl) (by simp; omega) (by simp; omega) ?_
         intro v151 w hH; obtain ⟨a151, k151, rfl, -⟩ := hH.rd.len
         refine o_v (lv rfl) rfl (r_fa fa_106_2 rfl) ?_
         refine o_st (lv rfl) rfl lk_26 rfl (vs := [_]) rfl rfl (by exact hH.p2) rfl rfl (by simp) rfl ?_
         intro w hH; dsimp only [setL, List.set] at hH
         refine g_regionD mixed ?_
         rintro w1 rfl; replace hH := hH.drew (n := w.drawn + 1); replace hbq := drewf (n := w.drawn + 1) hbq; replace hbq := drewf (n := w.drawn + 1) hbq; generalize hw1 : { w with drawn := w.drawn + 1 } = w at hH ⊢; try rw [hw1] at hbq; try rw [hw1] at hbq; clear hw1
         refine pM 0 (lv rfl) rfl rfl ?_
         refine pN 1 (lv rfl) rfl rfl ?_
         refine pF 2 (lv rfl) rfl fa_91_2 rfl ?_
         refine d_ld (i := 3) [7] (lv rfl) rfl lk_89 rfl (by kernel_rfl) ⟨_, _, _, hH.c7, _, rfl, ?_⟩
         refine pF 4 (lv rfl) rfl fa_54_0 rfl ?_
         refine d_ld (i := 5) [7] (lv rfl) rfl lk_3 rfl (by kernel_rfl) ⟨_, _, _, hH.c6, _, rfl, ?_⟩
         refine d_ldN (i := 6) [7] (lv rfl) rfl lk_106 rfl (by kernel_rfl) ⟨_, _, _, hH.c0, [_, _, _, _], rfl, rfl, ?_⟩
         refine d_l (j := 7) (by kernel_rfl) ?_
         refine o_mu (lv rfl) rfl mp_89 rfl rfl rfl (by exact hH.p3) ?_
         intro w hH
         refine ⟨(keeps_in rfl (keeps_in rfl (keeps_in rfl trivial))), ?_⟩
         refine d_end (by kernel_rfl) ?_
         refine g_inBlock ?_
         refine g_region (l := [0, 1]) rfl ?_
         refine o_v (lv rfl) rfl (r_addI rfl rfl ?_) ?_; omega
         refine vM (lv rfl) rfl rfl ?_
         have fin : ∀ wb : Bool, ((aget Ak p.flow).wrong || wrongAt (aget Ak p.flow) i p) = wb → tell i Ak p = aput Ak p.flow { aget Ak p.flow with wrong := wb, left := (aget Ak p.flow).left ++ [(i : Int)] } := fun wb h => by unfold tell; rw [h]
         (have hqp : q.p = p := by
            obtain ⟨⟨a1, b1, c1'⟩, d1, e1⟩ := q; obtain ⟨a2, b2, c2'⟩ := p
            simpa using g17_19
          have hw := fin (decide (q.pt ≥ (i : Int))) (by rw [g17_2, show wrongAt (aget Ak p.flow) i p = decide (q.pt ≥ (i : Int)) from by unfold wrongAt; rw [hq]; simp [hqp]]; simp)
          exact hback _ _ _ ⟨k + 1, _, tell i Ak p, by omega, rfl, htk, hfo2, (J_self (has_s rfl (has_s rfl (has_s rfl (has_s rfl (has_s rfl has_0)))))), by rw [hw]; exact Holds.p1 (hput2 { aget Ak p.flow with wrong := decide (q.pt ≥ (i : Int)), left := (aget Ak p.flow).left ++ [(i : Int)] } _ _ _ _ (hH.sel (by repeat' (first | exact Sel.refl _ | refine Sel.q0 ?_ | refine Sel.q1 ?_ | refine Sel.q2 ?_ | refine Sel.q3 ?_ | refine Sel.skip _ ?_))))⟩ (by omega))
     ·refine g_exit rfl ?_
      refine g_eq Tryz.func78 res_0 ?_
      have hkn : k = x.ret.packets.length := by omega
      have hf : x.ret.packets.foldl (tell i) A1 = Ak := by rw [hfo, hkn, List.drop_length]; rfl
      rw [hstep, hf]
      exact (hH.sel (by repeat' (first | exact Sel.refl _)))
    ·exact absurd hop c1
theorem fair_enter3 {bk mb : Nat} {c : Config} {lsv xv : Value} {ls : List (List Call)} {A : As} {sum : Int} {n : Nat} (hP : RLists lsv ls R.h) (hls : listsOk ls) (hcfg : cfgOk c) (i : Nat) (hi : i ≤ 1000000) (x : Point) (hop : (callOf ls x).1.op = 3) {pv : Value}
    (hpr : Rd encP pv x.ret.packets R.h) (hpl : x.ret.packets.length ≤ 100) (hA : aOk n A) (hn : n ≤ 1000000000) (hs : U sum)
    (hH : Holds R (cel bk [.int .i64 c.shards, .int .i64 c.slots, .int .i64 c.workers, .int .i64 c.width, .int .u64 c.unit, lsv, xv, .map (some mb), .int .u64 sum] 91 :: AccsC mb A :: F) w) :
    Ret Tryz.prog 78 [.pointer (some ⟨bk, 0, none⟩), .int .i64 i, vPt x pv] w fun v w' => Holds R (cel bk [.int .i64 c.shards, .int .i64 c.slots, .int .i64 c.workers, .int .i64 c.width, .int .u64 c.unit, lsv, xv, .map (some mb), .int .u64 (bookStep c.unit ls A sum i x).2] 91 :: AccsC mb (bookStep c.unit ls A sum i x).1 :: F) w' := by
  obtain ⟨pa, pcap, rfl, hpc⟩ := hpr.len
  have hco := callOf_ok hls x
  have hco' := hco; unfold Call.ok I at hco'
  have hcfg' := hcfg; unfold cfgOk at hcfg'
  have hg := aget_ok hA (callOf ls x).1.flow
  have hg' := hg; unfold accOk at hg'
  have hcu := costOf_U hco.2.2.1 hg.2.2
  have hcu' := hcu; unfold costOf at hcu'
  have hmid := bookMid_ok (unit := c.unit) hls hA hs i x
  refine ret_of_g (n := 161) Tryz.func78 rfl rfl (by simp) ?_
  refine g_seq ?_
  refine g_region (l := [0]) rfl ?_
  refine o_box (lv rfl) rfl (cs := [_, _, _, _, _, _, _]) rfl rfl hH ?_
  intro b5 w hH
  refine g_seq ?_
  refine g_join (fun e w => ∃ (e0 : Env) (b6 : Nat), e = J e0 [(0, .pointer (some ⟨bk, 0, none⟩)), (1, .int .i64 i), (5, .pointer (some ⟨b5, 0, none⟩)), (6, .pointer (some ⟨b6, 0, none⟩)), (7, .bool (callOf ls x).2)] ∧ Holds R (cel b6 [.int .i64 (callOf ls x).1.op, .int .i64 (callOf ls x).1.flow, .int .i64 (callOf ls x).1.a, .int .i64 (callOf ls x).1.b] 46 :: cel b5 [.int .i64 x.step, .int .i64 x.who, .int .i64 x.place, .int .i64 x.ret.e, .slice pa x.ret.packets.length pcap, .int .i64 x.ret.n, .int .u64 x.ret.v] 59 :: cel bk [.int .i64 c.shards, .int .i64 c.slots, .int .i64 c.workers, .int .i64 c.width, .int .u64 c.unit, lsv, xv, .map (some mb), .int .u64 sum] 91 :: AccsC mb A :: F) w) (fun kk hkk => ?_) ?_
  ·refine rD mixed hH fun w hH => ?_
   refine pM 0 (lv rfl) rfl rfl ?_
   refine pN 1 (lv rfl) rfl rfl ?_
   refine pF 2 (lv rfl) rfl fa_91_0 rfl ?_
   refine d_ldN (i := 3) [5, 10] (lv rfl) rfl lk_28 rfl (by kernel_rfl) ⟨_, _, _, hH.c1, [_, _, _, _, _, _], rfl, rfl, ?_⟩
   refine d_ldN (i := 4) [5, 10] (lv rfl) rfl lk_59 rfl (by kernel_rfl) ⟨_, _, _, hH.c0, [_, _, _, _, _, _, _], rfl, rfl, ?_⟩
   refine d_l2 (j := 5) (j2 := 9) (by kernel_rfl) ?_ ?_
   ·refine o_call (lv rfl) rfl en_58 rfl (wit_Call (c := c) hP (by have := hls.1; omega) x hH) ?_
    rintro _ w ⟨rfl, hH⟩
    refine ⟨(keeps_in rfl (keeps_in rfl trivial)), ?_⟩
    refine pM 6 (lv rfl) rfl rfl ?_
    refine pE 7 (lv rfl) rfl rfl rfl ?_
    refine pE 8 (lv rfl) rfl rfl rfl ?_
    refine d_l (j := 9) (by kernel_rfl) ?_
    refine o_al (lv rfl) rfl ze_46 hH ?_
    intro b6 w hH
    refine ⟨(keeps_cons (fun _ => (by exact hH.c1)) (keeps_cons (fun _ => (by exact hH.c2)) trivial)), ?_⟩
    refine d_l (j := 10) (by kernel_rfl) ?_
    refine o_st (lv rfl) rfl lk_46 rfl (vs := [_, _, _, _]) rfl rfl (by exact hH) rfl rfl (by simp) rfl ?_
    intro w hH; dsimp only [setL, List.set] at hH
    refine ⟨(keeps_in rfl (keeps_in rfl trivial)), ?_⟩
    refine pA 11 (lv rfl) rfl rfl ?_
    refine d_end (by kernel_rfl) ?_
    exact hkk _ _ ⟨_, b6, (J_self (has_s rfl (has_s rfl (has_s rfl (has_s rfl (has_s rfl has_0)))))), (hH.sel (by repeat' (first | exact Sel.refl _)))⟩
   ·refine o_al (lv rfl) rfl ze_46 hH ?_
    intro b6 w hH
    refine ⟨(keeps_cons (fun _ => (by exact hH.c1)) (keeps_cons (fun _ => (by exact hH.c2)) trivial)), ?_⟩
    refine d_l (j := 5) (by kernel_rfl) ?_
    refine o_call (lv rfl) rfl en_58 rfl (wit_Call (c := c) hP (by have := hls.1; omega) x hH) ?_
    rintro _ w ⟨rfl, hH⟩
    refine ⟨(keeps_in rfl (keeps_in rfl trivial)), ?_⟩
    refine pM 6 (lv rfl) rfl rfl ?_
    refine pE 7 (lv rfl) rfl rfl rfl ?_
    refine pE 8 (lv rfl) rfl rfl rfl ?_
    refine d_l (j := 10) (by kernel_rfl) ?_
    refine o_st (lv rfl) rfl lk_46 rfl (vs := [_, _, _, _]) rfl rfl (by exact hH) rfl rfl (by simp) rfl ?_
    intro w hH; dsimp only [setL, List.set] at hH
    refine ⟨(keeps_in rfl (keeps_in rfl trivial)), ?_⟩
    refine pA 11 (lv rfl) rfl rfl ?_
    refine d_end (by kernel_rfl) ?_
    exact hkk _ _ ⟨_, b6, (J_self (has_s rfl (has_s rfl (has_s rfl (has_s rfl (has_s rfl has_0)))))), (hH.sel (by repeat' (first | exact Sel.refl _)))⟩
  ·rintro _ w ⟨e0, b6, rfl, hH⟩
   refine g_seq ?_
   obtain ⟨l, cv, av, rest, hval, hH, hkeep, hput⟩ := AccsC.take (callOf ls x).1.flow (by exact hH.p3)
   obtain ⟨ca, ccap, rfl, -⟩ := hH.p1.rd.len
   obtain ⟨la, lcap, rfl, -⟩ := hH.p2.rd.len
   refine rD mixed hH fun w hH => ?_
   refine pM 0 (lv rfl) rfl rfl ?_
   refine pN 1 (lv rfl) rfl rfl ?_
   refine pF 2 (lv rfl) rfl fa_91_2 rfl ?_
   refine d_ld (i := 3) [8] (lv rfl) rfl lk_89 rfl (by kernel_rfl) ⟨_, _, _, hH.c6, _, rfl, ?_⟩
   refine pF 4 (lv rfl) rfl fa_46_1 rfl ?_
   refine d_ld (i := 5) [8] (lv rfl) rfl lk_3 rfl (by kernel_rfl) ⟨_, _, _, hH.c4, _, rfl, ?_⟩
   refine d_q (i := 6) (fun w => MapR _ _ (Go.Lt.hp w)) [8] (lv rfl) rfl (fun w hS => r_lkw mp_89 rfl rfl hS (hval)) (by exact hH.mrd) (by kernel_rfl) ?_
   refine d_l (j := 7) (by kernel_rfl) ?_
   refine o_al (lv rfl) rfl ze_106 hH ?_
   intro b8 w hH
   refine ⟨(keeps_cons (fun _ => (by exact hH.p1.mrd)) (keeps_cons (fun _ => (by exact hH.c5)) (keeps_cons (fun _ => (by exact hH.c7)) trivial))), ?_⟩
   refine d_l (j := 8) (by kernel_rfl) ?_
   refine o_st (lv rfl) rfl lk_106 rfl (vs := [_, _, _, _]) rfl rfl (by exact hH) rfl rfl (by simp) rfl ?_
   intro w hH; dsimp only [setL, List.set] at hH
   refine ⟨(keeps_in rfl (keeps_in rfl (keeps_in rfl trivial))), ?_⟩
   refine d_end (by kernel_rfl) ?_
   refine g_seq ?_
   refine g_block ?_
   refine g_seq ?_
   refine g_region (l := [0, 1, 2, 3, 4]) rfl ?_
   refine o_v (lv rfl) rfl (r_fa fa_59_3 rfl) ?_
   refine o_v (lv rfl) rfl (r_fa fa_57_0 rfl) ?_
   refine o_ld (lv rfl) rfl lk_55 rfl ⟨_, _, _, hH.c6, _, rfl, ?_⟩
   refine o_v (lv rfl) rfl (r_ne rfl rfl) ?_
   refine vA (lv rfl) rfl rfl ?_
   refine g_if rfl (fun c0 => ?_) (fun c0 => ?_)
   ·refine g_rq Tryz.func78 res_0 ?_
    rw [show bookStep c.unit ls A sum i x = (A, sum) from by unfold bookStep; rw [if_pos c0]]
    exact Holds.p1 (hkeep _ _ (hH.sel (by repeat' (first | exact Sel.refl _ | refine Sel.q1 ?_ | refine Sel.q3 ?_ | refine Sel.skip _ ?_))))
   ·refine g_seq ?_
    refine g_region (l := [0, 1, 2, 3]) rfl ?_
    refine o_v (lv rfl) rfl (r_fa fa_46_0 rfl) ?_
    refine o_ld (lv rfl) rfl lk_3 rfl ⟨_, _, _, hH.c5, _, rfl, ?_⟩
    refine o_v (lv rfl) rfl (r_eq rfl rfl) ?_
    refine vA (lv rfl) rfl rfl ?_
    refine g_if rfl (fun c1 => ?_) (fun c1 => ?_)
    ·omega
    ·refine g_seq ?_
     refine g_region (l := [0, 1, 2, 3]) rfl ?_
     refine o_v (lv rfl) rfl (r_fa fa_46_0 rfl) ?_
     refine o_ld (lv rfl) rfl lk_3 rfl ⟨_, _, _, hH.c5, _, rfl, ?_⟩
     refine o_v (lv rfl) rfl (r_eq rfl rfl) ?_
     refine vA (lv rfl) rfl rfl ?_
     refine g_if rfl (fun c2 => ?_) (fun c2 => ?_)
     ·refine g_seq ?_
      refine g_region (l := [0, 1, 2, 3, 4, 5]) rfl ?_
      refine o_v (lv rfl) rfl (r_fa fa_46_2 rfl) ?_
      refine o_ld (lv rfl) rfl lk_3 rfl ⟨_, _, _, hH.c5, _, rfl, ?_⟩
      refine o_v (lv rfl) rfl (r_fa fa_106_0 rfl) ?_
      refine o_ld (lv rfl) rfl lk_22 rfl ⟨_, _, _, hH.c0, _, rfl, ?_⟩
      refine o_call (lv rfl) rfl en_114 rfl (tag_Cost (callOf ls x).1.a _ (by omega) hg.2.2 hH) ?_
      rintro _ w ⟨rfl, hH⟩
      refine vA (lv rfl) rfl rfl ?_
      refine g_seq ?_
      refine g_region (l := [0, 1, 2, 3, 4, 5, 6, 7, 8, 9, 10, 11, 12, 13, 14, 15]) rfl ?_
      refine o_v (lv rfl) rfl (r_fa fa_106_1 rfl) ?_
      refine o_ld (lv rfl) rfl lk_104 rfl ⟨_, _, _, hH.c0, _, rfl, ?_⟩
      refine o_v (lv rfl) rfl (r_fa fa_46_1 rfl) ?_
      refine o_ld (lv rfl) rfl lk_3 rfl ⟨_, _, _, hH.c5, _, rfl, ?_⟩
      refine o_v (lv rfl) rfl (r_fa fa_46_2 rfl) ?_
      refine o_ld (lv rfl) rfl lk_3 rfl ⟨_, _, _, hH.c5, _, rfl, ?_⟩
      refine o_v (lv rfl) rfl (r_fa fa_46_3 rfl) ?_
      refine o_ld (lv rfl) rfl lk_3 rfl ⟨_, _, _, hH.c5, _, rfl, ?_⟩
      refine o_v (lv rfl) rfl (r_bld (ps := [_, _, _]) (cs := [_, _, _]) pl_54 rfl rfl) ?_
      refine vM (lv rfl) rfl rfl ?_
      refine vM (lv rfl) rfl rfl ?_
      refine o_v (lv rfl) rfl (r_bld (ps := [_, _, _]) (cs := [_, _, _, _, _]) pl_108 rfl rfl) ?_
      refine o_bs (lv rfl) rfl el_104 ze_108 rfl rfl rfl (ps := [_]) rfl rfl rfl (cs := [_, _, _, _, _]) rfl hH ?_
      intro b80 w hH
      refine o_app (enc := encPc) (lv rfl) rfl el_104 ze_108 rfl (fun _ => rfl) (fun _ => rfl) rfl rfl (by exact hH.p3) (rd_of_cel [(⟨⟨(callOf ls x).1.flow, (callOf ls x).1.a, (callOf ls x).1.b⟩, costOf (callOf ls x).1.a (aget A (callOf ls x).1.flow).r, i⟩ : Parcel)] (by exact hH.c0) rfl) (by simp; omega) (by simp; omega) ?_
      intro v81 w hH; obtain ⟨a81, k81, rfl, -⟩ := hH.rd.len
      refine o_v (lv rfl) rfl (r_fa fa_106_1 rfl) ?_
      refine o_st (lv rfl) rfl lk_104 rfl (vs := [_]) rfl rfl (by exact hH.p2) rfl rfl (by simp) rfl ?_
      intro w hH; dsimp only [setL, List.set] at hH
      refine g_seq ?_
      refine rD mixed hH fun w hH => ?_
      refine pM 0 (lv rfl) rfl rfl ?_
      refine pN 1 (lv rfl) rfl rfl ?_
      refine pF 2 (lv rfl) rfl fa_91_2 rfl ?_
      refine d_ld (i := 3) [7] (lv rfl) rfl lk_89 rfl (by kernel_rfl) ⟨_, _, _, hH.c8, _, rfl, ?_⟩
      refine pF 4 (lv rfl) rfl fa_46_1 rfl ?_
      refine d_ld (i := 5) [7] (lv rfl) rfl lk_3 rfl (by kernel_rfl) ⟨_, _, _, hH.c6, _, rfl, ?_⟩
      refine d_ldN (i := 6) [7] (lv rfl) rfl lk_106 rfl (by kernel_rfl) ⟨_, _, _, hH.c0, [_, _, _, _], rfl, rfl, ?_⟩
      refine d_l (j := 7) (by kernel_rfl) ?_
      refine o_mu (lv rfl) rfl mp_89 rfl rfl rfl (by exact hH.p3) ?_
      intro w hH
      refine ⟨(keeps_in rfl (keeps_in rfl (keeps_in rfl trivial))), ?_⟩
      refine d_end (by kernel_rfl) ?_
      refine g_region (l := [0, 1, 2, 3, 4, 5, 6, 7, 8, 9]) rfl ?_
      refine vM (lv rfl) rfl rfl ?_
      refine vM (lv rfl) rfl rfl ?_
      refine o_v (lv rfl) rfl (r_nil rfl) ?_
      refine o_v (lv rfl) rfl (r_fa fa_91_3 rfl) ?_
      refine o_ld (lv rfl) rfl lk_22 rfl ⟨_, _, _, hH.c8, _, rfl, ?_⟩
      refine vM (lv rfl) rfl rfl ?_
      refine o_call (lv rfl) rfl en_115 rfl (tag_Add sum _ hs hcu' hH) ?_
      rintro _ w ⟨rfl, hH⟩
      refine o_v (lv rfl) rfl (r_nil rfl) ?_
      refine o_v (lv rfl) rfl (r_fa fa_91_3 rfl) ?_
      refine o_st (lv rfl) rfl lk_22 rfl (vs := [_]) rfl rfl (by exact hH.p8) rfl rfl (by simp) rfl ?_
      intro w hH; dsimp only [setL, List.set] at hH
      refine g_inBlock ?_
      refine g_seq ?_
      obtain ⟨A1, s1, hA1, hH⟩ : ∃ A1 s1, bookMid c.unit ls A sum i x = (A1, s1) ∧ Holds R (cel bk [.int .i64 c.shards, .int .i64 c.slots, .int .i64 c.workers, .int .i64 c.width, .int .u64 c.unit, lsv, xv, .map (some mb), .int .u64 s1] 91 :: AccsC mb A1 :: cel b5 [.int .i64 x.step, .int .i64 x.who, .int .i64 x.place, .int .i64 x.ret.e, .slice pa x.ret.packets.length pcap, .int .i64 x.ret.n, .int .u64 x.ret.v] 59 :: F) w := by
        exact ⟨_, _, by unfold bookMid; rw [if_neg c1, if_pos c2], Holds.p1 (hput { aget A (callOf ls x).1.flow with came := (aget A (callOf ls x).1.flow).came ++ [⟨⟨(callOf ls x).1.flow, (callOf ls x).1.a, (callOf ls x).1.b⟩, costOf (callOf ls x).1.a (aget A (callOf ls x).1.flow).r, i⟩] } _ _ _ _ (hH.sel (by repeat' (first | exact Sel.refl _ | refine Sel.q0 ?_ | refine Sel.q1 ?_ | refine Sel.q2 ?_ | refine Sel.q3 ?_ | refine Sel.skip _ ?_))))⟩
      rw [hA1] at hmid
      have hstep : bookStep c.unit ls A sum i x = (x.ret.packets.foldl (tell i) A1, s1) := by unfold bookStep; rw [if_neg c0, hA1]
      refine g_region (l := [0, 1, 2, 3, 4]) rfl ?_
      refine o_v (lv rfl) rfl (r_fa fa_59_3 rfl) ?_
      refine o_v (lv rfl) rfl (r_fa fa_57_1 rfl) ?_
      refine o_ld (lv rfl) rfl lk_48 rfl ⟨_, _, _, hH.c2, _, rfl, ?_⟩
      refine o_v (lv rfl) rfl (r_len el_48 rfl) ?_
      refine vM (lv rfl) rfl rfl ?_
      refine g_block ?_
      refine g_loop (fun mm e w => ∃ (k : Nat) (e0 : Env) (Ak : As), k ≤ x.ret.packets.length ∧ mm = x.ret.packets.length - k ∧ aOk (n + 1 + k) Ak ∧ x.ret.packets.foldl (tell i) A1 = (x.ret.packets.drop k).foldl (tell i) Ak ∧
          e = J e0 [(0, .pointer (some ⟨bk, 0, none⟩)), (1, .int .i64 i), (101, .slice pa x.ret.packets.length pcap), (102, .int .i64 x.ret.packets.length), (103, .int .i64 k)] ∧ Holds R (cel bk [.int .i64 c.shards, .int .i64 c.slots, .int .i64 c.workers, .int .i64 c.width, .int .u64 c.unit, lsv, xv, .map (some mb), .int .u64 s1] 91 :: AccsC mb Ak :: F) w) x.ret.packets.length ⟨0, _, A1, by omega, by omega, hmid.1, rfl, (J_self (has_s rfl (has_s rfl (has_s rfl (has_s rfl (has_s rfl has_0)))))), (hH.sel (by repeat' (first | exact Sel.refl _ | refine Sel.q0 ?_ | refine Sel.skip _ ?_)))⟩ ?_
      rintro mm _ w ⟨k, e0, Ak, hk, hm, hAk, hfo, rfl, hH⟩ hback
      refine g_seq ?_
      refine g_region (l := [0]) rfl ?_
      refine o_v (lv rfl) rfl (r_lt rfl rfl) ?_
      refine g_seq ?_
      refine g_if rfl (fun c3 => ?_) (fun c3 => ?_)
      ·have hkl : k < x.ret.packets.length := by omega
       obtain ⟨p, hp2⟩ : ∃ p, x.ret.packets[k]? = some p := ⟨_, List.getElem?_eq_getElem hkl⟩
       obtain ⟨bp, op_, cs, T, hpe, hbp, hcp0⟩ := Rd.el hkP hpr hp2
       rw [hpe]; rw [hpe] at hback
       have hcp := dt_of hcp0
       have hfo2 : x.ret.packets.foldl (tell i) A1 = (x.ret.packets.drop (k + 1)).foldl (tell i) (tell i Ak p) := by
         rw [hfo]
         obtain ⟨h1, h2⟩ := List.getElem?_eq_some_iff.1 hp2
         rw [List.drop_eq_getElem_cons h1, List.foldl_cons, h2]
       have hgk := aget_ok hAk p.flow
       have hgk' := hgk; unfold accOk at hgk'
       have htk := tell_ok hAk i p
       refine g_skip ?_
       refine g_seq ?_
       refine g_block ?_
       refine g_seq ?_
       refine g_region (l := [0, 1, 2, 3]) rfl ?_
       refine o_v (lv rfl) rfl (r_ia el_48 rfl rfl ?_ ?_) ?_; omega; omega
       refine o_ldN (lv rfl) rfl lk_54 rfl ⟨_, _, _, hH.old hbp, _, hcp, rfl, ?_⟩
       refine o_al (lv rfl) rfl ze_54 hH ?_
       intro b11 w hH
       refine o_st (lv rfl) rfl lk_54 rfl (vs := [_, _, _]) rfl rfl (by exact hH) rfl rfl (by simp) rfl ?_
       intro w hH; dsimp only [setL, List.set] at hH
       refine g_seq ?_
       obtain ⟨l2, cv2, av2, rest2, hval2, hH, hkeep2, hput2⟩ := AccsC.take p.flow (by exact hH.p2)
       obtain ⟨ca2, ccap2, hc2e, -⟩ := hH.p1.rd.len
       obtain ⟨la2, lcap2, hl2e, -⟩ := hH.p2.rd.len
       rw [hc2e, hl2e] at hval2 hH
       refine rD mixed hH fun w hH => ?_
       refine pM 0 (lv rfl) rfl rfl ?_
       refine pN 1 (lv rfl) rfl rfl ?_
       refine pF 2 (lv rfl) rfl fa_91_2 rfl ?_
       refine d_ld (i := 3) [8] (lv rfl) rfl lk_89 rfl (by kernel_rfl) ⟨_, _, _, hH.c5, _, rfl, ?_⟩
       refine pF 4 (lv rfl) rfl fa_54_0 rfl ?_
       refine d_ld (i := 5) [8] (lv rfl) rfl lk_3 rfl (by kernel_rfl) ⟨_, _, _, hH.c4, _, rfl, ?_⟩
       refine d_q (i := 6) (fun w => MapR _ _ (Go.Lt.hp w)) [8] (lv rfl) rfl (fun w hS => r_lkw mp_89 rfl rfl hS (hval2)) (by exact hH.mrd) (by kernel_rfl) ?_
       refine d_l (j := 7) (by kernel_rfl) ?_
       refine o_al (lv rfl) rfl ze_106 hH ?_
       intro b12 w hH
       refine ⟨(keeps_cons (fun _ => (by exact hH.p1.mrd)) (keeps_cons (fun _ => (by exact hH.c5)) (keeps_cons (fun _ => (by exact hH.c6)) trivial))), ?_⟩
       refine d_l (j := 8) (by kernel_rfl) ?_
       refine o_st (lv rfl) rfl lk_106 rfl (vs := [_, _, _, _]) rfl rfl (by exact hH) rfl rfl (by simp) rfl ?_
       intro w hH; dsimp only [setL, List.set] at hH
       refine ⟨(keeps_in rfl (keeps_in rfl (keeps_in rfl trivial))), ?_⟩
       refine d_end (by kernel_rfl) ?_
       refine g_seq ?_
       refine g_region (l := [0, 1, 2, 3]) rfl ?_
       refine o_v (lv rfl) rfl (r_fa fa_106_2 rfl) ?_
       refine o_ld (lv rfl) rfl lk_26 rfl ⟨_, _, _, hH.c0, _, rfl, ?_⟩
       refine o_v (lv rfl) rfl (r_len el_26 rfl) ?_
       refine vA (lv rfl) rfl rfl ?_
       refine g_seq ?_
       refine rD mixed hH fun w hH => ?_
       refine pF 0 (lv rfl) rfl fa_106_3 rfl ?_
       refine d_ld (i := 1) [30] (lv rfl) rfl lk_4 rfl (by kernel_rfl) ⟨_, _, _, hH.c0, _, rfl, ?_⟩
       refine pM 2 (lv rfl) rfl rfl ?_
       refine s_opdb (fun g17_2 => ?_) (fun g17_2 => ?_)
       ·refine pO 3 rfl rfl rfl rfl ?_
        refine pO 4 rfl rfl rfl rfl ?_
        refine pO 5 rfl rfl rfl rfl ?_
        refine pO 6 rfl rfl rfl rfl ?_
        refine pO 7 rfl rfl rfl rfl ?_
        refine d_p (i := 8) (lv rfl) rfl (fun w => (r_pickT rfl rfl)) (by kernel_rfl) ?_
        refine pM 9 (lv rfl) rfl rfl ?_
        refine pO 10 rfl rfl rfl rfl ?_
        refine pO 11 rfl rfl rfl rfl ?_
        refine pO 12 rfl rfl rfl rfl ?_
        refine pO 13 rfl rfl rfl rfl ?_
        refine pO 14 rfl rfl rfl rfl ?_
        refine pO 15 rfl rfl rfl rfl ?_
        refine pO 16 rfl rfl rfl rfl ?_
        refine pO 17 rfl rfl rfl rfl ?_
        refine d_p (i := 18) (lv rfl) rfl (fun w => (r_pickT rfl rfl)) (by kernel_rfl) ?_
        refine pM 19 (lv rfl) rfl rfl ?_
        refine pO 20 rfl rfl rfl rfl ?_
        refine pO 21 rfl rfl rfl rfl ?_
        refine pO 22 rfl rfl rfl rfl ?_
        refine pO 23 rfl rfl rfl rfl ?_
        refine pO 24 rfl rfl rfl rfl ?_
        refine pO 25 rfl rfl rfl rfl ?_
        refine pO 26 rfl rfl rfl rfl ?_
        refine pO 27 rfl rfl rfl rfl ?_
        refine d_p (i := 28) (lv rfl) rfl (fun w => (r_pickT rfl rfl)) (by kernel_rfl) ?_
        refine pF 29 (lv rfl) rfl fa_106_3 rfl ?_
        refine d_l (j := 30) (by kernel_rfl) ?_
        refine o_st (lv rfl) rfl lk_4 rfl (vs := [_]) rfl rfl (by exact hH) rfl rfl (by simp) rfl ?_
        intro w hH; dsimp only [setL, List.set] at hH
        refine ⟨(keeps_in rfl trivial), ?_⟩
        refine d_end (by kernel_rfl) ?_
        refine g_seq ?_
        refine g_region (l := [0, 1, 2, 3, 4, 5, 6]) rfl ?_
        refine o_v (lv rfl) rfl (r_fa fa_106_2 rfl) ?_
        refine o_ld (lv rfl) rfl lk_26 rfl ⟨_, _, _, hH.c0, _, rfl, ?_⟩
        refine vM (lv rfl) rfl rfl ?_
        refine o_bs (lv rfl) rfl el_26 ze_3 rfl rfl rfl (ps := [_]) rfl rfl rfl (cs := [_]) rfl hH ?_
        intro b150 w hH
        refine o_app (enc := encI) (lv rfl) rfl el_26 ze_3 rfl (fun _ => rfl) (fun _ => rfl) rfl rfl (by exact hH.p4) (rd_of_cel [(i : Int)] (by exact hH.c0) rfl) (by simp; omega) (by simp; omega) ?_
        intro v151 w hH; obtain ⟨a151, k151, rfl, -⟩ := hH.rd.len
        refine o_v (lv rfl) rfl (r_fa fa_106_2 rfl) ?_
        refine o_st (lv rfl) rfl lk_26 rfl (vs := [_]) rfl rfl (by exact hH.p2) rfl rfl (by simp) rfl ?_
        intro w hH; dsimp only [setL, List.set] at hH
        refine rD mixed hH fun w hH => ?_
        refine pM 0 (lv rfl) rfl rfl ?_
        refine pN 1 (lv rfl) rfl rfl ?_
        refine pF 2 (lv rfl) rfl fa_91_2 rfl ?_
        refine d_ld (i := 3) [7] (lv rfl) rfl lk_89 rfl (by kernel_rfl) ⟨_, _, _, hH.c7, _, rfl, ?_⟩
        refine pF 4 (lv rfl) rfl fa_54_0 rfl ?_
        refine d_ld (i := 5) [7] (lv rfl) rfl lk_3 rfl (by kernel_rfl) ⟨_, _, _, hH.c6, _, rfl, ?_⟩
        refine d_ldN (i := 6) [7] (lv rfl) rfl lk_106 rfl (by kernel_rfl) ⟨_, _, _, hH.c0, [_, _, _, _], rfl, rfl, ?_⟩
        refine d_l (j := 7) (by kernel_rfl) ?_
        refine o_mu (lv rfl) rfl mp_89 rfl rfl rfl (by exact hH.p3) ?_
        intro w hH
        refine ⟨(keeps_in rfl (keeps_in rfl (keeps_in rfl trivial))), ?_⟩
        refine d_end (by kernel_rfl) ?_
        refine g_inBlock ?_
        refine g_region (l := [0, 1]) rfl ?_
        refine o_v (lv rfl) rfl (r_addI rfl rfl ?_) ?_; omega
        refine vM (lv rfl) rfl rfl ?_
        have fin : ∀ wb : Bool, ((aget Ak p.flow).wrong || wrongAt (aget Ak p.flow) i p) = wb → tell i Ak p = aput Ak p.flow { aget Ak p.flow with wrong := wb, left := (aget Ak p.flow).left ++ [(i : Int)] } := fun wb h => by unfold tell; rw [h]
        (have hw := fin true (by rw [g17_2]; rfl)
         exact hback _ _ _ ⟨k + 1, _, tell i Ak p, by omega, rfl, htk, hfo2, (J_self (has_s rfl (has_s rfl (has_s rfl (has_s rfl (has_s rfl has_0)))))), by rw [hw]; exact Holds.p1 (hput2 { aget Ak p.flow with wrong := true, left := (aget Ak p.flow).left ++ [(i : Int)] } _ _ _ _ (hH.sel (by repeat' (first | exact Sel.refl _ | refine Sel.q0 ?_ | refine Sel.q1 ?_ | refine Sel.q2 ?_ | refine Sel.q3 ?_ | refine Sel.skip _ ?_))))⟩ (by omega))
       ·refine pM 3 (lvg rfl rfl rfl) rfl rfl ?_
        refine pF 4 (lvg rfl rfl rfl) rfl fa_106_1 rfl ?_
        refine d_ld (i := 5) [30] (lvg rfl rfl rfl) rfl lk_104 rfl (by kernel_rfl) ⟨_, _, _, hH.c0, _, rfl, ?_⟩
        refine d_p (i := 6) (lvg rfl rfl rfl) rfl (fun w => (r_len el_104 rfl)) (by kernel_rfl) ?_
        refine d_p (i := 7) (lvg rfl rfl rfl) rfl (fun w => (r_ge rfl rfl)) (by kernel_rfl) ?_
        refine d_p (i := 8) (lv rfl) rfl (fun w => (r_pickF rfl rfl)) (by kernel_rfl) ?_
        refine pM 9 (lv rfl) rfl rfl ?_
        refine s_opd (fun g17_9 => ?_) (fun g17_9 => ?_)
        ·refine pO 10 rfl rfl rfl rfl ?_
         refine pO 11 rfl rfl rfl rfl ?_
         refine pO 12 rfl rfl rfl rfl ?_
         refine pO 13 rfl rfl rfl rfl ?_
         refine pO 14 rfl rfl rfl rfl ?_
         refine pO 15 rfl rfl rfl rfl ?_
         refine pO 16 rfl rfl rfl rfl ?_
         refine pO 17 rfl rfl rfl rfl ?_
         refine d_p (i := 18) (lv rfl) rfl (fun w => (r_pickT rfl rfl)) (by kernel_rfl) ?_
         refine pM 19 (lv rfl) rfl rfl ?_
         refine pO 20 rfl rfl rfl rfl ?_
         refine pO 21 rfl rfl rfl rfl ?_
         refine pO 22 rfl rfl rfl rfl ?_
         refine pO 23 rfl rfl rfl rfl ?_
         refine pO 24 rfl rfl rfl rfl ?_
         refine pO 25 rfl rfl rfl rfl ?_
         refine pO 26 rfl rfl rfl rfl ?_
         refine pO 27 rfl rfl rfl rfl ?_
         refine d_p (i := 28) (lv rfl) rfl (fun w => (r_pickT rfl rfl)) (by kernel_rfl) ?_
         refine pF 29 (lv rfl) rfl fa_106_3 rfl ?_
         refine d_l (j := 30) (by kernel_rfl) ?_
         refine o_st (lv rfl) rfl lk_4 rfl (vs := [_]) rfl rfl (by exact hH) rfl rfl (by simp) rfl ?_
         intro w hH; dsimp only [setL, List.set] at hH
         refine ⟨(keeps_in rfl (keeps_in rfl trivial)), ?_⟩
         refine d_end (by kernel_rfl) ?_
         refine g_seq ?_
         refine g_region (l := [0, 1, 2, 3, 4, 5, 6]) rfl ?_
         refine o_v (lv rfl) rfl (r_fa fa_106_2 rfl) ?_
         refine o_ld (lv rfl) rfl lk_26 rfl ⟨_, _, _, hH.c0, _, rfl, ?_⟩
         refine vM (lv rfl) rfl rfl ?_
         refine o_bs (lv rfl) rfl el_26 ze_3 rfl rfl rfl (ps := [_]) rfl rfl rfl (cs := [_]) rfl hH ?_
         intro b150 w hH
         refine o_app (enc := encI) (lv rfl) rfl el_26 ze_3 rfl (fun _ => rfl) (fun _ => rfl) rfl rfl (by exact hH.p4) (rd_of_cel [(i : Int)] (by exact hH.c0) rfl) (by simp; omega) (by simp; omega) ?_
         intro v151 w hH; obtain ⟨a151, k151, rfl, -⟩ := hH.rd.len
         refine o_v (lv rfl) rfl (r_fa fa_106_2 rfl) ?_
         refine o_st (lv rfl) rfl lk_26 rfl (vs := [_]) rfl rfl (by exact hH.p2) rfl rfl (by simp) rfl ?_
         intro w hH; dsimp only [setL, List.set] at hH
         refine rD mixed hH fun w hH => ?_
         refine pM 0 (lv rfl) rfl rfl ?_
         refine pN 1 (lv rfl) rfl rfl ?_
         refine pF 2 (lv rfl) rfl fa_91_2 rfl ?_
         refine d_ld (i := 3) [7] (lv rfl) rfl lk_89 rfl (by kernel_rfl) ⟨_, _, _, hH.c7, _, rfl, ?_⟩
         refine pF 4 (lv rfl) rfl fa_54_0 rfl ?_
         refine d_ld (i := 5) [7] (lv rfl) rfl lk_3 rfl (by kernel_rfl) ⟨_, _, _, hH.c6, _, rfl, ?_⟩
         refine d_ldN (i := 6) [7] (lv rfl) rfl lk_106 rfl (by kernel_rfl) ⟨_, _, _, hH.c0, [_, _, _, _], rfl, rfl, ?_⟩
         refine d_l (j := 7) (by kernel_rfl) ?_
         refine o_mu (lv rfl) rfl mp_89 rfl rfl rfl (by exact hH.p3) ?_
         intro w hH
         refine ⟨(keeps_in rfl (keeps_in rfl (keeps_in rfl trivial))), ?_⟩
         refine d_end (by kernel_rfl) ?_
         refine g_inBlock ?_
         refine g_region (l := [0, 1]) rfl ?_
         refine o_v (lv rfl) rfl (r_addI rfl rfl ?_) ?_; omega
         refine vM (lv rfl) rfl rfl ?_
         have fin : ∀ wb : Bool, ((aget Ak p.flow).wrong || wrongAt (aget Ak p.flow) i p) = wb → tell i Ak p = aput Ak p.flow { aget Ak p.flow with wrong := wb, left := (aget Ak p.flow).left ++ [(i : Int)] } := fun wb h => by unfold tell; rw [h]
         (have hw := fin true (by rw [show wrongAt (aget Ak p.flow) i p = true from by unfold wrongAt; rw [List.getElem?_eq_none (by omega)]]; simp)
          exact hback _ _ _ ⟨k + 1, _, tell i Ak p, by omega, rfl, htk, hfo2, (J_self (has_s rfl (has_s rfl (has_s rfl (has_s rfl (has_s rfl has_0)))))), by rw [hw]; exact Holds.p1 (hput2 { aget Ak p.flow with wrong := true, left := (aget Ak p.flow).left ++ [(i : Int)] } _ _ _ _ (hH.sel (by repeat' (first | exact Sel.refl _ | refine Sel.q0 ?_ | refine Sel.q1 ?_ | refine Sel.q2 ?_ | refine Sel.q3 ?_ | refine Sel.skip _ ?_))))⟩ (by omega))
        ·obtain ⟨q, hq⟩ : ∃ q, (aget Ak p.flow).came[(aget Ak p.flow).left.length]? = some q := ⟨_, List.getElem?_eq_getElem (by omega)⟩
         obtain ⟨bq, oq, csq, Tq, hqe, hbq, hcq0⟩ := Rd.el hkPc (show Rd encPc _ (aget Ak p.flow).came (Go.Lt.hp w) from (by exact hH.p2.rd)) hq
         rw [hqe]; rw [hqe] at hH
         have hcq := hcq0 4 _ rfl
         have hcqN := dt_of (vs := [.int .i64 q.p.flow, .int .i64 q.p.len, .int .i64 q.p.mark]) (cs := csq) (fun j c hj => hcq0 j c (by
           match j, hj with
           | 0, h => exact h
           | 1, h => exact h
           | 2, h => exact h))
         refine pF 10 (lvg rfl rfl rfl) rfl fa_106_1 rfl ?_
         refine d_ld (i := 11) [30] (lvg rfl rfl rfl) rfl lk_104 rfl (by kernel_rfl) ⟨_, _, _, hH.c0, _, rfl, ?_⟩
         refine pM 12 (lvg rfl rfl rfl) rfl rfl ?_
         refine d_p (i := 13) (lvg rfl rfl rfl) rfl (fun w => (r_ia el_104 rfl rfl ?_ ?_)) (by kernel_rfl) ?_; omega; omega
         refine pF 14 (lvg rfl rfl rfl) rfl fa_108_0 rfl ?_
         refine d_ldN (i := 15) [30] (lvg rfl rfl rfl) rfl lk_54 rfl (by kernel_rfl) ⟨_, _, _, hbq, _, hcqN, rfl, ?_⟩
         refine d_ldN (i := 16) [30] (lvg rfl rfl rfl) rfl lk_54 rfl (by kernel_rfl) ⟨_, _, _, hH.c5, [_, _, _], rfl, rfl, ?_⟩
         refine d_p (i := 17) (lvg rfl rfl rfl) rfl (fun w => (r_nest fi_54 rfl rfl rfl rfl)) (by kernel_rfl) ?_
         refine d_p (i := 18) (lv rfl) rfl (fun w => (r_pickF rfl rfl)) (by kernel_rfl) ?_
         refine pM 19 (lv rfl) rfl rfl ?_
         refine s_opd (fun g17_19 => ?_) (fun g17_19 => ?_)
         ·refine pO 20 rfl rfl rfl rfl ?_
          refine pO 21 rfl rfl rfl rfl ?_
          refine pO 22 rfl rfl rfl rfl ?_
          refine pO 23 rfl rfl rfl rfl ?_
          refine pO 24 rfl rfl rfl rfl ?_
          refine pO 25 rfl rfl rfl rfl ?_
          refine pO 26 rfl rfl rfl rfl ?_
          refine pO 27 rfl rfl rfl rfl ?_
          refine d_p (i := 28) (lv rfl) rfl (fun w => (r_pickT rfl rfl)) (by kernel_rfl) ?_
          refine pF 29 (lv rfl) rfl fa_106_3 rfl ?_
          refine d_l (j := 30) (by kernel_rfl) ?_
          refine o_st (lv rfl) rfl lk_4 rfl (vs := [_]) rfl rfl (by exact hH) rfl rfl (by simp) rfl ?_
          intro w hH; dsimp only [setL, List.set] at hH
          refine ⟨(keeps_in rfl (keeps_in rfl (keeps_in rfl (keeps_in rfl (keeps_in rfl trivial))))), ?_⟩
          refine d_end (by kernel_rfl) ?_
          refine g_seq ?_
          refine g_region (l := [0, 1, 2, 3, 4, 5, 6]) rfl ?_
          refine o_v (lv rfl) rfl (r_fa fa_106_2 rfl) ?_
          refine o_ld (lv rfl) rfl lk_26 rfl ⟨_, _, _, hH.c0, _, rfl, ?_⟩
          refine vM (lv rfl) rfl rfl ?_
          refine o_bs (lv rfl) rfl el_26 ze_3 rfl rfl rfl (ps := [_]) rfl rfl rfl (cs := [_]) rfl hH ?_
          intro b150 w hH
          refine o_app (enc := encI) (lv rfl) rfl el_26 ze_3 rfl (fun _ => rfl) (fun _ => rfl) rfl rfl (by exact hH.p4) (rd_of_cel [(i : Int)] (by exact hH.c0) rfl) (by simp; omega) (by simp; omega) ?_
          intro v151 w hH; obtain ⟨a151, k151, rfl, -⟩ := hH.rd.len
          refine o_v (lv rfl) rfl (r_fa fa_106_2 rfl) ?_
          refine o_st (lv rfl) rfl lk_26 rfl (vs := [_]) rfl rfl (by exact hH.p2) rfl rfl (by simp) rfl ?_
          intro w hH; dsimp only [setL, List.set] at hH
          refine g_regionD mixed ?_
          rintro w1 rfl; replace hH := hH.drew (n := w.drawn + 1); replace hbq := drewf (n := w.drawn + 1) hbq; replace hbq := drewf (n := w.drawn + 1) hbq; generalize hw1 : { w with drawn := w.drawn + 1 } = w at hH ⊢; try rw [hw1] at hbq; try rw [hw1] at hbq; clear hw1
          refine pM 0 (lv rfl) rfl rfl ?_
          refine pN 1 (lv rfl) rfl rfl ?_
          refine pF 2 (lv rfl) rfl fa_91_2 rfl ?_
          refine d_ld (i := 3) [7] (lv rfl) rfl lk_89 rfl (by kernel_rfl) ⟨_, _, _, hH.c7, _, rfl, ?_⟩
          refine pF 4 (lv rfl) rfl fa_54_0 rfl ?_
          refine d_ld (i := 5) [7] (lv rfl) rfl lk_3 rfl (by kernel_rfl) ⟨_, _, _, hH.c6, _, rfl, ?_⟩
          refine d_ldN (i := 6) [7] (lv rfl) rfl lk_106 rfl (by kernel_rfl) ⟨_, _, _, hH.c0, [_, _, _, _], rfl, rfl, ?_⟩
          refine d_l (j := 7) (by kernel_rfl) ?_
          refine o_mu (lv rfl) rfl mp_89 rfl rfl rfl (by exact hH.p3) ?_
          intro w hH
          refine ⟨(keeps_in rfl (keeps_in rfl (keeps_in rfl trivial))), ?_⟩
          refine d_end (by kernel_rfl) ?_
          refine g_inBlock ?_
          refine g_region (l := [0, 1]) rfl ?_
          refine o_v (lv rfl) rfl (r_addI rfl rfl ?_) ?_; omega
          refine vM (lv rfl) rfl rfl ?_
          have fin : ∀ wb : Bool, ((aget Ak p.flow).wrong || wrongAt (aget Ak p.flow) i p) = wb → tell i Ak p = aput Ak p.flow { aget Ak p.flow with wrong := wb, left := (aget Ak p.flow).left ++ [(i : Int)] } := fun wb h => by unfold tell; rw [h]
          (replace g17_19 : [q.p.flow, q.p.len, q.p.mark] ≠ [p.flow, p.len, p.mark] := g17_19
           have hw := fin true (by rw [show wrongAt (aget Ak p.flow) i p = true from by unfold wrongAt; rw [hq]; simp only [Bool.or_eq_true, decide_eq_true_eq]; exact .inl (fun h => g17_19 (by rw [h]))]; simp)
           exact hback _ _ _ ⟨k + 1, _, tell i Ak p, by omega, rfl, htk, hfo2, (J_self (has_s rfl (has_s rfl (has_s rfl (has_s rfl (has_s rfl has_0)))))), by rw [hw]; exact Holds.p1 (hput2 { aget Ak p.flow with wrong := true, left := (aget Ak p.flow).left ++ [(i : Int)] } _ _ _ _ (hH.sel (by repeat' (first | exact Sel.refl _ | refine Sel.q0 ?_ | refine Sel.q1 ?_ | refine Sel.q2 ?_ | refine Sel.q3 ?_ | refine Sel.skip _ ?_))))⟩ (by omega))
         ·refine pF 20 (lvg rfl rfl rfl) rfl fa_106_1 rfl ?_
          refine d_ld (i := 21) [30] (lvg rfl rfl rfl) rfl lk_104 rfl (by kernel_rfl) ⟨_, _, _, hH.c0, _, rfl, ?_⟩
          refine pM 22 (lvg rfl rfl rfl) rfl rfl ?_
          refine d_p (i := 23) (lvg rfl rfl rfl) rfl (fun w => (r_ia el_104 rfl rfl ?_ ?_)) (by kernel_rfl) ?_; omega; omega
          refine pF 24 (lvg rfl rfl rfl) rfl fa_108_2 rfl ?_
          refine d_ld (i := 25) [30] (lvg rfl rfl rfl) rfl lk_3 rfl (by kernel_rfl) ⟨_, _, _, hbq, _, hcq, ?_⟩
          refine pM 26 (lvg rfl rfl rfl) rfl rfl ?_
          refine d_p (i := 27) (lvg rfl rfl rfl) rfl (fun w => (r_ge rfl rfl)) (by kernel_rfl) ?_
          refine d_p (i := 28) (lv rfl) rfl (fun w => (r_pickF rfl rfl)) (by kernel_rfl) ?_
          refine pF 29 (lv rfl) rfl fa_106_3 rfl ?_
          refine d_l (j := 30) (by kernel_rfl) ?_
          refine o_st (lv rfl) rfl lk_4 rfl (vs := [_]) rfl rfl (by exact hH) rfl rfl (by simp) rfl ?_
          intro w hH; dsimp only [setL, List.set] at hH
          refine ⟨(keeps_in rfl (keeps_in rfl (keeps_in rfl (keeps_in rfl (keeps_in rfl (keeps_in rfl (keeps_in rfl trivial))))))), ?_⟩
          refine d_end (by kernel_rfl) ?_
          refine g_seq ?_
          refine g_region (l := [0, 1, 2, 3, 4, 5, 6]) rfl ?_
          refine o_v (lv rfl) rfl (r_fa fa_106_2 rfl) ?_
          refine o_ld (lv rfl) rfl lk_26 rfl ⟨_, _, _, hH.c0, _, rfl, ?_⟩
          refine vM (lv rfl) rfl rfl ?_
          refine o_bs (lv rfl) rfl el_26 ze_3 rfl rfl rfl (ps := [_]) rfl rfl rfl (cs := [_]) rfl hH ?_
          intro b150 w hH
          refine o_app (enc := encI) (lv rfl) rfl el_26 ze_3 rfl (fun _ => rfl) (fun _ => rfl) rfl rfl (by exact hH.p4) (rd_of_cel [(i : Int)] (by exact hH.c0) rfl) (by simp; omega) (by simp; omega) ?_
          intro v151 w hH; obtain ⟨a151, k151, rfl, -⟩ := hH.rd.len
          refine o_v (lv rfl) rfl (r_fa fa_106_2 rfl) ?_
          refine o_st (lv rfl) rfl lk_26 rfl (vs := [_]) rfl rfl (by exact hH.p2) rfl rfl (by simp) rfl ?_
          intro w hH; dsimp only [setL, List.set] at hH
          refine g_regionD mixed ?_
          rintro w1 rfl; replace hH := hH.drew (n := w.drawn + 1); replace hbq := drewf (n := w.drawn + 1) hbq; replace hbq := drewf (n := w.drawn + 1) hbq; generalize hw1 : { w with drawn := w.drawn + 1 } = w at hH ⊢; try rw [hw1] at hbq; try rw [hw1] at hbq; clear hw1
          refine pM 0 (lv rfl) rfl rfl ?_
          refine pN 1 (lv rfl) rfl rfl ?_
          refine pF 2 (lv rfl) rfl fa_91_2 rfl ?_
          refine d_ld (i := 3) [7] (lv rfl) rfl lk_89 rfl (by kernel_rfl) ⟨_, _, _, hH.c7, _, rfl, ?_⟩
          refine pF 4 (lv rfl) rfl fa_54_0 rfl ?_
          refine d_ld (i := 5) [7] (lv rfl) rfl lk_3 rfl (by kernel_rfl) ⟨_, _, _, hH.c6, _, rfl, ?_⟩
          refine d_ldN (i := 6) [7] (lv rfl) rfl lk_106 rfl (by kernel_rfl) ⟨_, _, _, hH.c0, [_, _, _, _], rfl, rfl, ?_⟩
          refine d_l (j := 7) (by kernel_rfl) ?_
          refine o_mu (lv rfl) rfl mp_89 rfl rfl rfl (by exact hH.p3) ?_
          intro w hH
          refine ⟨(keeps_in rfl (keeps_in rfl (keeps_in rfl trivial))), ?_⟩
          refine d_end (by kernel_rfl) ?_
          refine g_inBlock ?_
          refine g_region (l := [0, 1]) rfl ?_
          refine o_v (lv rfl) rfl (r_addI rfl rfl ?_) ?_; omega
          refine vM (lv rfl) rfl rfl ?_
          have fin : ∀ wb : Bool, ((aget Ak p.flow).wrong || wrongAt (aget Ak p.flow) i p) = wb → tell i Ak p = aput Ak p.flow { aget Ak p.flow with wrong := wb, left := (aget Ak p.flow).left ++ [(i : Int)] } := fun wb h => by unfold tell; rw [h]
          (have hqp : q.p = p := by
             obtain ⟨⟨a1, b1, c1'⟩, d1, e1⟩ := q; obtain ⟨a2, b2, c2'⟩ := p
             simpa using g17_19
           have hw := fin (decide (q.pt ≥ (i : Int))) (by rw [g17_2, show wrongAt (aget Ak p.flow) i p = decide (q.pt ≥ (i : Int)) from by unfold wrongAt; rw [hq]; simp [hqp]]; simp)
           exact hback _ _ _ ⟨k + 1, _, tell i Ak p, by omega, rfl, htk, hfo2, (J_self (has_s rfl (has_s rfl (has_s rfl (has_s rfl (has_s rfl has_0)))))), by rw [hw]; exact Holds.p1 (hput2 { aget Ak p.flow with wrong := decide (q.pt ≥ (i : Int)), left := (aget Ak p.flow).left ++ [(i : Int)] } _ _ _ _ (hH.sel (by repeat' (first | exact Sel.refl _ | refine Sel.q0 ?_ | refine Sel.q1 ?_ | refine Sel.q2 ?_ | refine Sel.q3 ?_ | refine Sel.skip _ ?_))))⟩ (by omega))
      ·refine g_exit rfl ?_
       refine g_eq Tryz.func78 res_0 ?_
       have hkn : k = x.ret.packets.length := by omega
       have hf : x.ret.packets.foldl (tell i) A1 = Ak := by rw [hfo, hkn, List.drop_length]; rfl
       rw [hstep, hf]
       exact (hH.sel (by repeat' (first | exact Sel.refl _)))
     ·exact absurd hop c2
theorem fair_enter {bk mb : Nat} {c : Config} {lsv xv : Value} {ls : List (List Call)} {A : As} {sum : Int} {n : Nat} (hP : RLists lsv ls R.h) (hls : listsOk ls) (hcfg : cfgOk c) (i : Nat) (hi : i ≤ 1000000) (x : Point) {pv : Value}
    (hpr : Rd encP pv x.ret.packets R.h) (hpl : x.ret.packets.length ≤ 100) (hA : aOk n A) (hn : n ≤ 1000000000) (hs : U sum)
    (hH : Holds R (cel bk [.int .i64 c.shards, .int .i64 c.slots, .int .i64 c.workers, .int .i64 c.width, .int .u64 c.unit, lsv, xv, .map (some mb), .int .u64 sum] 91 :: AccsC mb A :: F) w) :
    Ret Tryz.prog 78 [.pointer (some ⟨bk, 0, none⟩), .int .i64 i, vPt x pv] w fun v w' => Holds R (cel bk [.int .i64 c.shards, .int .i64 c.slots, .int .i64 c.workers, .int .i64 c.width, .int .u64 c.unit, lsv, xv, .map (some mb), .int .u64 (bookStep c.unit ls A sum i x).2] 91 :: AccsC mb (bookStep c.unit ls A sum i x).1 :: F) w' := by
  by_cases h1 : (callOf ls x).1.op = 1
  ·exact fair_enter1 hP hls hcfg i hi x h1 hpr hpl hA hn hs hH
  ·by_cases h3 : (callOf ls x).1.op = 3
   ·exact fair_enter3 hP hls hcfg i hi x h3 hpr hpl hA hn hs hH
   ·exact fair_enterO hP hls hcfg i hi x ⟨h1, h3⟩ hpr hpl hA hn hs hH
end
end Go.Proofs.YtkdbglfdgeldpaaGreat
