/- Contracts: do points play? Condition: plans and points only read; few points. -/
import Derived.Test.YtkdbglfdgeldpaaGreatWit2
namespace Go.Proofs.YtkdbglfdgeldpaaGreat
open Go.Lt
def tooLate (last : Option Int) (x : Point) : Prop := ∃ s, last = some s ∧ x.step ≤ s
instance (last : Option Int) (x : Point) : Decidable (tooLate last x) := match last with
  | none => .isFalse (fun ⟨_, h, _⟩ => by cases h)
  | some s => if h : x.step ≤ s then .isTrue ⟨s, rfl, h⟩ else .isFalse (fun ⟨_, h1, h2⟩ => by cases h1; exact h h2)
def playL (ls : List (List Call)) : List Point → Mdl → Option Int → Option Mdl
  | [], m, _ => some m
  | x :: l, m, last => if (callOf ls x).2 = false ∨ tooLate last x ∨ (m.do (callOf ls x).1).1 ≠ x.ret then none else playL ls l (m.do (callOf ls x).1).2 (some x.step)
theorem playL_S (ls : List (List Call)) (x : Point) (l : List Point) (m : Mdl) (last : Option Int) : playL ls (x :: l) m last = if (callOf ls x).2 = false ∨ tooLate last x ∨ (m.do (callOf ls x).1).1 ≠ x.ret then none else playL ls l (m.do (callOf ls x).1).2 (some x.step) := by
  conv => lhs; unfold playL
theorem playL_no {ls : List (List Call)} {x : Point} {l : List Point} {m : Mdl} {last : Option Int} (h : (callOf ls x).2 = false ∨ tooLate last x ∨ (m.do (callOf ls x).1).1 ≠ x.ret) : playL ls (x :: l) m last = none := by
  rw [playL_S, if_pos h]
theorem playL_yes {ls : List (List Call)} {x : Point} {l : List Point} {m : Mdl} {last : Option Int} (h1 : (callOf ls x).2 = true) (h2 : ¬ tooLate last x) (h3 : (m.do (callOf ls x).1).1 = x.ret) : playL ls (x :: l) m last = playL ls l (m.do (callOf ls x).1).2 (some x.step) := by
  rw [playL_S, if_neg (by simp [h1, h2, h3])]
def plays (c : Config) (ls : List (List Call)) (l : List Point) : Option Mdl := if cfgOk c then playL ls l (mkMdl c) none else none
def lastOf (l : List Point) (k : Nat) : Option Int := if k = 0 then none else (l[k - 1]?).map (·.step)
theorem lastOf_S {l : List Point} {k : Nat} {x : Point} (hx : l[k]? = some x) : lastOf l (k + 1) = some x.step := by
  unfold lastOf; simp [hx]
theorem drop_S {l : List Point} {k : Nat} {x : Point} (hx : l[k]? = some x) : l.drop k = x :: l.drop (k + 1) := by
  obtain ⟨h, he⟩ := List.getElem?_eq_some_iff.1 hx
  rw [List.drop_eq_getElem_cons h, he]
def listsOk (ls : List (List Call)) : Prop := ls.length ≤ 1000000 ∧ ∀ l ∈ ls, ∀ c ∈ l, c.ok
theorem callOf_ok {ls : List (List Call)} (h : listsOk ls) (x : Point) : (callOf ls x).1.ok := by
  have hz : (⟨0, 0, 0, 0⟩ : Call).ok := by unfold Call.ok I; simp
  have h4 : (⟨4, 0, 0, 0⟩ : Call).ok := by unfold Call.ok I; simp
  unfold callOf
  split
  ·exact hz
  ·split
   ·exact hz
   ·rename_i l hl
    split
    ·exact hz
    ·split
     ·exact hz
     ·rename_i c hc
      split
      ·exact h4
      ·exact h.2 l (List.mem_of_getElem? hl) c (List.mem_of_getElem? hc)
section
variable {R : Base} {F : List HP} {w : World}
theorem mkMdl_ok (c : Config) (h : cfgOk c) : (mkMdl c).ok 0 := ⟨h, ⟨by simp [mkMdl], by unfold U; simp [mkMdl], by unfold U; simp [mkMdl], by simp [mkMdl]⟩, by simp [mkMdl], by simp [mkMdl], by simp [mkMdl]⟩
theorem mkMdl_inv (c : Config) : (mkMdl c).s.inv := ⟨by simp [Sq.srt, mkMdl], by simp [Sq.own, mkMdl]⟩
theorem wit_Model {c : Config} {lsv xv : Value} {ls : List (List Call)} {l : List Point} (hP : RLists lsv ls R.h) (hX : RPoints xv l R.h) (hls : listsOk ls) (hl : l.length ≤ 1000000) (hH : Holds R F w) :
    Ret Tryz.prog 26 [vPlan c lsv, xv] w fun v w' => match plays c ls l with
      | none => v = .tuple #[.pointer none, .bool false] ∧ Holds R F w'
      | some m => ∃ b, v = .tuple #[.pointer (some ⟨b, 0, none⟩), .bool true] ∧ Holds R (MdlC b m :: F) w' := by
  obtain ⟨sl, rfl, hsr, hsp⟩ := hX
  obtain ⟨a, cap, rfl, -⟩ := hsr.len
  rw [List.length_map] at hl
  by_cases hcfg : cfgOk c
  ·have hplays : plays c ls (sl.map Prod.fst) = playL ls ((sl.map Prod.fst).drop 0) (mkMdl c) (lastOf (sl.map Prod.fst) 0) := by unfold plays; rw [if_pos hcfg]; rfl
   refine ret_of_g (n := 61) Tryz.func26 rfl rfl (by simp) ?_
   refine g_seq ?_
   refine g_region (l := [0, 1, 2]) rfl ?_
   refine o_box (lv rfl) rfl (cs := [_, _, _, _, _, _]) rfl rfl hH ?_
   intro b2 w hH
   refine vA (lv rfl) rfl rfl ?_
   refine vA (lv rfl) rfl rfl ?_
   refine g_seq ?_
   refine g_region (l := [0, 1, 2, 3, 4, 5, 6, 7]) rfl ?_
   refine o_v (lv rfl) rfl (r_fa fa_28_0 rfl) ?_
   refine o_ldN (lv rfl) rfl lk_24 rfl ⟨_, _, _, hH.c0, [_, _, _, _, _], rfl, rfl, ?_⟩
   refine o_call (lv rfl) rfl en_57 rfl (model_New c hH) ?_
   rintro _ w hv
   rw [if_pos hcfg] at hv; obtain ⟨bm, rfl, hH⟩ := hv
   refine vM (lv rfl) rfl rfl ?_
   refine o_v (lv rfl) rfl (r_ex rfl rfl) ?_
   refine o_v (lv rfl) rfl (r_ex rfl rfl) ?_
   refine vA (lv rfl) rfl rfl ?_
   refine vA (lv rfl) rfl rfl ?_
   refine g_seq ?_
   refine g_seq ?_
   refine g_region (l := [0, 1]) rfl ?_
   refine vM (lv rfl) rfl rfl ?_
   refine o_v (lv rfl) rfl (r_ne rfl rfl) ?_
   refine g_false rfl ?_
   refine g_skip ?_
   refine g_seq ?_
   refine g_seq ?_
   refine g_region (l := [0, 1, 2]) rfl ?_
   refine vM (lv rfl) rfl rfl ?_
   refine o_v (lv rfl) rfl (r_len el_30 rfl) ?_
   refine vM (lv rfl) rfl rfl ?_
   refine g_block ?_
   refine g_loop (fun mm e w => ∃ (k : Nat) (e0 : Env) (mk : Mdl), k ≤ sl.length ∧ mm = sl.length - k ∧ mk.ok k ∧ mk.s.inv ∧ plays c ls (sl.map Prod.fst) = playL ls ((sl.map Prod.fst).drop k) mk (lastOf (sl.map Prod.fst) k) ∧
       e = J e0 [(1, .slice a sl.length cap), (2, .pointer (some ⟨b2, 0, none⟩)), (6, .pointer (some ⟨bm, 0, none⟩)), (20, .slice a sl.length cap), (21, .int .i64 sl.length), (22, .int .i64 k)] ∧
       Holds R (MdlC bm mk :: cel b2 [.int .i64 c.shards, .int .i64 c.slots, .int .i64 c.workers, .int .i64 c.width, .int .u64 c.unit, lsv] 28 :: F) w) sl.length ⟨0, _, mkMdl c, by omega, by omega, mkMdl_ok c hcfg, mkMdl_inv c, hplays, (J_self (has_s rfl (has_s rfl (has_s rfl (has_s rfl (has_s rfl (has_s rfl has_0))))))), (hH.sel (by repeat' (first | exact Sel.refl _)))⟩ ?_
   rintro mm _ w ⟨k, e0, mk, hk, hm, hmk, hmi, hpl, rfl, hH⟩ hback
   refine g_seq ?_
   refine g_region (l := [0]) rfl ?_
   refine o_v (lv rfl) rfl (r_lt rfl rfl) ?_
   refine g_seq ?_
   refine g_if rfl (fun c1 => ?_) (fun c1 => ?_)
   ·have hkl : k < sl.length := by omega
    obtain ⟨⟨x, pv⟩, hx⟩ : ∃ x, sl[k]? = some x := ⟨_, List.getElem?_eq_getElem hkl⟩
    have hxm : (sl.map Prod.fst)[k]? = some x := by rw [List.getElem?_map, hx]; rfl
    have hpr : Rd encP pv x.ret.packets R.h := hsp _ (List.mem_of_getElem? hx)
    obtain ⟨pa, pcap, rfl, hpc⟩ := hpr.len
    obtain ⟨bp, op_, cs, T, rfl, hbp, hcp0⟩ := Rd.el hkPt hsr hx
    have hcp := dt_of hcp0
    have hco := callOf_ok hls x
    have hdo := Mdl.do_ok hmk (by omega) hco
    rw [drop_S hxm] at hpl
    refine g_skip ?_
    refine g_seq ?_
    refine g_block ?_
    refine g_seq ?_
    refine g_region (l := [0, 1, 2, 3, 4, 5]) rfl ?_
    refine vM (lv rfl) rfl rfl ?_
    refine o_v (lv rfl) rfl (r_ia el_30 rfl rfl ?_ ?_) ?_; omega; omega
    refine o_ldN (lv rfl) rfl lk_59 rfl ⟨_, _, _, hH.old hbp, _, hcp, rfl, ?_⟩
    refine o_al (lv rfl) rfl ze_59 hH ?_
    intro b9 w hH
    refine vA (lv rfl) rfl rfl ?_
    refine o_st (lv rfl) rfl lk_59 rfl (vs := [_, _, _, _, _, _, _]) rfl rfl (by exact hH) rfl rfl (by simp) rfl ?_
    intro w hH; dsimp only [setL, List.set] at hH
    refine g_seq ?_
    refine g_region (l := [0, 1, 2, 3, 4, 5, 6, 7, 8]) rfl ?_
    refine o_ldN (lv rfl) rfl lk_28 rfl ⟨_, _, _, hH.c2, [_, _, _, _, _, _], rfl, rfl, ?_⟩
    refine o_ldN (lv rfl) rfl lk_59 rfl ⟨_, _, _, hH.c0, [_, _, _, _, _, _, _], rfl, rfl, ?_⟩
    refine o_call (lv rfl) rfl en_58 rfl (wit_Call (c := c) hP (by have := hls.1; omega) x hH) ?_
    rintro _ w ⟨rfl, hH⟩
    refine vM (lv rfl) rfl rfl ?_
    refine o_v (lv rfl) rfl (r_ex rfl rfl) ?_
    refine o_v (lv rfl) rfl (r_ex rfl rfl) ?_
    refine o_al (lv rfl) rfl ze_46 hH ?_
    intro b10 w hH
    refine o_st (lv rfl) rfl lk_46 rfl (vs := [_, _, _, _]) rfl rfl (by exact hH) rfl rfl (by simp) rfl ?_
    intro w hH; dsimp only [setL, List.set] at hH
    refine vA (lv rfl) rfl rfl ?_
    refine g_seq ?_
    refine rD mixed hH fun w hH => ?_
    refine pM 0 (lv rfl) rfl rfl ?_
    refine d_p (i := 1) (lv rfl) rfl (fun w => (r_not rfl)) (by kernel_rfl) ?_
    refine pM 2 (lv rfl) rfl rfl ?_
    refine s_opdb (fun g8_2 => ?_) (fun g8_2 => ?_)
    ·refine pO 3 rfl rfl rfl rfl ?_
     refine pO 4 rfl rfl rfl rfl ?_
     refine pO 5 rfl rfl rfl rfl ?_
     refine d_no2 (i := 6) rfl rfl rfl rfl (by kernel_rfl) ?_
     refine d_no2 (i := 7) rfl rfl rfl rfl (by kernel_rfl) ?_
     refine d_no2 (i := 8) rfl rfl rfl rfl (by kernel_rfl) ?_
     refine d_no2 (i := 9) rfl rfl rfl rfl (by kernel_rfl) ?_
     refine d_no2 (i := 10) rfl rfl rfl rfl (by kernel_rfl) ?_
     refine d_no2 (i := 11) rfl rfl rfl rfl (by kernel_rfl) ?_
     refine d_no2 (i := 12) rfl rfl rfl rfl (by kernel_rfl) ?_
     refine d_no2 (i := 13) rfl rfl rfl rfl (by kernel_rfl) ?_
     refine d_no2 (i := 14) rfl rfl rfl rfl (by kernel_rfl) ?_
     refine pO 15 rfl rfl rfl rfl ?_
     refine d_p (i := 16) (lv rfl) rfl (fun w => (r_pickT rfl rfl)) (by kernel_rfl) ?_
     refine pM 17 (lv rfl) rfl rfl ?_
     refine pO 18 rfl rfl rfl rfl ?_
     refine pO 19 rfl rfl rfl rfl ?_
     refine pO 20 rfl rfl rfl rfl ?_
     refine pO 21 rfl rfl rfl rfl ?_
     refine pO 22 rfl rfl rfl rfl ?_
     refine pO 23 rfl rfl rfl rfl ?_
     refine pO 24 rfl rfl rfl rfl ?_
     refine d_p (i := 25) (lv rfl) rfl (fun w => (r_pickT rfl rfl)) (by kernel_rfl) ?_
     refine d_end (by kernel_rfl) ?_
     refine g_true rfl ?_
     refine g_seq ?_
     refine g_region (l := [0, 1]) rfl ?_
     refine vA (lv rfl) rfl rfl ?_
     refine vA (lv rfl) rfl rfl ?_
     refine g_rq Tryz.func26 (res_t rfl (res_t rfl res_0)) ?_
     first
     | (rw [hpl, playL_no (.inl (by simpa using g8_2))]; exact ⟨rfl, (hH.sel (by repeat' (first | exact Sel.refl _ | refine Sel.skip _ ?_)))⟩)
     | (rw [hpl, playL_no (.inr (.inl ⟨_, hla, by omega⟩))]; exact ⟨rfl, (hH.sel (by repeat' (first | exact Sel.refl _)))⟩)
     | (rw [hpl, playL_no (.inr (.inr (by simpa using c2)))]; exact ⟨rfl, (hH.sel (by repeat' (first | exact Sel.refl _)))⟩)
     | (rw [show plays c ls (sl.map Prod.fst) = some mk from by rw [hpl, List.drop_of_length_le (by simp; omega)]; rfl]
        exact ⟨_, rfl, (hH.sel (by repeat' (first | exact Sel.refl _)))⟩)
    ·refine pM 3 (lvg rfl rfl rfl) rfl rfl ?_
     refine d_p (i := 4) (lvg rfl rfl rfl) rfl (fun w => (r_gt rfl rfl)) (by kernel_rfl) ?_
     refine pM 5 (lvg rfl rfl rfl) rfl rfl ?_
     refine s_opd (fun g8_5 => ?_) (fun g8_5 => ?_)
     ·obtain ⟨⟨y, qv⟩, hy⟩ : ∃ y, sl[k - 1]? = some y := ⟨_, List.getElem?_eq_getElem (by omega)⟩
      obtain ⟨bq, oq, csq, Tq, hq1, hbq, hcq0⟩ := Rd.el hkPt hsr hy
      cases hq1
      have hcq := hcq0 0 (.int .i64 y.step) rfl
      have hk1 : k - 1 = ((k : Int) - 1).toNat := by omega
      rw [hk1] at hcq
      have hla : lastOf (sl.map Prod.fst) k = some y.step := by unfold lastOf; rw [if_neg (by omega), List.getElem?_map, hy]; rfl
      refine pF 6 (lvg rfl rfl rfl) rfl fa_59_0 rfl ?_
      refine d_ld (i := 7) [20, 23] (lvg rfl rfl rfl) rfl lk_3 rfl (by kernel_rfl) ⟨_, _, _, hH.c1, _, rfl, ?_⟩
      refine pM 8 (lvg rfl rfl rfl) rfl rfl ?_
      refine pM 9 (lvg rfl rfl rfl) rfl rfl ?_
      refine d_p (i := 10) (lvg rfl rfl rfl) rfl (fun w => (r_subI rfl rfl ?_)) (by kernel_rfl) ?_; omega
      refine d_p (i := 11) (lvg rfl rfl rfl) rfl (fun w => (r_ia el_30 rfl rfl ?_ ?_)) (by kernel_rfl) ?_; omega; omega
      refine pF 12 (lvg rfl rfl rfl) rfl fa_59_0 rfl ?_
      refine d_ld (i := 13) [20, 23] (lvg rfl rfl rfl) rfl lk_3 rfl (by kernel_rfl) ⟨_, _, _, hH.old hbq, _, hcq, ?_⟩
      refine d_p (i := 14) (lvg rfl rfl rfl) rfl (fun w => (r_le rfl rfl)) (by kernel_rfl) ?_
      refine d_p (i := 15) (lvg rfl rfl rfl) rfl (fun w => (r_pickT rfl rfl)) (by kernel_rfl) ?_
      refine d_p (i := 16) (lv rfl) rfl (fun w => (r_pickF rfl rfl)) (by kernel_rfl) ?_
      refine pM 17 (lv rfl) rfl rfl ?_
      refine s_opd (fun g8_17 => ?_) (fun g8_17 => ?_)
      ·refine pO 18 rfl rfl rfl rfl ?_
       refine pO 19 rfl rfl rfl rfl ?_
       refine pO 20 rfl rfl rfl rfl ?_
       refine pO 21 rfl rfl rfl rfl ?_
       refine pO 22 rfl rfl rfl rfl ?_
       refine pO 23 rfl rfl rfl rfl ?_
       refine pO 24 rfl rfl rfl rfl ?_
       refine d_p (i := 25) (lv rfl) rfl (fun w => (r_pickT rfl rfl)) (by kernel_rfl) ?_
       refine d_end (by kernel_rfl) ?_
       refine g_true rfl ?_
       refine g_seq ?_
       refine g_region (l := [0, 1]) rfl ?_
       refine vA (lv rfl) rfl rfl ?_
       refine vA (lv rfl) rfl rfl ?_
       refine g_rq Tryz.func26 (res_t rfl (res_t rfl res_0)) ?_
       first
       | (rw [hpl, playL_no (.inl (by simpa using g8_2))]; exact ⟨rfl, (hH.sel (by repeat' (first | exact Sel.refl _)))⟩)
       | (rw [hpl, playL_no (.inr (.inl ⟨_, hla, by omega⟩))]; exact ⟨rfl, (hH.sel (by repeat' (first | exact Sel.refl _ | refine Sel.skip _ ?_)))⟩)
       | (rw [hpl, playL_no (.inr (.inr (by simpa using c2)))]; exact ⟨rfl, (hH.sel (by repeat' (first | exact Sel.refl _)))⟩)
       | (rw [show plays c ls (sl.map Prod.fst) = some mk from by rw [hpl, List.drop_of_length_le (by simp; omega)]; rfl]
          exact ⟨_, rfl, (hH.sel (by repeat' (first | exact Sel.refl _)))⟩)
      ·refine pM 18 (lvg rfl rfl rfl) rfl rfl ?_
       refine d_ldN (i := 19) [20, 23] (lvg rfl rfl rfl) rfl lk_46 rfl (by kernel_rfl) ⟨_, _, _, hH.c0, [_, _, _, _], rfl, rfl, ?_⟩
       refine pF 21 (lvg rfl rfl rfl) rfl fa_59_3 rfl ?_
       refine d_ldN (i := 22) [23] (lvg rfl rfl rfl) rfl lk_57 rfl (by kernel_rfl) ⟨_, _, _, hH.c1, [_, _, _, _], rfl, rfl, ?_⟩
       refine d_l (j := 20) (by kernel_rfl) ?_
       refine o_call (lvg rfl rfl rfl) rfl en_60 rfl (model_Do hmk.1 hmk.2.1 (by have := hmk.2.2.1; omega) hmi ⟨hmk.2.2.2.1, by have := hmk.2.2.2.2; omega⟩ _ hco (by exact hH.p2)) ?_
       rintro _ w ⟨pv2, rfl, hH⟩
       obtain ⟨pa2, pcap2, rfl, -⟩ := hH.rd.len
       refine ⟨(keeps_cons (fun _ => (by exact hH.c3)) (keeps_in rfl (keeps_in rfl (keeps_in rfl trivial)))), ?_⟩
       refine d_l (j := 23) (by kernel_rfl) ?_
       refine o_call (lvg rfl rfl rfl) rfl en_59 rfl (wit_same (R := baseOf w) (F := []) hH.rd (Rd.up _ _ hpr hH.ro) hdo.2.1.2.2.2.2 (holds_start w)) ?_
       rintro _ w ⟨rfl, hH2⟩
       replace hH := hH.merge hH2
       refine ⟨(keeps_in rfl (keeps_in rfl (keeps_in rfl (keeps_in rfl trivial)))), ?_⟩
       refine d_p (i := 24) (lvg rfl rfl rfl) rfl (fun w => (r_notD rfl)) (by kernel_rfl) ?_
       refine d_p (i := 25) (lv rfl) rfl (fun w => (r_pickF rfl rfl)) (by kernel_rfl) ?_
       refine d_end (by kernel_rfl) ?_
       refine g_if rfl (fun c2 => ?_) (fun c2 => ?_)
       ·refine g_seq ?_
        refine g_region (l := [0, 1]) rfl ?_
        refine vA (lv rfl) rfl rfl ?_
        refine vA (lv rfl) rfl rfl ?_
        refine g_rq Tryz.func26 (res_t rfl (res_t rfl res_0)) ?_
        first
        | (rw [hpl, playL_no (.inl (by simpa using g8_2))]; exact ⟨rfl, (hH.sel (by repeat' (first | exact Sel.refl _)))⟩)
        | (rw [hpl, playL_no (.inr (.inl ⟨_, hla, by omega⟩))]; exact ⟨rfl, (hH.sel (by repeat' (first | exact Sel.refl _)))⟩)
        | (rw [hpl, playL_no (.inr (.inr (by simpa using c2)))]; exact ⟨rfl, (hH.sel (by repeat' (first | exact Sel.refl _ | refine Sel.skip _ ?_)))⟩)
        | (rw [show plays c ls (sl.map Prod.fst) = some mk from by rw [hpl, List.drop_of_length_le (by simp; omega)]; rfl]
           exact ⟨_, rfl, (hH.sel (by repeat' (first | exact Sel.refl _)))⟩)
       ·refine g_skip ?_
        refine g_inBlock ?_
        refine g_region (l := [0, 1]) rfl ?_
        refine o_v (lv rfl) rfl (r_addI rfl rfl ?_) ?_; omega
        refine vM (lv rfl) rfl rfl ?_
        have hnl : ¬ tooLate (lastOf (sl.map Prod.fst) k) x := by
          rw [hla]; rintro ⟨s, h1, h2⟩; first | (cases h1; done) | (cases h1; omega)
        have hst := playL_yes (ls := ls) (x := x) (l := (sl.map Prod.fst).drop (k + 1)) (m := mk) (by simpa using g8_2) hnl (by simpa using c2)
        rw [hst, ← lastOf_S hxm] at hpl
        exact hback _ _ _ ⟨k + 1, _, _, by omega, rfl, hdo.1, Mdl.do_inv hmi _, hpl, (J_self (has_s rfl (has_s rfl (has_s rfl (has_s rfl (has_s rfl (has_s rfl has_0))))))), (hH.sel (by repeat' (first | exact Sel.refl _ | refine Sel.q1 ?_ | refine Sel.q3 ?_ | refine Sel.skip _ ?_)))⟩ (by omega)
     ·have hla : lastOf (sl.map Prod.fst) k = none := by unfold lastOf; rw [if_pos (by omega)]
      refine pO 6 rfl rfl rfl rfl ?_
      refine pO 7 rfl rfl rfl rfl ?_
      refine pO 8 rfl rfl rfl rfl ?_
      refine pO 9 rfl rfl rfl rfl ?_
      refine pO 10 rfl rfl rfl rfl ?_
      refine pO 11 rfl rfl rfl rfl ?_
      refine pO 12 rfl rfl rfl rfl ?_
      refine pO 13 rfl rfl rfl rfl ?_
      refine pO 14 rfl rfl rfl rfl ?_
      refine d_p (i := 15) (lvg rfl rfl rfl) rfl (fun w => (r_pickF rfl rfl)) (by kernel_rfl) ?_
      refine d_p (i := 16) (lv rfl) rfl (fun w => (r_pickF rfl rfl)) (by kernel_rfl) ?_
      refine pM 17 (lv rfl) rfl rfl ?_
      refine pM 18 (lvg rfl rfl rfl) rfl rfl ?_
      refine d_ldN (i := 19) [20, 23] (lvg rfl rfl rfl) rfl lk_46 rfl (by kernel_rfl) ⟨_, _, _, hH.c0, [_, _, _, _], rfl, rfl, ?_⟩
      refine pF 21 (lvg rfl rfl rfl) rfl fa_59_3 rfl ?_
      refine d_ldN (i := 22) [23] (lvg rfl rfl rfl) rfl lk_57 rfl (by kernel_rfl) ⟨_, _, _, hH.c1, [_, _, _, _], rfl, rfl, ?_⟩
      refine d_l (j := 20) (by kernel_rfl) ?_
      refine o_call (lvg rfl rfl rfl) rfl en_60 rfl (model_Do hmk.1 hmk.2.1 (by have := hmk.2.2.1; omega) hmi ⟨hmk.2.2.2.1, by have := hmk.2.2.2.2; omega⟩ _ hco (by exact hH.p2)) ?_
      rintro _ w ⟨pv2, rfl, hH⟩
      obtain ⟨pa2, pcap2, rfl, -⟩ := hH.rd.len
      refine ⟨(keeps_cons (fun _ => (by exact hH.c3)) (keeps_in rfl trivial)), ?_⟩
      refine d_l (j := 23) (by kernel_rfl) ?_
      refine o_call (lvg rfl rfl rfl) rfl en_59 rfl (wit_same (R := baseOf w) (F := []) hH.rd (Rd.up _ _ hpr hH.ro) hdo.2.1.2.2.2.2 (holds_start w)) ?_
      rintro _ w ⟨rfl, hH2⟩
      replace hH := hH.merge hH2
      refine ⟨(keeps_in rfl (keeps_in rfl trivial)), ?_⟩
      refine d_p (i := 24) (lvg rfl rfl rfl) rfl (fun w => (r_notD rfl)) (by kernel_rfl) ?_
      refine d_p (i := 25) (lv rfl) rfl (fun w => (r_pickF rfl rfl)) (by kernel_rfl) ?_
      refine d_end (by kernel_rfl) ?_
      refine g_if rfl (fun c2 => ?_) (fun c2 => ?_)
      ·refine g_seq ?_
       refine g_region (l := [0, 1]) rfl ?_
       refine vA (lv rfl) rfl rfl ?_
       refine vA (lv rfl) rfl rfl ?_
       refine g_rq Tryz.func26 (res_t rfl (res_t rfl res_0)) ?_
       first
       | (rw [hpl, playL_no (.inl (by simpa using g8_2))]; exact ⟨rfl, (hH.sel (by repeat' (first | exact Sel.refl _)))⟩)
       | (rw [hpl, playL_no (.inr (.inl ⟨_, hla, by omega⟩))]; exact ⟨rfl, (hH.sel (by repeat' (first | exact Sel.refl _)))⟩)
       | (rw [hpl, playL_no (.inr (.inr (by simpa using c2)))]; exact ⟨rfl, (hH.sel (by repeat' (first | exact Sel.refl _ | refine Sel.skip _ ?_)))⟩)
       | (rw [show plays c ls (sl.map Prod.fst) = some mk from by rw [hpl, List.drop_of_length_le (by simp; omega)]; rfl]
          exact ⟨_, rfl, (hH.sel (by repeat' (first | exact Sel.refl _)))⟩)
      ·refine g_skip ?_
       refine g_inBlock ?_
       refine g_region (l := [0, 1]) rfl ?_
       refine o_v (lv rfl) rfl (r_addI rfl rfl ?_) ?_; omega
       refine vM (lv rfl) rfl rfl ?_
       have hnl : ¬ tooLate (lastOf (sl.map Prod.fst) k) x := by
         rw [hla]; rintro ⟨s, h1, h2⟩; first | (cases h1; done) | (cases h1; omega)
       have hst := playL_yes (ls := ls) (x := x) (l := (sl.map Prod.fst).drop (k + 1)) (m := mk) (by simpa using g8_2) hnl (by simpa using c2)
       rw [hst, ← lastOf_S hxm] at hpl
       exact hback _ _ _ ⟨k + 1, _, _, by omega, rfl, hdo.1, Mdl.do_inv hmi _, hpl, (J_self (has_s rfl (has_s rfl (has_s rfl (has_s rfl (has_s rfl (has_s rfl has_0))))))), (hH.sel (by repeat' (first | exact Sel.refl _ | refine Sel.q1 ?_ | refine Sel.q3 ?_ | refine Sel.skip _ ?_)))⟩ (by omega)
   ·refine g_exit rfl ?_
    refine g_seq ?_
    refine g_region (l := [0, 1, 2]) rfl ?_
    refine vM (lv rfl) rfl rfl ?_
    refine vA (lv rfl) rfl rfl ?_
    refine vA (lv rfl) rfl rfl ?_
    refine g_rq Tryz.func26 (res_t rfl (res_t rfl res_0)) ?_
    first
    | (rw [hpl, playL_no (.inl (by simpa using g8_2))]; exact ⟨rfl, (hH.sel (by repeat' (first | exact Sel.refl _)))⟩)
    | (rw [hpl, playL_no (.inr (.inl ⟨_, hla, by omega⟩))]; exact ⟨rfl, (hH.sel (by repeat' (first | exact Sel.refl _)))⟩)
    | (rw [hpl, playL_no (.inr (.inr (by simpa using c2)))]; exact ⟨rfl, (hH.sel (by repeat' (first | exact Sel.refl _)))⟩)
    | (rw [show plays c ls (sl.map Prod.fst) = some mk from by rw [hpl, List.drop_of_length_le (by simp; omega)]; rfl]
       exact ⟨_, rfl, (hH.sel (by repeat' (first | exact Sel.refl _ | refine Sel.q0 ?_ | refine Sel.skip _ ?_)))⟩)
  ·rw [show plays c ls (sl.map Prod.fst) = none from by unfold plays; rw [if_neg hcfg]]
   refine ret_of_g (n := 61) Tryz.func26 rfl rfl (by simp) ?_
   refine g_seq ?_
   refine g_region (l := [0, 1, 2]) rfl ?_
   refine o_box (lv rfl) rfl (cs := [_, _, _, _, _, _]) rfl rfl hH ?_
   intro b2 w hH
   refine vA (lv rfl) rfl rfl ?_
   refine vA (lv rfl) rfl rfl ?_
   refine g_seq ?_
   refine g_region (l := [0, 1, 2, 3, 4, 5, 6, 7]) rfl ?_
   refine o_v (lv rfl) rfl (r_fa fa_28_0 rfl) ?_
   refine o_ldN (lv rfl) rfl lk_24 rfl ⟨_, _, _, hH.c0, [_, _, _, _, _], rfl, rfl, ?_⟩
   refine o_call (lv rfl) rfl en_57 rfl (model_New c hH) ?_
   rintro _ w hv
   rw [if_neg hcfg] at hv; obtain ⟨rfl, hH⟩ := hv
   refine vM (lv rfl) rfl rfl ?_
   refine o_v (lv rfl) rfl (r_ex rfl rfl) ?_
   refine o_v (lv rfl) rfl (r_ex rfl rfl) ?_
   refine vA (lv rfl) rfl rfl ?_
   refine vA (lv rfl) rfl rfl ?_
   refine g_seq ?_
   refine g_seq ?_
   refine g_region (l := [0, 1]) rfl ?_
   refine vM (lv rfl) rfl rfl ?_
   refine o_v (lv rfl) rfl (r_ne rfl rfl) ?_
   refine g_true rfl ?_
   refine g_seq ?_
   refine g_region (l := [0, 1]) rfl ?_
   refine vA (lv rfl) rfl rfl ?_
   refine vA (lv rfl) rfl rfl ?_
   refine g_rq Tryz.func26 (res_t rfl (res_t rfl res_0)) ?_
   exact ⟨rfl, (hH.sel (by repeat' (first | exact Sel.refl _ | refine Sel.skip _ ?_)))⟩
theorem wit_Plays {c : Config} {lsv xv : Value} {ls : List (List Call)} {l : List Point} (hP : RLists lsv ls R.h) (hX : RPoints xv l R.h) (hls : listsOk ls) (hl : l.length ≤ 1000000) (hH : Holds R F w) :
    Ret Tryz.prog 28 [vPlan c lsv, xv] w fun v w' => v = .bool (plays c ls l).isSome ∧ Holds R F w' := by
  have hX' := hX
  obtain ⟨sl, rfl, hsr, -⟩ := hX'
  obtain ⟨a, cap, rfl, -⟩ := hsr.len
  cases hp0 : plays c ls (sl.map Prod.fst) with
  | none =>
    refine ret_of_g (n := 14) Tryz.func28 rfl rfl (by simp) ?_
    refine g_seq ?_
    refine g_region (l := [0, 1]) rfl ?_
    refine o_box (lv rfl) rfl (cs := [_, _, _, _, _, _]) rfl rfl hH ?_
    intro b2 w hH
    refine vA (lv rfl) rfl rfl ?_
    refine g_seq ?_
    refine g_region (l := [0, 1, 2, 3, 4, 5, 6, 7]) rfl ?_
    refine o_ldN (lv rfl) rfl lk_28 rfl ⟨_, _, _, hH.c0, [_, _, _, _, _, _], rfl, rfl, ?_⟩
    refine vM (lv rfl) rfl rfl ?_
    refine o_call (lv rfl) rfl en_26 rfl (wit_Model (c := c) hP hX hls hl hH) ?_
    rintro _ w hv
    rw [hp0] at hv; obtain ⟨rfl, hH⟩ := hv
    refine vM (lv rfl) rfl rfl ?_
    refine o_v (lv rfl) rfl (r_ex rfl rfl) ?_
    refine o_v (lv rfl) rfl (r_ex rfl rfl) ?_
    refine vA (lv rfl) rfl rfl ?_
    refine vA (lv rfl) rfl rfl ?_
    refine g_seq ?_
    refine g_region (l := [0, 1]) rfl ?_
    refine vM (lv rfl) rfl rfl ?_
    refine vA (lv rfl) rfl rfl ?_
    refine g_rq Tryz.func28 (res_t rfl res_0) ?_
    exact ⟨rfl, (hH.sel (by repeat' (first | exact Sel.refl _ | refine Sel.skip _ ?_)))⟩
  | some m =>
    refine ret_of_g (n := 14) Tryz.func28 rfl rfl (by simp) ?_
    refine g_seq ?_
    refine g_region (l := [0, 1]) rfl ?_
    refine o_box (lv rfl) rfl (cs := [_, _, _, _, _, _]) rfl rfl hH ?_
    intro b2 w hH
    refine vA (lv rfl) rfl rfl ?_
    refine g_seq ?_
    refine g_region (l := [0, 1, 2, 3, 4, 5, 6, 7]) rfl ?_
    refine o_ldN (lv rfl) rfl lk_28 rfl ⟨_, _, _, hH.c0, [_, _, _, _, _, _], rfl, rfl, ?_⟩
    refine vM (lv rfl) rfl rfl ?_
    refine o_call (lv rfl) rfl en_26 rfl (wit_Model (c := c) hP hX hls hl hH) ?_
    rintro _ w hv
    rw [hp0] at hv; obtain ⟨bm, rfl, hH⟩ := hv
    refine vM (lv rfl) rfl rfl ?_
    refine o_v (lv rfl) rfl (r_ex rfl rfl) ?_
    refine o_v (lv rfl) rfl (r_ex rfl rfl) ?_
    refine vA (lv rfl) rfl rfl ?_
    refine vA (lv rfl) rfl rfl ?_
    refine g_seq ?_
    refine g_region (l := [0, 1]) rfl ?_
    refine vM (lv rfl) rfl rfl ?_
    refine vA (lv rfl) rfl rfl ?_
    refine g_rq Tryz.func28 (res_t rfl res_0) ?_
    exact ⟨rfl, (hH.sel (by repeat' (first | exact Sel.refl _ | refine Sel.skip _ ?_)))⟩
theorem r27_Plays {c : Config} {lsv xv : Value} {ls : List (List Call)} {l : List Point} (hP : RLists lsv ls R.h) (hX : RPoints xv l R.h) (hls : listsOk ls) (hl : l.length ≤ 1000000) (hH : Holds R F w) :
    Ret Tryz.prog 20 [vPlan c lsv, xv] w fun v w' => match plays c ls l with
      | none => v = .pointer none ∧ Holds R F w'
      | some m => ∃ b, v = .pointer (some ⟨b, 0, none⟩) ∧ Holds R (RMdlC b m :: F) w' := by
  obtain ⟨sl, rfl, hsr, hsp⟩ := hX
  obtain ⟨a, cap, rfl, -⟩ := hsr.len
  rw [List.length_map] at hl
  by_cases hcfg : cfgOk c
  ·have hplays : plays c ls (sl.map Prod.fst) = playL ls ((sl.map Prod.fst).drop 0) (mkMdl c) (lastOf (sl.map Prod.fst) 0) := by unfold plays; rw [if_pos hcfg]; rfl
   refine ret_of_g (n := 64) Tryz.func20 rfl rfl (by simp) ?_
   refine g_seq ?_
   refine g_region (l := [0, 1]) rfl ?_
   refine o_box (lv rfl) rfl (cs := [_, _, _, _, _, _]) rfl rfl hH ?_
   intro b2 w hH
   refine vA (lv rfl) rfl rfl ?_
   refine g_seq ?_
   refine g_seq ?_
   refine g_region (l := [0, 1, 2, 3]) rfl ?_
   refine o_v (lv rfl) rfl (r_fa fa_28_0 rfl) ?_
   refine o_ldN (lv rfl) rfl lk_24 rfl ⟨_, _, _, hH.c0, [_, _, _, _, _], rfl, rfl, ?_⟩
   refine o_call (lv rfl) rfl en_53 rfl (r09_Right c hH) ?_
   rintro _ w ⟨rfl, hH⟩
   refine o_v (lv rfl) rfl (r_notD rfl) ?_
   refine g_if rfl (fun c0 => ?_) (fun c0 => ?_)
   ·simp [hcfg] at c0
   ·refine g_skip ?_
    refine g_seq ?_
    refine g_region (l := [0, 1, 2, 3]) rfl ?_
    refine o_v (lv rfl) rfl (r_fa fa_28_0 rfl) ?_
    refine o_ldN (lv rfl) rfl lk_24 rfl ⟨_, _, _, hH.c0, [_, _, _, _, _], rfl, rfl, ?_⟩
    refine o_call (lv rfl) rfl en_42 rfl (r09_NewModel c hH) ?_
    rintro _ w ⟨bm, rfl, hH⟩
    refine vA (lv rfl) rfl rfl ?_
    refine g_seq ?_
    refine g_seq ?_
    refine g_region (l := [0]) rfl ?_
    refine vA (lv rfl) rfl rfl ?_
    refine g_block ?_
    refine g_loop (fun mm e w => ∃ (k : Nat) (e0 : Env) (mk : Mdl), k ≤ sl.length ∧ mm = sl.length - k ∧ mk.ok k ∧ plays c ls (sl.map Prod.fst) = playL ls ((sl.map Prod.fst).drop k) mk (lastOf (sl.map Prod.fst) k) ∧
        e = J e0 [(1, .slice a sl.length cap), (2, .pointer (some ⟨b2, 0, none⟩)), (5, .pointer (some ⟨bm, 0, none⟩)), (6, .int .i64 k)] ∧
        Holds R (RMdlC bm mk :: cel b2 [.int .i64 c.shards, .int .i64 c.slots, .int .i64 c.workers, .int .i64 c.width, .int .u64 c.unit, lsv] 28 :: F) w) sl.length ⟨0, _, mkMdl c, by omega, by omega, mkMdl_ok c hcfg, hplays, (J_self (has_s rfl (has_s rfl (has_s rfl (has_s rfl has_0))))), (hH.sel (by repeat' (first | exact Sel.refl _)))⟩ ?_
    rintro mm _ w ⟨k, e0, mk, hk, hm, hmk, hpl, rfl, hH⟩ hback
    refine g_seq ?_
    refine g_seq ?_
    refine g_region (l := [0, 1, 2, 3]) rfl ?_
    refine vM (lv rfl) rfl rfl ?_
    refine vM (lv rfl) rfl rfl ?_
    refine o_v (lv rfl) rfl (r_len el_30 rfl) ?_
    refine o_v (lv rfl) rfl (r_lt rfl rfl) ?_
    refine g_if rfl (fun c1 => ?_) (fun c1 => ?_)
    ·have hkl : k < sl.length := by omega
     obtain ⟨⟨x, pv⟩, hx⟩ : ∃ x, sl[k]? = some x := ⟨_, List.getElem?_eq_getElem hkl⟩
     have hxm : (sl.map Prod.fst)[k]? = some x := by rw [List.getElem?_map, hx]; rfl
     have hpr : Rd encP pv x.ret.packets R.h := hsp _ (List.mem_of_getElem? hx)
     obtain ⟨pa, pcap, rfl, hpc⟩ := hpr.len
     obtain ⟨bp, op_, cs, T, rfl, hbp, hcp0⟩ := Rd.el hkPt hsr hx
     have hcp := dt_of hcp0
     have hcps := hcp0 0 (.int .i64 x.step) rfl
     have hcp3 := dt_of (vs := [.int .i64 x.ret.e, .slice pa x.ret.packets.length pcap, .int .i64 x.ret.n, .int .u64 x.ret.v]) (o := op_ + k * 7 + 3) (cs := cs) (fun j c hj => by
       have := hcp0 (3 + j) c (by rw [Nat.add_comm]; exact hj)
       rwa [← Nat.add_assoc] at this)
     have hco := callOf_ok hls x
     have hdo := Mdl.do_ok hmk (by omega) hco
     rw [drop_S hxm] at hpl
     refine g_skip ?_
     refine g_seq ?_
     refine g_block ?_
     refine g_seq ?_
     refine rD mixed hH fun w hH => ?_
     refine d_ldN (i := 0) [5, 10] (lv rfl) rfl lk_28 rfl (by kernel_rfl) ⟨_, _, _, hH.c1, [_, _, _, _, _, _], rfl, rfl, ?_⟩
     refine pM 1 (lv rfl) rfl rfl ?_
     refine pM 2 (lv rfl) rfl rfl ?_
     refine d_p (i := 3) (lv rfl) rfl (fun w => (r_ia el_30 rfl rfl ?_ ?_)) (by kernel_rfl) ?_; omega; omega
     refine d_ldN (i := 4) [5, 10] (lv rfl) rfl lk_59 rfl (by kernel_rfl) ⟨_, _, _, hH.old hbp, _, hcp, rfl, ?_⟩
     refine d_l2 (j := 5) (j2 := 9) (by kernel_rfl) ?_ ?_
     ·refine o_call (lv rfl) rfl en_48 rfl (r27_Call (c := c) hP (by have := hls.1; omega) x hH) ?_
      rintro _ w ⟨rfl, hH⟩
      refine ⟨(keeps_in rfl (keeps_in rfl trivial)), ?_⟩
      refine pM 6 (lv rfl) rfl rfl ?_
      refine pE 7 (lv rfl) rfl rfl rfl ?_
      refine pE 8 (lv rfl) rfl rfl rfl ?_
      refine d_l (j := 9) (by kernel_rfl) ?_
      refine o_al (lv rfl) rfl ze_46 hH ?_
      intro b7 w hH
      refine ⟨(keeps_cons (fun _ => (by exact hH.old ‹_›)) (keeps_cons (fun _ => (by exact hH.c2)) trivial)), ?_⟩
      refine d_l (j := 10) (by kernel_rfl) ?_
      refine o_st (lv rfl) rfl lk_46 rfl (vs := [_, _, _, _]) rfl rfl (by exact hH) rfl rfl (by simp) rfl ?_
      intro w hH; dsimp only [setL, List.set] at hH
      refine ⟨(keeps_in rfl (keeps_in rfl trivial)), ?_⟩
      refine pA 11 (lv rfl) rfl rfl ?_
      refine d_end (by kernel_rfl) ?_
      refine g_seq ?_
      refine rD mixed hH fun w hH => ?_
      refine pM 0 (lv rfl) rfl rfl ?_
      refine d_p (i := 1) (lv rfl) rfl (fun w => (r_not rfl)) (by kernel_rfl) ?_
      refine pM 2 (lv rfl) rfl rfl ?_
      refine s_opdb (fun g8_2 => ?_) (fun g8_2 => ?_)
      ·refine pO 3 rfl rfl rfl rfl ?_
       refine pO 4 rfl rfl rfl rfl ?_
       refine pO 5 rfl rfl rfl rfl ?_
       refine d_no2 (i := 6) rfl rfl rfl rfl (by kernel_rfl) ?_
       refine d_no2 (i := 7) rfl rfl rfl rfl (by kernel_rfl) ?_
       refine d_no2 (i := 8) rfl rfl rfl rfl (by kernel_rfl) ?_
       refine d_no2 (i := 9) rfl rfl rfl rfl (by kernel_rfl) ?_
       refine d_no2 (i := 10) rfl rfl rfl rfl (by kernel_rfl) ?_
       refine d_no2 (i := 11) rfl rfl rfl rfl (by kernel_rfl) ?_
       refine d_no2 (i := 12) rfl rfl rfl rfl (by kernel_rfl) ?_
       refine d_no2 (i := 13) rfl rfl rfl rfl (by kernel_rfl) ?_
       refine d_no2 (i := 14) rfl rfl rfl rfl (by kernel_rfl) ?_
       refine d_no2 (i := 15) rfl rfl rfl rfl (by kernel_rfl) ?_
       refine d_no2 (i := 16) rfl rfl rfl rfl (by kernel_rfl) ?_
       refine d_no2 (i := 17) rfl rfl rfl rfl (by kernel_rfl) ?_
       refine pO 18 rfl rfl rfl rfl ?_
       refine d_p (i := 19) (lv rfl) rfl (fun w => (r_pickT rfl rfl)) (by kernel_rfl) ?_
       refine pM 20 (lv rfl) rfl rfl ?_
       refine pO 21 rfl rfl rfl rfl ?_
       refine pO 22 rfl rfl rfl rfl ?_
       refine pO 23 rfl rfl rfl rfl ?_
       refine pO 24 rfl rfl rfl rfl ?_
       refine pO 25 rfl rfl rfl rfl ?_
       refine pO 26 rfl rfl rfl rfl ?_
       refine pO 27 rfl rfl rfl rfl ?_
       refine pO 28 rfl rfl rfl rfl ?_
       refine pO 29 rfl rfl rfl rfl ?_
       refine pO 30 rfl rfl rfl rfl ?_
       refine d_p (i := 31) (lv rfl) rfl (fun w => (r_pickT rfl rfl)) (by kernel_rfl) ?_
       refine d_end (by kernel_rfl) ?_
       refine g_true rfl ?_
       refine g_seq ?_
       refine g_region (l := [0]) rfl ?_
       refine vA (lv rfl) rfl rfl ?_
       refine g_rq Tryz.func20 (res_t rfl res_0) ?_
       first
       | (rw [hpl, playL_no (.inl (by simpa using g8_2))]; exact ⟨rfl, (hH.sel (by repeat' (first | exact Sel.refl _ | refine Sel.skip _ ?_)))⟩)
       | (rw [hpl, playL_no (.inr (.inl ⟨_, hla, by omega⟩))]; exact ⟨rfl, (hH.sel (by repeat' (first | exact Sel.refl _)))⟩)
       | (rw [hpl, playL_no (.inr (.inr (by simpa using c2)))]; exact ⟨rfl, (hH.sel (by repeat' (first | exact Sel.refl _)))⟩)
       | (rw [show plays c ls (sl.map Prod.fst) = some mk from by rw [hpl, List.drop_of_length_le (by simp; omega)]; rfl]
          exact ⟨_, rfl, (hH.sel (by repeat' (first | exact Sel.refl _)))⟩)
      ·refine pM 3 (lvg rfl rfl rfl) rfl rfl ?_
       refine d_p (i := 4) (lvg rfl rfl rfl) rfl (fun w => (r_gt rfl rfl)) (by kernel_rfl) ?_
       refine pM 5 (lvg rfl rfl rfl) rfl rfl ?_
       refine s_opd (fun g8_5 => ?_) (fun g8_5 => ?_)
       ·obtain ⟨⟨y, qv⟩, hy⟩ : ∃ y, sl[k - 1]? = some y := ⟨_, List.getElem?_eq_getElem (by omega)⟩
        obtain ⟨bq, oq, csq, Tq, hq1, hbq, hcq0⟩ := Rd.el hkPt hsr hy
        cases hq1
        have hcq := hcq0 0 (.int .i64 y.step) rfl
        have hk1 : k - 1 = ((k : Int) - 1).toNat := by omega
        rw [hk1] at hcq
        have hla : lastOf (sl.map Prod.fst) k = some y.step := by unfold lastOf; rw [if_neg (by omega), List.getElem?_map, hy]; rfl
        refine pM 6 (lvg rfl rfl rfl) rfl rfl ?_
        refine pM 7 (lvg rfl rfl rfl) rfl rfl ?_
        refine d_p (i := 8) (lvg rfl rfl rfl) rfl (fun w => (r_subI rfl rfl ?_)) (by kernel_rfl) ?_; omega
        refine d_p (i := 9) (lvg rfl rfl rfl) rfl (fun w => (r_ia el_30 rfl rfl ?_ ?_)) (by kernel_rfl) ?_; omega; omega
        refine pF 10 (lvg rfl rfl rfl) rfl fa_59_0 rfl ?_
        refine d_ld (i := 11) [23, 29] (lvg rfl rfl rfl) rfl lk_3 rfl (by kernel_rfl) ⟨_, _, _, hH.old hbq, _, hcq, ?_⟩
        refine pM 12 (lvg rfl rfl rfl) rfl rfl ?_
        refine pM 13 (lvg rfl rfl rfl) rfl rfl ?_
        refine d_p (i := 14) (lvg rfl rfl rfl) rfl (fun w => (r_ia el_30 rfl rfl ?_ ?_)) (by kernel_rfl) ?_; omega; omega
        refine pF 15 (lvg rfl rfl rfl) rfl fa_59_0 rfl ?_
        refine d_ld (i := 16) [23, 29] (lvg rfl rfl rfl) rfl lk_3 rfl (by kernel_rfl) ⟨_, _, _, hH.old hbp, _, hcps, ?_⟩
        refine d_p (i := 17) (lvg rfl rfl rfl) rfl (fun w => (r_ge rfl rfl)) (by kernel_rfl) ?_
        refine d_p (i := 18) (lvg rfl rfl rfl) rfl (fun w => (r_pickT rfl rfl)) (by kernel_rfl) ?_
        refine d_p (i := 19) (lv rfl) rfl (fun w => (r_pickF rfl rfl)) (by kernel_rfl) ?_
        refine pM 20 (lv rfl) rfl rfl ?_
        refine s_opd (fun g8_20 => ?_) (fun g8_20 => ?_)
        ·refine pO 21 rfl rfl rfl rfl ?_
         refine pO 22 rfl rfl rfl rfl ?_
         refine pO 23 rfl rfl rfl rfl ?_
         refine pO 24 rfl rfl rfl rfl ?_
         refine pO 25 rfl rfl rfl rfl ?_
         refine pO 26 rfl rfl rfl rfl ?_
         refine pO 27 rfl rfl rfl rfl ?_
         refine pO 28 rfl rfl rfl rfl ?_
         refine pO 29 rfl rfl rfl rfl ?_
         refine pO 30 rfl rfl rfl rfl ?_
         refine d_p (i := 31) (lv rfl) rfl (fun w => (r_pickT rfl rfl)) (by kernel_rfl) ?_
         refine d_end (by kernel_rfl) ?_
         refine g_true rfl ?_
         refine g_seq ?_
         refine g_region (l := [0]) rfl ?_
         refine vA (lv rfl) rfl rfl ?_
         refine g_rq Tryz.func20 (res_t rfl res_0) ?_
         first
         | (rw [hpl, playL_no (.inl (by simpa using g8_2))]; exact ⟨rfl, (hH.sel (by repeat' (first | exact Sel.refl _)))⟩)
         | (rw [hpl, playL_no (.inr (.inl ⟨_, hla, by omega⟩))]; exact ⟨rfl, (hH.sel (by repeat' (first | exact Sel.refl _ | refine Sel.skip _ ?_)))⟩)
         | (rw [hpl, playL_no (.inr (.inr (by simpa using c2)))]; exact ⟨rfl, (hH.sel (by repeat' (first | exact Sel.refl _)))⟩)
         | (rw [show plays c ls (sl.map Prod.fst) = some mk from by rw [hpl, List.drop_of_length_le (by simp; omega)]; rfl]
            exact ⟨_, rfl, (hH.sel (by repeat' (first | exact Sel.refl _)))⟩)
        ·refine pM 21 (lvg rfl rfl rfl) rfl rfl ?_
         refine d_ldN (i := 22) [23, 29] (lvg rfl rfl rfl) rfl lk_46 rfl (by kernel_rfl) ⟨_, _, _, hH.c0, [_, _, _, _], rfl, rfl, ?_⟩
         refine pM 24 (lvg rfl rfl rfl) rfl rfl ?_
         refine pM 25 (lvg rfl rfl rfl) rfl rfl ?_
         refine d_p (i := 26) (lvg rfl rfl rfl) rfl (fun w => (r_ia el_30 rfl rfl ?_ ?_)) (by kernel_rfl) ?_; omega; omega
         refine pF 27 (lvg rfl rfl rfl) rfl fa_59_3 rfl ?_
         refine d_ldN (i := 28) [29] (lvg rfl rfl rfl) rfl lk_57 rfl (by kernel_rfl) ⟨_, _, _, hH.old hbp, _, hcp3, rfl, ?_⟩
         refine d_l (j := 23) (by kernel_rfl) ?_
         refine o_call (lvg rfl rfl rfl) rfl en_43 rfl (r09_Do hmk.1 hmk.2.1 (by have := hmk.2.2.1; omega) ⟨hmk.2.2.2.1, by have := hmk.2.2.2.2; omega⟩ _ hco (by exact hH.p1)) ?_
         rintro _ w ⟨pv2, rfl, hH⟩
         obtain ⟨pa2, pcap2, rfl, -⟩ := hH.rd.len
         refine ⟨(keeps_cons (fun _ => by first | exact hH.c0 | exact hH.c1 | exact hH.c2 | exact hH.c3 | exact hH.c4 | exact hH.old hbp | exact hH.old hbq) (keeps_in rfl (keeps_in rfl (keeps_in rfl trivial)))), ?_⟩
         refine d_l (j := 29) (by kernel_rfl) ?_
         refine o_call (lvg rfl rfl rfl) rfl en_54 rfl (help_Ret (R := baseOf w) (F := []) hH.rd (Rd.up _ _ hpr hH.ro) hdo.2.1.2.2.2.2 (holds_start w)) ?_
         rintro _ w ⟨rfl, hH2⟩
         replace hH := hH.merge hH2
         refine ⟨(keeps_in rfl (keeps_in rfl (keeps_in rfl (keeps_in rfl trivial)))), ?_⟩
         refine d_p (i := 30) (lvg rfl rfl rfl) rfl (fun w => (r_notD rfl)) (by kernel_rfl) ?_
         refine d_p (i := 31) (lv rfl) rfl (fun w => (r_pickF rfl rfl)) (by kernel_rfl) ?_
         refine d_end (by kernel_rfl) ?_
         refine g_if rfl (fun c2 => ?_) (fun c2 => ?_)
         ·refine g_seq ?_
          refine g_region (l := [0]) rfl ?_
          refine vA (lv rfl) rfl rfl ?_
          refine g_rq Tryz.func20 (res_t rfl res_0) ?_
          first
          | (rw [hpl, playL_no (.inl (by simpa using g8_2))]; exact ⟨rfl, (hH.sel (by repeat' (first | exact Sel.refl _)))⟩)
          | (rw [hpl, playL_no (.inr (.inl ⟨_, hla, by omega⟩))]; exact ⟨rfl, (hH.sel (by repeat' (first | exact Sel.refl _)))⟩)
          | (rw [hpl, playL_no (.inr (.inr (by simpa using c2)))]; exact ⟨rfl, (hH.sel (by repeat' (first | exact Sel.refl _ | refine Sel.skip _ ?_)))⟩)
          | (rw [show plays c ls (sl.map Prod.fst) = some mk from by rw [hpl, List.drop_of_length_le (by simp; omega)]; rfl]
             exact ⟨_, rfl, (hH.sel (by repeat' (first | exact Sel.refl _)))⟩)
         ·refine g_skip ?_
          refine g_inBlock ?_
          refine g_region (l := [0, 1, 2]) rfl ?_
          refine vM (lv rfl) rfl rfl ?_
          refine o_v (lv rfl) rfl (r_addI rfl rfl ?_) ?_; omega
          refine vA (lv rfl) rfl rfl ?_
          have hnl : ¬ tooLate (lastOf (sl.map Prod.fst) k) x := by
            rw [hla]; rintro ⟨s, h1, h2⟩; first | (cases h1; done) | (cases h1; omega)
          have hst := playL_yes (ls := ls) (x := x) (l := (sl.map Prod.fst).drop (k + 1)) (m := mk) (by simpa using g8_2) hnl (by simpa using c2)
          rw [hst, ← lastOf_S hxm] at hpl
          exact hback _ _ _ ⟨k + 1, _, _, by omega, rfl, hdo.1, hpl, (J_self (has_s rfl (has_s rfl (has_s rfl (has_s rfl has_0))))), (hH.sel (by repeat' (first | exact Sel.refl _ | refine Sel.q1 ?_ | refine Sel.q2 ?_ | refine Sel.skip _ ?_)))⟩ (by omega)
       ·have hla : lastOf (sl.map Prod.fst) k = none := by unfold lastOf; rw [if_pos (by omega)]
        refine pO 6 rfl rfl rfl rfl ?_
        refine pO 7 rfl rfl rfl rfl ?_
        refine pO 8 rfl rfl rfl rfl ?_
        refine pO 9 rfl rfl rfl rfl ?_
        refine pO 10 rfl rfl rfl rfl ?_
        refine pO 11 rfl rfl rfl rfl ?_
        refine pO 12 rfl rfl rfl rfl ?_
        refine pO 13 rfl rfl rfl rfl ?_
        refine pO 14 rfl rfl rfl rfl ?_
        refine pO 15 rfl rfl rfl rfl ?_
        refine pO 16 rfl rfl rfl rfl ?_
        refine pO 17 rfl rfl rfl rfl ?_
        refine d_p (i := 18) (lvg rfl rfl rfl) rfl (fun w => (r_pickF rfl rfl)) (by kernel_rfl) ?_
        refine d_p (i := 19) (lv rfl) rfl (fun w => (r_pickF rfl rfl)) (by kernel_rfl) ?_
        refine pM 20 (lv rfl) rfl rfl ?_
        refine pM 21 (lvg rfl rfl rfl) rfl rfl ?_
        refine d_ldN (i := 22) [23, 29] (lvg rfl rfl rfl) rfl lk_46 rfl (by kernel_rfl) ⟨_, _, _, hH.c0, [_, _, _, _], rfl, rfl, ?_⟩
        refine pM 24 (lvg rfl rfl rfl) rfl rfl ?_
        refine pM 25 (lvg rfl rfl rfl) rfl rfl ?_
        refine d_p (i := 26) (lvg rfl rfl rfl) rfl (fun w => (r_ia el_30 rfl rfl ?_ ?_)) (by kernel_rfl) ?_; omega; omega
        refine pF 27 (lvg rfl rfl rfl) rfl fa_59_3 rfl ?_
        refine d_ldN (i := 28) [29] (lvg rfl rfl rfl) rfl lk_57 rfl (by kernel_rfl) ⟨_, _, _, hH.old hbp, _, hcp3, rfl, ?_⟩
        refine d_l (j := 23) (by kernel_rfl) ?_
        refine o_call (lvg rfl rfl rfl) rfl en_43 rfl (r09_Do hmk.1 hmk.2.1 (by have := hmk.2.2.1; omega) ⟨hmk.2.2.2.1, by have := hmk.2.2.2.2; omega⟩ _ hco (by exact hH.p1)) ?_
        rintro _ w ⟨pv2, rfl, hH⟩
        obtain ⟨pa2, pcap2, rfl, -⟩ := hH.rd.len
        refine ⟨(keeps_cons (fun _ => by first | exact hH.c0 | exact hH.c1 | exact hH.c2 | exact hH.c3 | exact hH.c4 | exact hH.old hbp | exact hH.old hbq) (keeps_in rfl trivial)), ?_⟩
        refine d_l (j := 29) (by kernel_rfl) ?_
        refine o_call (lvg rfl rfl rfl) rfl en_54 rfl (help_Ret (R := baseOf w) (F := []) hH.rd (Rd.up _ _ hpr hH.ro) hdo.2.1.2.2.2.2 (holds_start w)) ?_
        rintro _ w ⟨rfl, hH2⟩
        replace hH := hH.merge hH2
        refine ⟨(keeps_in rfl (keeps_in rfl trivial)), ?_⟩
        refine d_p (i := 30) (lvg rfl rfl rfl) rfl (fun w => (r_notD rfl)) (by kernel_rfl) ?_
        refine d_p (i := 31) (lv rfl) rfl (fun w => (r_pickF rfl rfl)) (by kernel_rfl) ?_
        refine d_end (by kernel_rfl) ?_
        refine g_if rfl (fun c2 => ?_) (fun c2 => ?_)
        ·refine g_seq ?_
         refine g_region (l := [0]) rfl ?_
         refine vA (lv rfl) rfl rfl ?_
         refine g_rq Tryz.func20 (res_t rfl res_0) ?_
         first
         | (rw [hpl, playL_no (.inl (by simpa using g8_2))]; exact ⟨rfl, (hH.sel (by repeat' (first | exact Sel.refl _)))⟩)
         | (rw [hpl, playL_no (.inr (.inl ⟨_, hla, by omega⟩))]; exact ⟨rfl, (hH.sel (by repeat' (first | exact Sel.refl _)))⟩)
         | (rw [hpl, playL_no (.inr (.inr (by simpa using c2)))]; exact ⟨rfl, (hH.sel (by repeat' (first | exact Sel.refl _ | refine Sel.skip _ ?_)))⟩)
         | (rw [show plays c ls (sl.map Prod.fst) = some mk from by rw [hpl, List.drop_of_length_le (by simp; omega)]; rfl]
            exact ⟨_, rfl, (hH.sel (by repeat' (first | exact Sel.refl _)))⟩)
        ·refine g_skip ?_
         refine g_inBlock ?_
         refine g_region (l := [0, 1, 2]) rfl ?_
         refine vM (lv rfl) rfl rfl ?_
         refine o_v (lv rfl) rfl (r_addI rfl rfl ?_) ?_; omega
         refine vA (lv rfl) rfl rfl ?_
         have hnl : ¬ tooLate (lastOf (sl.map Prod.fst) k) x := by
           rw [hla]; rintro ⟨s, h1, h2⟩; first | (cases h1; done) | (cases h1; omega)
         have hst := playL_yes (ls := ls) (x := x) (l := (sl.map Prod.fst).drop (k + 1)) (m := mk) (by simpa using g8_2) hnl (by simpa using c2)
         rw [hst, ← lastOf_S hxm] at hpl
         exact hback _ _ _ ⟨k + 1, _, _, by omega, rfl, hdo.1, hpl, (J_self (has_s rfl (has_s rfl (has_s rfl (has_s rfl has_0))))), (hH.sel (by repeat' (first | exact Sel.refl _ | refine Sel.q1 ?_ | refine Sel.q2 ?_ | refine Sel.skip _ ?_)))⟩ (by omega)
     ·refine o_al (lv rfl) rfl ze_46 hH ?_
      intro b7 w hH
      refine ⟨(keeps_cons (fun _ => (by exact hH.old ‹_›)) (keeps_cons (fun _ => (by exact hH.c2)) trivial)), ?_⟩
      refine d_l (j := 5) (by kernel_rfl) ?_
      refine o_call (lv rfl) rfl en_48 rfl (r27_Call (c := c) hP (by have := hls.1; omega) x hH) ?_
      rintro _ w ⟨rfl, hH⟩
      refine ⟨(keeps_in rfl (keeps_in rfl trivial)), ?_⟩
      refine pM 6 (lv rfl) rfl rfl ?_
      refine pE 7 (lv rfl) rfl rfl rfl ?_
      refine pE 8 (lv rfl) rfl rfl rfl ?_
      refine d_l (j := 10) (by kernel_rfl) ?_
      refine o_st (lv rfl) rfl lk_46 rfl (vs := [_, _, _, _]) rfl rfl (by exact hH) rfl rfl (by simp) rfl ?_
      intro w hH; dsimp only [setL, List.set] at hH
      refine ⟨(keeps_in rfl (keeps_in rfl trivial)), ?_⟩
      refine pA 11 (lv rfl) rfl rfl ?_
      refine d_end (by kernel_rfl) ?_
      refine g_seq ?_
      refine rD mixed hH fun w hH => ?_
      refine pM 0 (lv rfl) rfl rfl ?_
      refine d_p (i := 1) (lv rfl) rfl (fun w => (r_not rfl)) (by kernel_rfl) ?_
      refine pM 2 (lv rfl) rfl rfl ?_
      refine s_opdb (fun g8_2 => ?_) (fun g8_2 => ?_)
      ·refine pO 3 rfl rfl rfl rfl ?_
       refine pO 4 rfl rfl rfl rfl ?_
       refine pO 5 rfl rfl rfl rfl ?_
       refine d_no2 (i := 6) rfl rfl rfl rfl (by kernel_rfl) ?_
       refine d_no2 (i := 7) rfl rfl rfl rfl (by kernel_rfl) ?_
       refine d_no2 (i := 8) rfl rfl rfl rfl (by kernel_rfl) ?_
       refine d_no2 (i := 9) rfl rfl rfl rfl (by kernel_rfl) ?_
       refine d_no2 (i := 10) rfl rfl rfl rfl (by kernel_rfl) ?_
       refine d_no2 (i := 11) rfl rfl rfl rfl (by kernel_rfl) ?_
       refine d_no2 (i := 12) rfl rfl rfl rfl (by kernel_rfl) ?_
       refine d_no2 (i := 13) rfl rfl rfl rfl (by kernel_rfl) ?_
       refine d_no2 (i := 14) rfl rfl rfl rfl (by kernel_rfl) ?_
       refine d_no2 (i := 15) rfl rfl rfl rfl (by kernel_rfl) ?_
       refine d_no2 (i := 16) rfl rfl rfl rfl (by kernel_rfl) ?_
       refine d_no2 (i := 17) rfl rfl rfl rfl (by kernel_rfl) ?_
       refine pO 18 rfl rfl rfl rfl ?_
       refine d_p (i := 19) (lv rfl) rfl (fun w => (r_pickT rfl rfl)) (by kernel_rfl) ?_
       refine pM 20 (lv rfl) rfl rfl ?_
       refine pO 21 rfl rfl rfl rfl ?_
       refine pO 22 rfl rfl rfl rfl ?_
       refine pO 23 rfl rfl rfl rfl ?_
       refine pO 24 rfl rfl rfl rfl ?_
       refine pO 25 rfl rfl rfl rfl ?_
       refine pO 26 rfl rfl rfl rfl ?_
       refine pO 27 rfl rfl rfl rfl ?_
       refine pO 28 rfl rfl rfl rfl ?_
       refine pO 29 rfl rfl rfl rfl ?_
       refine pO 30 rfl rfl rfl rfl ?_
       refine d_p (i := 31) (lv rfl) rfl (fun w => (r_pickT rfl rfl)) (by kernel_rfl) ?_
       refine d_end (by kernel_rfl) ?_
       refine g_true rfl ?_
       refine g_seq ?_
       refine g_region (l := [0]) rfl ?_
       refine vA (lv rfl) rfl rfl ?_
       refine g_rq Tryz.func20 (res_t rfl res_0) ?_
       first
       | (rw [hpl, playL_no (.inl (by simpa using g8_2))]; exact ⟨rfl, (hH.sel (by repeat' (first | exact Sel.refl _ | refine Sel.skip _ ?_)))⟩)
       | (rw [hpl, playL_no (.inr (.inl ⟨_, hla, by omega⟩))]; exact ⟨rfl, (hH.sel (by repeat' (first | exact Sel.refl _)))⟩)
       | (rw [hpl, playL_no (.inr (.inr (by simpa using c2)))]; exact ⟨rfl, (hH.sel (by repeat' (first | exact Sel.refl _)))⟩)
       | (rw [show plays c ls (sl.map Prod.fst) = some mk from by rw [hpl, List.drop_of_length_le (by simp; omega)]; rfl]
          exact ⟨_, rfl, (hH.sel (by repeat' (first | exact Sel.refl _)))⟩)
      ·refine pM 3 (lvg rfl rfl rfl) rfl rfl ?_
       refine d_p (i := 4) (lvg rfl rfl rfl) rfl (fun w => (r_gt rfl rfl)) (by kernel_rfl) ?_
       refine pM 5 (lvg rfl rfl rfl) rfl rfl ?_
       refine s_opd (fun g8_5 => ?_) (fun g8_5 => ?_)
       ·obtain ⟨⟨y, qv⟩, hy⟩ : ∃ y, sl[k - 1]? = some y := ⟨_, List.getElem?_eq_getElem (by omega)⟩
        obtain ⟨bq, oq, csq, Tq, hq1, hbq, hcq0⟩ := Rd.el hkPt hsr hy
        cases hq1
        have hcq := hcq0 0 (.int .i64 y.step) rfl
        have hk1 : k - 1 = ((k : Int) - 1).toNat := by omega
        rw [hk1] at hcq
        have hla : lastOf (sl.map Prod.fst) k = some y.step := by unfold lastOf; rw [if_neg (by omega), List.getElem?_map, hy]; rfl
        refine pM 6 (lvg rfl rfl rfl) rfl rfl ?_
        refine pM 7 (lvg rfl rfl rfl) rfl rfl ?_
        refine d_p (i := 8) (lvg rfl rfl rfl) rfl (fun w => (r_subI rfl rfl ?_)) (by kernel_rfl) ?_; omega
        refine d_p (i := 9) (lvg rfl rfl rfl) rfl (fun w => (r_ia el_30 rfl rfl ?_ ?_)) (by kernel_rfl) ?_; omega; omega
        refine pF 10 (lvg rfl rfl rfl) rfl fa_59_0 rfl ?_
        refine d_ld (i := 11) [23, 29] (lvg rfl rfl rfl) rfl lk_3 rfl (by kernel_rfl) ⟨_, _, _, hH.old hbq, _, hcq, ?_⟩
        refine pM 12 (lvg rfl rfl rfl) rfl rfl ?_
        refine pM 13 (lvg rfl rfl rfl) rfl rfl ?_
        refine d_p (i := 14) (lvg rfl rfl rfl) rfl (fun w => (r_ia el_30 rfl rfl ?_ ?_)) (by kernel_rfl) ?_; omega; omega
        refine pF 15 (lvg rfl rfl rfl) rfl fa_59_0 rfl ?_
        refine d_ld (i := 16) [23, 29] (lvg rfl rfl rfl) rfl lk_3 rfl (by kernel_rfl) ⟨_, _, _, hH.old hbp, _, hcps, ?_⟩
        refine d_p (i := 17) (lvg rfl rfl rfl) rfl (fun w => (r_ge rfl rfl)) (by kernel_rfl) ?_
        refine d_p (i := 18) (lvg rfl rfl rfl) rfl (fun w => (r_pickT rfl rfl)) (by kernel_rfl) ?_
        refine d_p (i := 19) (lv rfl) rfl (fun w => (r_pickF rfl rfl)) (by kernel_rfl) ?_
        refine pM 20 (lv rfl) rfl rfl ?_
        refine s_opd (fun g8_20 => ?_) (fun g8_20 => ?_)
        ·refine pO 21 rfl rfl rfl rfl ?_
         refine pO 22 rfl rfl rfl rfl ?_
         refine pO 23 rfl rfl rfl rfl ?_
         refine pO 24 rfl rfl rfl rfl ?_
         refine pO 25 rfl rfl rfl rfl ?_
         refine pO 26 rfl rfl rfl rfl ?_
         refine pO 27 rfl rfl rfl rfl ?_
         refine pO 28 rfl rfl rfl rfl ?_
         refine pO 29 rfl rfl rfl rfl ?_
         refine pO 30 rfl rfl rfl rfl ?_
         refine d_p (i := 31) (lv rfl) rfl (fun w => (r_pickT rfl rfl)) (by kernel_rfl) ?_
         refine d_end (by kernel_rfl) ?_
         refine g_true rfl ?_
         refine g_seq ?_
         refine g_region (l := [0]) rfl ?_
         refine vA (lv rfl) rfl rfl ?_
         refine g_rq Tryz.func20 (res_t rfl res_0) ?_
         first
         | (rw [hpl, playL_no (.inl (by simpa using g8_2))]; exact ⟨rfl, (hH.sel (by repeat' (first | exact Sel.refl _)))⟩)
         | (rw [hpl, playL_no (.inr (.inl ⟨_, hla, by omega⟩))]; exact ⟨rfl, (hH.sel (by repeat' (first | exact Sel.refl _ | refine Sel.skip _ ?_)))⟩)
         | (rw [hpl, playL_no (.inr (.inr (by simpa using c2)))]; exact ⟨rfl, (hH.sel (by repeat' (first | exact Sel.refl _)))⟩)
         | (rw [show plays c ls (sl.map Prod.fst) = some mk from by rw [hpl, List.drop_of_length_le (by simp; omega)]; rfl]
            exact ⟨_, rfl, (hH.sel (by repeat' (first | exact Sel.refl _)))⟩)
        ·refine pM 21 (lvg rfl rfl rfl) rfl rfl ?_
         refine d_ldN (i := 22) [23, 29] (lvg rfl rfl rfl) rfl lk_46 rfl (by kernel_rfl) ⟨_, _, _, hH.c0, [_, _, _, _], rfl, rfl, ?_⟩
         refine pM 24 (lvg rfl rfl rfl) rfl rfl ?_
         refine pM 25 (lvg rfl rfl rfl) rfl rfl ?_
         refine d_p (i := 26) (lvg rfl rfl rfl) rfl (fun w => (r_ia el_30 rfl rfl ?_ ?_)) (by kernel_rfl) ?_; omega; omega
         refine pF 27 (lvg rfl rfl rfl) rfl fa_59_3 rfl ?_
         refine d_ldN (i := 28) [29] (lvg rfl rfl rfl) rfl lk_57 rfl (by kernel_rfl) ⟨_, _, _, hH.old hbp, _, hcp3, rfl, ?_⟩
         refine d_l (j := 23) (by kernel_rfl) ?_
         refine o_call (lvg rfl rfl rfl) rfl en_43 rfl (r09_Do hmk.1 hmk.2.1 (by have := hmk.2.2.1; omega) ⟨hmk.2.2.2.1, by have := hmk.2.2.2.2; omega⟩ _ hco (by exact hH.p1)) ?_
         rintro _ w ⟨pv2, rfl, hH⟩
         obtain ⟨pa2, pcap2, rfl, -⟩ := hH.rd.len
         refine ⟨(keeps_cons (fun _ => by first | exact hH.c0 | exact hH.c1 | exact hH.c2 | exact hH.c3 | exact hH.c4 | exact hH.old hbp | exact hH.old hbq) (keeps_in rfl (keeps_in rfl (keeps_in rfl trivial)))), ?_⟩
         refine d_l (j := 29) (by kernel_rfl) ?_
         refine o_call (lvg rfl rfl rfl) rfl en_54 rfl (help_Ret (R := baseOf w) (F := []) hH.rd (Rd.up _ _ hpr hH.ro) hdo.2.1.2.2.2.2 (holds_start w)) ?_
         rintro _ w ⟨rfl, hH2⟩
         replace hH := hH.merge hH2
         refine ⟨(keeps_in rfl (keeps_in rfl (keeps_in rfl (keeps_in rfl trivial)))), ?_⟩
         refine d_p (i := 30) (lvg rfl rfl rfl) rfl (fun w => (r_notD rfl)) (by kernel_rfl) ?_
         refine d_p (i := 31) (lv rfl) rfl (fun w => (r_pickF rfl rfl)) (by kernel_rfl) ?_
         refine d_end (by kernel_rfl) ?_
         refine g_if rfl (fun c2 => ?_) (fun c2 => ?_)
         ·refine g_seq ?_
          refine g_region (l := [0]) rfl ?_
          refine vA (lv rfl) rfl rfl ?_
          refine g_rq Tryz.func20 (res_t rfl res_0) ?_
          first
          | (rw [hpl, playL_no (.inl (by simpa using g8_2))]; exact ⟨rfl, (hH.sel (by repeat' (first | exact Sel.refl _)))⟩)
          | (rw [hpl, playL_no (.inr (.inl ⟨_, hla, by omega⟩))]; exact ⟨rfl, (hH.sel (by repeat' (first | exact Sel.refl _)))⟩)
          | (rw [hpl, playL_no (.inr (.inr (by simpa using c2)))]; exact ⟨rfl, (hH.sel (by repeat' (first | exact Sel.refl _ | refine Sel.skip _ ?_)))⟩)
          | (rw [show plays c ls (sl.map Prod.fst) = some mk from by rw [hpl, List.drop_of_length_le (by simp; omega)]; rfl]
             exact ⟨_, rfl, (hH.sel (by repeat' (first | exact Sel.refl _)))⟩)
         ·refine g_skip ?_
          refine g_inBlock ?_
          refine g_region (l := [0, 1, 2]) rfl ?_
          refine vM (lv rfl) rfl rfl ?_
          refine o_v (lv rfl) rfl (r_addI rfl rfl ?_) ?_; omega
          refine vA (lv rfl) rfl rfl ?_
          have hnl : ¬ tooLate (lastOf (sl.map Prod.fst) k) x := by
            rw [hla]; rintro ⟨s, h1, h2⟩; first | (cases h1; done) | (cases h1; omega)
          have hst := playL_yes (ls := ls) (x := x) (l := (sl.map Prod.fst).drop (k + 1)) (m := mk) (by simpa using g8_2) hnl (by simpa using c2)
          rw [hst, ← lastOf_S hxm] at hpl
          exact hback _ _ _ ⟨k + 1, _, _, by omega, rfl, hdo.1, hpl, (J_self (has_s rfl (has_s rfl (has_s rfl (has_s rfl has_0))))), (hH.sel (by repeat' (first | exact Sel.refl _ | refine Sel.q1 ?_ | refine Sel.q2 ?_ | refine Sel.skip _ ?_)))⟩ (by omega)
       ·have hla : lastOf (sl.map Prod.fst) k = none := by unfold lastOf; rw [if_pos (by omega)]
        refine pO 6 rfl rfl rfl rfl ?_
        refine pO 7 rfl rfl rfl rfl ?_
        refine pO 8 rfl rfl rfl rfl ?_
        refine pO 9 rfl rfl rfl rfl ?_
        refine pO 10 rfl rfl rfl rfl ?_
        refine pO 11 rfl rfl rfl rfl ?_
        refine pO 12 rfl rfl rfl rfl ?_
        refine pO 13 rfl rfl rfl rfl ?_
        refine pO 14 rfl rfl rfl rfl ?_
        refine pO 15 rfl rfl rfl rfl ?_
        refine pO 16 rfl rfl rfl rfl ?_
        refine pO 17 rfl rfl rfl rfl ?_
        refine d_p (i := 18) (lvg rfl rfl rfl) rfl (fun w => (r_pickF rfl rfl)) (by kernel_rfl) ?_
        refine d_p (i := 19) (lv rfl) rfl (fun w => (r_pickF rfl rfl)) (by kernel_rfl) ?_
        refine pM 20 (lv rfl) rfl rfl ?_
        refine pM 21 (lvg rfl rfl rfl) rfl rfl ?_
        refine d_ldN (i := 22) [23, 29] (lvg rfl rfl rfl) rfl lk_46 rfl (by kernel_rfl) ⟨_, _, _, hH.c0, [_, _, _, _], rfl, rfl, ?_⟩
        refine pM 24 (lvg rfl rfl rfl) rfl rfl ?_
        refine pM 25 (lvg rfl rfl rfl) rfl rfl ?_
        refine d_p (i := 26) (lvg rfl rfl rfl) rfl (fun w => (r_ia el_30 rfl rfl ?_ ?_)) (by kernel_rfl) ?_; omega; omega
        refine pF 27 (lvg rfl rfl rfl) rfl fa_59_3 rfl ?_
        refine d_ldN (i := 28) [29] (lvg rfl rfl rfl) rfl lk_57 rfl (by kernel_rfl) ⟨_, _, _, hH.old hbp, _, hcp3, rfl, ?_⟩
        refine d_l (j := 23) (by kernel_rfl) ?_
        refine o_call (lvg rfl rfl rfl) rfl en_43 rfl (r09_Do hmk.1 hmk.2.1 (by have := hmk.2.2.1; omega) ⟨hmk.2.2.2.1, by have := hmk.2.2.2.2; omega⟩ _ hco (by exact hH.p1)) ?_
        rintro _ w ⟨pv2, rfl, hH⟩
        obtain ⟨pa2, pcap2, rfl, -⟩ := hH.rd.len
        refine ⟨(keeps_cons (fun _ => by first | exact hH.c0 | exact hH.c1 | exact hH.c2 | exact hH.c3 | exact hH.c4 | exact hH.old hbp | exact hH.old hbq) (keeps_in rfl trivial)), ?_⟩
        refine d_l (j := 29) (by kernel_rfl) ?_
        refine o_call (lvg rfl rfl rfl) rfl en_54 rfl (help_Ret (R := baseOf w) (F := []) hH.rd (Rd.up _ _ hpr hH.ro) hdo.2.1.2.2.2.2 (holds_start w)) ?_
        rintro _ w ⟨rfl, hH2⟩
        replace hH := hH.merge hH2
        refine ⟨(keeps_in rfl (keeps_in rfl trivial)), ?_⟩
        refine d_p (i := 30) (lvg rfl rfl rfl) rfl (fun w => (r_notD rfl)) (by kernel_rfl) ?_
        refine d_p (i := 31) (lv rfl) rfl (fun w => (r_pickF rfl rfl)) (by kernel_rfl) ?_
        refine d_end (by kernel_rfl) ?_
        refine g_if rfl (fun c2 => ?_) (fun c2 => ?_)
        ·refine g_seq ?_
         refine g_region (l := [0]) rfl ?_
         refine vA (lv rfl) rfl rfl ?_
         refine g_rq Tryz.func20 (res_t rfl res_0) ?_
         first
         | (rw [hpl, playL_no (.inl (by simpa using g8_2))]; exact ⟨rfl, (hH.sel (by repeat' (first | exact Sel.refl _)))⟩)
         | (rw [hpl, playL_no (.inr (.inl ⟨_, hla, by omega⟩))]; exact ⟨rfl, (hH.sel (by repeat' (first | exact Sel.refl _)))⟩)
         | (rw [hpl, playL_no (.inr (.inr (by simpa using c2)))]; exact ⟨rfl, (hH.sel (by repeat' (first | exact Sel.refl _ | refine Sel.skip _ ?_)))⟩)
         | (rw [show plays c ls (sl.map Prod.fst) = some mk from by rw [hpl, List.drop_of_length_le (by simp; omega)]; rfl]
            exact ⟨_, rfl, (hH.sel (by repeat' (first | exact Sel.refl _)))⟩)
        ·refine g_skip ?_
         refine g_inBlock ?_
         refine g_region (l := [0, 1, 2]) rfl ?_
         refine vM (lv rfl) rfl rfl ?_
         refine o_v (lv rfl) rfl (r_addI rfl rfl ?_) ?_; omega
         refine vA (lv rfl) rfl rfl ?_
         have hnl : ¬ tooLate (lastOf (sl.map Prod.fst) k) x := by
           rw [hla]; rintro ⟨s, h1, h2⟩; first | (cases h1; done) | (cases h1; omega)
         have hst := playL_yes (ls := ls) (x := x) (l := (sl.map Prod.fst).drop (k + 1)) (m := mk) (by simpa using g8_2) hnl (by simpa using c2)
         rw [hst, ← lastOf_S hxm] at hpl
         exact hback _ _ _ ⟨k + 1, _, _, by omega, rfl, hdo.1, hpl, (J_self (has_s rfl (has_s rfl (has_s rfl (has_s rfl has_0))))), (hH.sel (by repeat' (first | exact Sel.refl _ | refine Sel.q1 ?_ | refine Sel.q2 ?_ | refine Sel.skip _ ?_)))⟩ (by omega)
    ·refine g_exit rfl ?_
     refine g_seq ?_
     refine g_region (l := [0, 1]) rfl ?_
     refine vM (lv rfl) rfl rfl ?_
     refine vA (lv rfl) rfl rfl ?_
     refine g_rq Tryz.func20 (res_t rfl res_0) ?_
     first
     | (rw [hpl, playL_no (.inl (by simpa using g8_2))]; exact ⟨rfl, (hH.sel (by repeat' (first | exact Sel.refl _)))⟩)
     | (rw [hpl, playL_no (.inr (.inl ⟨_, hla, by omega⟩))]; exact ⟨rfl, (hH.sel (by repeat' (first | exact Sel.refl _)))⟩)
     | (rw [hpl, playL_no (.inr (.inr (by simpa using c2)))]; exact ⟨rfl, (hH.sel (by repeat' (first | exact Sel.refl _)))⟩)
     | (rw [show plays c ls (sl.map Prod.fst) = some mk from by rw [hpl, List.drop_of_length_le (by simp; omega)]; rfl]
        exact ⟨_, rfl, (hH.sel (by repeat' (first | exact Sel.refl _ | refine Sel.q0 ?_ | refine Sel.skip _ ?_)))⟩)
  ·rw [show plays c ls (sl.map Prod.fst) = none from by unfold plays; rw [if_neg hcfg]]
   refine ret_of_g (n := 64) Tryz.func20 rfl rfl (by simp) ?_
   refine g_seq ?_
   refine g_region (l := [0, 1]) rfl ?_
   refine o_box (lv rfl) rfl (cs := [_, _, _, _, _, _]) rfl rfl hH ?_
   intro b2 w hH
   refine vA (lv rfl) rfl rfl ?_
   refine g_seq ?_
   refine g_seq ?_
   refine g_region (l := [0, 1, 2, 3]) rfl ?_
   refine o_v (lv rfl) rfl (r_fa fa_28_0 rfl) ?_
   refine o_ldN (lv rfl) rfl lk_24 rfl ⟨_, _, _, hH.c0, [_, _, _, _, _], rfl, rfl, ?_⟩
   refine o_call (lv rfl) rfl en_53 rfl (r09_Right c hH) ?_
   rintro _ w ⟨rfl, hH⟩
   refine o_v (lv rfl) rfl (r_notD rfl) ?_
   refine g_if rfl (fun c0 => ?_) (fun c0 => ?_)
   ·refine g_seq ?_
    refine g_region (l := [0]) rfl ?_
    refine vA (lv rfl) rfl rfl ?_
    refine g_rq Tryz.func20 (res_t rfl res_0) ?_
    exact ⟨rfl, (hH.sel (by repeat' (first | exact Sel.refl _ | refine Sel.skip _ ?_)))⟩
   ·simp [hcfg] at c0
end
end Go.Proofs.YtkdbglfdgeldpaaGreat
