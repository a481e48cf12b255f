/- Contract of package law28: FairWays answers true. Condition: the input is only read. -/
import Derived.Test.YtkdbglfdgeldpaaGreatPre
namespace Go.Proofs.YtkdbglfdgeldpaaGreat
open Go.Lt
def SlA (v : Value) : Prop := ∃ a n c, v = .slice a n c
section
variable {R : Base} {F : List HP} {w : World}
theorem law28_cheap {c : Config} {lsv xv : Value} {ls : List (List Call)} {l : List Point} (hsv : SlA lsv) (hP : RLists lsv ls R.h) (hX : RPoints xv l R.h) (hls : listsOk ls) (hl : l.length ≤ 1000000) (hcfg : cfgOk c) (hH : Go.Lt.Holds R F w) :
    Ret Tryz.prog 21 [vPlan c lsv, xv] w fun v w' => v = .bool (decide ((sums c ls l (-1) (-1)).all < 4611686018427387904)) ∧ Go.Lt.Holds R F w' := by
  obtain ⟨sa, sn, sc, rfl⟩ := hsv
  refine ret_of_g (n := 17) Tryz.func21 rfl rfl (by simp) ?_
  refine g_seq ?_
  refine g_region (l := [0, 1]) rfl ?_
  refine o_box (lv rfl) rfl (cs := [_, _, _, _, _, _]) rfl rfl hH ?_
  intro b2 w hH
  refine vA (lv rfl) rfl rfl ?_
  refine g_seq ?_
  refine g_region (l := [0, 1, 2, 3, 4, 5, 6, 7, 8, 9]) rfl ?_
  refine o_ldN (lv rfl) rfl lk_28 rfl ⟨_, _, _, hH.c0, [_, _, _, _, _, _], rfl, rfl, ?_⟩
  refine vM (lv rfl) rfl rfl ?_
  refine o_call (lv rfl) rfl en_47 rfl (r27_Sums hcfg hP hX hls hl (-1) (-1) hH) ?_
  rintro _ w ⟨rfl, hH⟩
  refine vM (lv rfl) rfl rfl ?_
  refine o_v (lv rfl) rfl (r_ex rfl rfl) ?_
  refine o_v (lv rfl) rfl (r_ex rfl rfl) ?_
  refine o_v (lv rfl) rfl (r_ex rfl rfl) ?_
  refine vA (lv rfl) rfl rfl ?_
  refine vA (lv rfl) rfl rfl ?_
  refine vA (lv rfl) rfl rfl ?_
  refine g_seq ?_
  refine g_region (l := [0, 1, 2]) rfl ?_
  refine vM (lv rfl) rfl rfl ?_
  refine o_v (lv rfl) rfl (r_lt rfl rfl) ?_
  refine vA (lv rfl) rfl rfl ?_
  refine g_rq Tryz.func21 (res_t rfl res_0) ?_
  exact ⟨rfl, (hH.sel (by repeat' (first | exact Sel.refl _ | refine Sel.skip _ ?_)))⟩
set_option maxHeartbeats 1000000 in
theorem law28_FairWays {wv lv0 tv : Value} {ws : List Int} {l : List Call} {turns : List Int} (cf : Config) (h1 : I cf.shards) (h2 : I cf.slots) (h3 : I cf.workers) (h4 : I cf.width) (h5 : U cf.unit) (hW : Rd encI wv ws R.h) (hwl : ws.length ≤ 9223372036854775807) (hws : ∀ x ∈ ws, I x)
    (hL : Rd encC lv0 l R.h) (hll : l.length ≤ 9223372036854775807) (hlc : ∀ c ∈ l, c.ok) (hT : Rd encI tv turns R.h) (htb : turns.length ≤ 9223372036854775807) (htI : ∀ t ∈ turns, I t) (xf xg n : Int) (hxf : I xf) (hxg : I xg) (hn : I n) (hH : Go.Lt.Holds R F w) :
    Ret Tryz.prog 5 [vCfg cf, wv, lv0, tv, .int .i64 xf, .int .i64 xg, .int .i64 n] w fun v w' => v = .bool true ∧ Go.Lt.Holds R F w' := by
  refine ret_of_g (n := 142) Tryz.func5 rfl rfl (by simp) ?_
  refine g_seq ?_
  refine g_region (l := [0, 1]) rfl ?_
  refine o_box (lv rfl) rfl (cs := [_, _, _, _, _]) rfl rfl hH ?_
  intro b7 w hH
  refine vA (lv rfl) rfl rfl ?_
  refine g_seq ?_
  refine g_region (l := [0, 1, 2, 3, 4, 5]) rfl ?_
  refine o_ldN (lv rfl) rfl lk_24 rfl ⟨_, _, _, hH.c0, [_, _, _, _, _], rfl, rfl, ?_⟩
  refine vM (lv rfl) rfl rfl ?_
  refine vM (lv rfl) rfl rfl ?_
  refine o_call (lv rfl) rfl en_19 rfl (law28_Busy cf h1 h2 h3 h4 h5 hW hwl hws hL hll hlc hH) ?_
  rintro _ w ⟨c, v, ls, rfl, hcfg, hl2, hlb, hH⟩
  obtain ⟨bl, Ql, rfl, -, -⟩ := ListsC.op hH
  refine o_al (lv rfl) rfl ze_28 hH ?_
  intro b15 w hH
  refine o_st (lv rfl) rfl lk_28 rfl (vs := [_, _, _, _, _, _]) rfl rfl (by exact hH) rfl rfl (by simp) rfl ?_
  intro w hH; dsimp only [setL, List.set] at hH
  refine g_seq ?_
  have hH0 := hH
  obtain ⟨hls, hlN, hlb2, hbc⟩ := busy_ok hl2 hlb
  obtain ⟨me, hme⟩ := trace_plays turns 60 hcfg hbc
  have hpl : plays c ls (traceOf c ls turns 60) ≠ none := by rw [hme]; simp
  have hb2 : (baseOf w).h b15 = some (.cells [.int .i64 c.shards, .int .i64 c.slots, .int .i64 c.workers, .int .i64 c.width, .int .u64 c.unit, .slice (some ⟨bl, 0, none⟩) Ql.length Ql.length].toArray 28 (0, 0)) := hH.c0
  have hP : RLists (.slice (some ⟨bl, 0, none⟩) Ql.length Ql.length) ls (baseOf w).h := ListsC.rl hH.p1
  have hT1 : Rd encI tv turns (baseOf w).h := Rd.up _ _ hT hH.ro
  replace hH := holds_start w
  refine g_region (l := [0, 1, 2, 3]) rfl ?_
  refine o_ldN (lv rfl) rfl lk_28 rfl ⟨_, _, _, hH.old hb2, _, rfl, rfl, ?_⟩
  refine vM (lv rfl) rfl rfl ?_
  refine o_call (lv rfl) rfl en_11 rfl (law27_Trace (R := baseOf _) (c := c) (ls := ls) (turns := turns) (most := 60) hcfg hP hls hlN hlb2 hT1 htb htI (by omega) hH) ?_
  rintro _ w hH
  have hH1 := hH; obtain ⟨xa, xcap, rfl⟩ := PtsC.len hH; obtain ⟨R1, hR1⟩ : ∃ R1, R1 = baseOf w := ⟨_, rfl⟩; have hX : RPoints _ _ R1.h := (by rw [hR1]; exact PtsC.rp hH); replace hP : RLists (.slice (some ⟨bl, 0, none⟩) Ql.length Ql.length) ls R1.h := (by rw [hR1]; exact RLists.up _ _ hP hH.ro); replace hb2 := hH.ro _ _ hb2; replace hb2 : R1.h b15 = some (.cells [.int .i64 c.shards, .int .i64 c.slots, .int .i64 c.workers, .int .i64 c.width, .int .u64 c.unit, .slice (some ⟨bl, 0, none⟩) Ql.length Ql.length].toArray 28 (0, 0)) := (by rw [hR1]; exact hb2); replace hH : Go.Lt.Holds R1 [] w := (by rw [hR1]; exact holds_start w); have hlen := trace_len c ls turns 60; have hpk := trace_pk c ls turns 60; have hfg := f_good (c := c) hls (l := traceOf c ls turns 60) (by omega); have hbk := book_keys (c := c) hls (l := traceOf c ls turns 60) (by omega); have hge := fun f g => gap_eq (c := c) hls (l := traceOf c ls turns 60) (by omega) f g; generalize traceOf c ls turns 60 = L at *
  refine vA (lv rfl) rfl rfl ?_
  refine g_seq ?_
  obtain ⟨S, hSL, hSr, hSp⟩ := hX
  have hX : RPoints (.slice xa L.length xcap) L R1.h := ⟨S, hSL, hSr, hSp⟩
  have hcall := playL_call _ _ _ _ (playL_of hme).2
  have hnev : ∀ x ∈ L, (callOf ls x).1.flow ≠ -5 ∧ (callOf ls x).1.flow ≠ 77 := fun x hx => by
    obtain ⟨u, pl, l', -, -, h1, h2⟩ := call_at hbc (hcall x hx)
    have := hbc l' (List.mem_of_getElem? h1) _ (List.mem_of_getElem? h2)
    unfold bCall at this; omega
  have hgn := gap_never hls (by omega) (f := -5) (g := 77) (by omega) hme hnev
  have hsym : fGap c ls L (md xg 3) (md xf 3) = fGap c ls L (md xf 3) (md xg 3) := by rw [hge, hge]; exact rGap_sym c ls L _ _
  have hpre : ∀ k : Nat, (fGap c ls L (md xf 3) (md xg 3)).2.2 = true → (fGap c ls (L.take k) (md xf 3) (md xg 3)).2.2 = true ∧ (fGap c ls (L.take k) (md xf 3) (md xg 3)).1 ≤ (fGap c ls L (md xf 3) (md xg 3)).1 := fun k h => by
    rw [hge] at h ⊢
    rw [gap_eq hls (by rw [List.length_take]; omega)]
    exact gap_pre hls (by omega) _ _ k h
  have hsame : md xf 3 = md xg 3 → fGap c ls L (md xf 3) (md xg 3) = (0, 0, false) := fun h => by
    unfold fGap
    rw [if_neg hpl, if_pos (.inl h)]
  obtain ⟨ga, gb, go, hG⟩ : ∃ a b o, fGap c ls L (md xf 3) (md xg 3) = (a, b, o) := ⟨_, _, _, rfl⟩
  have hG1 := hsym
  rw [hG] at hG1 hpre hsame
  dsimp only at hpre
  subst hSL
  rw [List.length_map]; rw [List.length_map] at hlen hX hSr
  clear hsym hge
  refine g_region (l := [0, 1, 2, 3, 4, 5]) rfl ?_
  refine vM (lv rfl) rfl rfl ?_
  refine o_call (lv rfl) rfl en_12 rfl (play_Mod xf 3 hxf (by omega) (by omega) hH) ?_
  rintro _ w ⟨rfl, hH⟩
  refine vM (lv rfl) rfl rfl ?_
  refine o_call (lv rfl) rfl en_12 rfl (play_Mod xg 3 hxg (by omega) (by omega) hH) ?_
  rintro _ w ⟨rfl, hH⟩
  refine vA (lv rfl) rfl rfl ?_
  refine vA (lv rfl) rfl rfl ?_
  refine g_seq ?_
  refine g_region (l := [0, 1, 2, 3, 4, 5, 6, 7, 8, 9, 10, 11]) rfl ?_
  refine o_ldN (lv rfl) rfl lk_28 rfl ⟨_, _, _, hH.old hb2, _, rfl, rfl, ?_⟩
  refine vM (lv rfl) rfl rfl ?_
  refine vM (lv rfl) rfl rfl ?_
  refine vM (lv rfl) rfl rfl ?_
  refine o_call (lv rfl) rfl en_14 rfl (fair_Gap (c := c) hP hX hls (by rw [List.length_map]; omega) (md xf 3) (md xg 3) (hfg _ _) hH) ?_
  rintro _ w ⟨rfl, hH⟩
  rw [hG]
  refine vM (lv rfl) rfl rfl ?_
  refine o_v (lv rfl) rfl (r_ex rfl rfl) ?_
  refine o_v (lv rfl) rfl (r_ex rfl rfl) ?_
  refine o_v (lv rfl) rfl (r_ex rfl rfl) ?_
  refine vA (lv rfl) rfl rfl ?_
  refine vA (lv rfl) rfl rfl ?_
  refine vA (lv rfl) rfl rfl ?_
  refine g_seq ?_
  refine g_region (l := [0, 1, 2, 3, 4, 5, 6, 7, 8, 9, 10, 11]) rfl ?_
  refine o_ldN (lv rfl) rfl lk_28 rfl ⟨_, _, _, hH.old hb2, _, rfl, rfl, ?_⟩
  refine vM (lv rfl) rfl rfl ?_
  refine vM (lv rfl) rfl rfl ?_
  refine vM (lv rfl) rfl rfl ?_
  refine o_call (lv rfl) rfl en_14 rfl (fair_Gap (c := c) hP hX hls (by rw [List.length_map]; omega) (md xg 3) (md xf 3) (hfg _ _) hH) ?_
  rintro _ w ⟨rfl, hH⟩
  rw [hG1]
  refine vM (lv rfl) rfl rfl ?_
  refine o_v (lv rfl) rfl (r_ex rfl rfl) ?_
  refine o_v (lv rfl) rfl (r_ex rfl rfl) ?_
  refine o_v (lv rfl) rfl (r_ex rfl rfl) ?_
  refine vA (lv rfl) rfl rfl ?_
  refine vA (lv rfl) rfl rfl ?_
  refine vA (lv rfl) rfl rfl ?_
  refine g_seq ?_
  refine g_seq ?_
  refine g_join (fun e w => ∃ (e0 : Env), e = J e0 [(4, .int .i64 (md xf 3)), (5, .int .i64 (md xg 3)), (6, .int .i64 n), (15, .pointer (some ⟨b15, 0, none⟩)), (16, .slice xa S.length xcap), (17, .int .u64 ga), (18, .int .u64 gb), (19, .bool go), (90, .bool false)] ∧ Go.Lt.Holds R1 [] w) (fun kk hkk => ?_) ?_
  ·refine g_region (l := [0, 1, 2, 3, 4, 5, 6, 7, 8, 9, 10, 11, 12, 13, 14, 15, 16, 17, 18, 19, 20, 21, 22, 23, 24, 25, 26, 27, 28, 29, 30, 31, 32]) rfl ?_
   refine o_call (lv rfl) rfl en_16 rfl (law28_awake hH) ?_
   rintro _ w ⟨rfl, hH⟩
   refine o_v (lv rfl) rfl (r_not rfl) ?_
   refine vM (lv rfl) rfl rfl ?_
   refine s_opsb (fun g6_2 => ?_) (fun g6_2 => ?_)
   ·simp at g6_2
   ·refine vM (lvg rfl rfl rfl) rfl rfl ?_
    refine vM (lvg rfl rfl rfl) rfl rfl ?_
    refine o_v (lvg rfl rfl rfl) rfl (r_ne rfl rfl) ?_
    refine o_v (lv rfl) rfl (r_pickF rfl rfl) ?_
    refine vM (lv rfl) rfl rfl ?_
    refine s_ops (fun g6_7 => ?_) (fun g6_7 => ?_)
    ·exact absurd rfl g6_7
    ·refine vM (lvg rfl rfl rfl) rfl rfl ?_
     refine vM (lvg rfl rfl rfl) rfl rfl ?_
     refine o_v (lvg rfl rfl rfl) rfl (r_ne rfl rfl) ?_
     refine o_v (lv rfl) rfl (r_pickF rfl rfl) ?_
     refine vM (lv rfl) rfl rfl ?_
     refine s_ops (fun g6_12 => ?_) (fun g6_12 => ?_)
     ·exact absurd rfl g6_12
     ·refine vM (lvg rfl rfl rfl) rfl rfl ?_
      refine vM (lvg rfl rfl rfl) rfl rfl ?_
      refine o_v (lvg rfl rfl rfl) rfl (r_neB (by kernel_rfl) rfl rfl) ?_
      refine o_v (lv rfl) rfl (r_pickF rfl rfl) ?_
      refine vM (lv rfl) rfl rfl ?_
      refine s_ops (fun g6_17 => ?_) (fun g6_17 => ?_)
      ·exact absurd rfl g6_17
      ·refine vM (lvg rfl rfl rfl) rfl rfl ?_
       refine vM (lvg rfl rfl rfl) rfl rfl ?_
       refine o_v (lvg rfl rfl rfl) rfl (r_eq rfl rfl) ?_
       refine vM (lvg rfl rfl rfl) rfl rfl ?_
       refine s_ops (fun g6_21 => ?_) (fun g6_21 => ?_)
       ·refine vM (lvg rfl rfl rfl) rfl rfl ?_
        refine vM (lvg rfl rfl rfl) rfl rfl ?_
        refine s_opsb (fun g6_23 => ?_) (fun g6_23 => ?_)
        ·have := hsame g6_21; simp at this g6_23; exact absurd (this.2.2.symm.trans g6_23) (by simp)
        ·refine vM (lvg rfl rfl rfl) rfl rfl ?_
         refine o_v (lvg rfl rfl rfl) rfl (r_ne rfl rfl) ?_
         refine o_v (lvg rfl rfl rfl) rfl (r_pickF rfl rfl) ?_
         refine vM (lvg rfl rfl rfl) rfl rfl ?_
         refine s_ops (fun g6_27 => ?_) (fun g6_27 => ?_)
         ·have := hsame g6_21; simp at this; exact absurd this.1 g6_27
         ·refine vM (lvg rfl rfl rfl) rfl rfl ?_
          refine o_v (lvg rfl rfl rfl) rfl (r_ne rfl rfl) ?_
          refine o_v (lvg rfl rfl rfl) rfl (r_pickF rfl rfl) ?_
          refine o_v (lvg rfl rfl rfl) rfl (r_pickT rfl rfl) ?_
          refine o_v (lv rfl) rfl (r_pickF rfl rfl) ?_
          (have hg : md xf 3 = md xg 3 := g6_21
           have hd : decide ((ga, gb, go).2.1 ≠ 0) = false := by have := hsame hg; simp at this; simp [this.2.1]
           exact hkk _ _ ⟨_, by rw [hd]; exact (J_self (has_s rfl (has_s rfl (has_s rfl (has_s rfl (has_s rfl (has_s rfl (has_s rfl (has_s rfl (has_s rfl has_0)))))))))), (hH.sel (by repeat' (first | exact Sel.refl _)))⟩)
       ·refine o_no rfl rfl rfl rfl ?_
        refine o_no rfl rfl rfl rfl ?_
        refine o_no2 rfl rfl rfl rfl ?_
        refine o_no2 rfl rfl rfl rfl ?_
        refine o_no rfl rfl rfl rfl ?_
        refine o_no rfl rfl rfl rfl ?_
        refine o_no2 rfl rfl rfl rfl ?_
        refine o_no2 rfl rfl rfl rfl ?_
        refine o_no rfl rfl rfl rfl ?_
        refine o_v (lvg rfl rfl rfl) rfl (r_pickF rfl rfl) ?_
        refine o_v (lv rfl) rfl (r_pickF rfl rfl) ?_
        (have hg : ¬ md xf 3 = md xg 3 := g6_21
         exact hkk _ _ ⟨_, (J_self (has_s rfl (has_s rfl (has_s rfl (has_s rfl (has_s rfl (has_s rfl (has_s rfl (has_s rfl (has_s rfl has_0)))))))))), (hH.sel (by repeat' (first | exact Sel.refl _)))⟩)
  ·rintro _ w ⟨e1, rfl, hH⟩
   have hmb := md_b n (n := (S.length : Int) + 1) (by omega)
   refine g_false rfl ?_
   refine g_skip ?_
   refine g_seq ?_
   refine rD mixed hH fun w hH => ?_
   refine d_ldN (i := 0) [10] (lv rfl) rfl lk_28 rfl (by kernel_rfl) ⟨_, _, _, hH.old hb2, _, rfl, rfl, ?_⟩
   refine pM 1 (lv rfl) rfl rfl ?_
   refine pM 2 (lv rfl) rfl rfl ?_
   refine pM 3 (lv rfl) rfl rfl ?_
   refine d_p (i := 4) (lv rfl) rfl (fun w => (r_len el_30 rfl)) (by kernel_rfl) ?_
   refine d_p (i := 5) (lv rfl) rfl (fun w => (r_addI rfl rfl ?_)) (by kernel_rfl) ?_; omega
   refine pM 8 (lv rfl) rfl rfl ?_
   refine pM 9 (lv rfl) rfl rfl ?_
   refine d_l (j := 6) (by kernel_rfl) ?_
   refine o_call (lv rfl) rfl en_12 rfl (play_Mod n _ hn (by omega) (by omega) hH) ?_
   rintro _ w ⟨rfl, hH⟩
   obtain ⟨k, hk⟩ : ∃ k : Nat, md n ((S.length : Int) + 1) = k := ⟨(md n ((S.length : Int) + 1)).toNat, by omega⟩
   rw [hk]
   rw [hk] at hmb
   refine ⟨(keeps_cons (fun _ => (by exact hH.old ‹_›)) trivial), ?_⟩
   refine d_slr hkPt (i := 7) 0 k (lv rfl) rfl el_30 rfl (Rd.up _ _ hSr hH.ro) bnd_n (bnd_s rfl) (by omega) (by omega) (by kernel_rfl) (fun yv hyv => ?_)
   have hY : RPoints yv ((S.map Prod.fst).take k) R1.h := ⟨S.take k, by rw [List.map_take], by simpa using hyv _ hSr, fun q hq => hSp q (List.mem_of_mem_take hq)⟩
   refine d_l (j := 10) (by kernel_rfl) ?_
   refine o_call (lv rfl) rfl en_14 rfl (fair_Gap (c := c) hP hY hls (by rw [List.length_take, List.length_map]; omega) (md xf 3) (md xg 3) (f_good hls (by rw [List.length_take, List.length_map]; omega) _ _) hH) ?_
   rintro _ w ⟨rfl, hH⟩
   have hpk2 := hpre k
   refine ⟨(keeps_in rfl trivial), ?_⟩
   refine pM 11 (lv rfl) rfl rfl ?_
   refine pE 12 (lv rfl) rfl rfl rfl ?_
   refine pE 13 (lv rfl) rfl rfl rfl ?_
   refine pE 14 (lv rfl) rfl rfl rfl ?_
   refine pA 15 (lv rfl) rfl rfl ?_
   refine pA 16 (lv rfl) rfl rfl ?_
   refine pA 17 (lv rfl) rfl rfl ?_
   refine d_end (by kernel_rfl) ?_
   refine g_seq ?_
   refine g_seq ?_
   refine g_join (fun e w => ∃ (e0 : Env), e = J e0 [(6, .int .i64 n), (15, .pointer (some ⟨b15, 0, none⟩)), (16, .slice xa S.length xcap), (115, .bool false)] ∧ Go.Lt.Holds R1 [] w) (fun kk hkk => ?_) ?_
   ·refine g_region (l := [0, 1, 2, 3, 4, 5, 6, 7, 8, 9]) rfl ?_
    refine vM (lv rfl) rfl rfl ?_
    refine vM (lv rfl) rfl rfl ?_
    refine s_opsb (fun g9_1 => ?_) (fun g9_1 => ?_)
    ·refine vM (lvg rfl rfl rfl) rfl rfl ?_
     refine o_v (lvg rfl rfl rfl) rfl (r_not rfl) ?_
     refine vM (lvg rfl rfl rfl) rfl rfl ?_
     refine s_opsb (fun g9_4 => ?_) (fun g9_4 => ?_)
     ·rw [(hpk2 g9_1).1] at g9_4; simp at g9_4
     ·refine vM (lvg rfl rfl rfl) rfl rfl ?_
      refine vM (lvg rfl rfl rfl) rfl rfl ?_
      refine o_v (lvg rfl rfl rfl) rfl (r_gt rfl rfl) ?_
      refine o_v (lvg rfl rfl rfl) rfl (r_pickF rfl rfl) ?_
      refine o_v (lv rfl) rfl (r_pickT rfl rfl) ?_
      (have hg : go = true := g9_1
       have hd : decide ((fGap c ls ((S.map Prod.fst).take k) (md xf 3) (md xg 3)).1 > ga) = false := decide_eq_false (by have := (hpk2 hg).2; omega)
       exact hkk _ _ ⟨_, by rw [hd]; exact (J_self (has_s rfl (has_s rfl (has_s rfl (has_s rfl has_0))))), (hH.sel (by repeat' (first | exact Sel.refl _)))⟩)
    ·refine o_no rfl rfl rfl rfl ?_
     refine o_no rfl rfl rfl rfl ?_
     refine o_no rfl rfl rfl rfl ?_
     refine o_no2 rfl rfl rfl rfl ?_
     refine o_no2 rfl rfl rfl rfl ?_
     refine o_no2 rfl rfl rfl rfl ?_
     refine o_no rfl rfl rfl rfl ?_
     refine o_v (lv rfl) rfl (r_pickF rfl rfl) ?_
     (have hg : go = false := g9_1
      exact hkk _ _ ⟨_, (J_self (has_s rfl (has_s rfl (has_s rfl (has_s rfl has_0))))), (hH.sel (by repeat' (first | exact Sel.refl _)))⟩)
   ·rintro _ w ⟨e2, rfl, hH⟩
    refine g_false rfl ?_
    refine g_skip ?_
    refine g_seq ?_
    refine g_region (l := [0, 1, 2, 3, 4, 5, 6, 7, 8, 9]) rfl ?_
    refine o_ldN (lv rfl) rfl lk_28 rfl ⟨_, _, _, hH.old hb2, _, rfl, rfl, ?_⟩
    refine vM (lv rfl) rfl rfl ?_
    refine o_call (lv rfl) rfl en_14 rfl (fair_Gap (c := c) hP hX hls (by rw [List.length_map]; omega) (-5) 77 (hfg _ _) hH) ?_
    rintro _ w ⟨rfl, hH⟩
    rw [hgn]
    refine vM (lv rfl) rfl rfl ?_
    refine o_v (lv rfl) rfl (r_ex rfl rfl) ?_
    refine o_v (lv rfl) rfl (r_ex rfl rfl) ?_
    refine o_v (lv rfl) rfl (r_ex rfl rfl) ?_
    refine vA (lv rfl) rfl rfl ?_
    refine vA (lv rfl) rfl rfl ?_
    refine vA (lv rfl) rfl rfl ?_
    refine g_seq ?_
    refine g_region (l := [0, 1, 2, 3, 4, 5, 6, 7, 8, 9, 10, 11, 12, 13, 14, 15, 16, 17, 18, 19]) rfl ?_
    refine vM (lv rfl) rfl rfl ?_
    refine o_v (lv rfl) rfl (r_eq rfl rfl) ?_
    refine vM (lv rfl) rfl rfl ?_
    refine s_ops (fun g12_2 => ?_) (fun g12_2 => ?_)
    ·refine vM (lvg rfl rfl rfl) rfl rfl ?_
     refine o_v (lvg rfl rfl rfl) rfl (r_eq rfl rfl) ?_
     refine o_v (lv rfl) rfl (r_pickT rfl rfl) ?_
     refine vM (lv rfl) rfl rfl ?_
     refine s_ops (fun g12_6 => ?_) (fun g12_6 => ?_)
     ·refine vM (lvg rfl rfl rfl) rfl rfl ?_
      refine o_ldN (lvg rfl rfl rfl) rfl lk_28 rfl ⟨_, _, _, hH.old hb2, _, rfl, rfl, ?_⟩
      refine vM (lvg rfl rfl rfl) rfl rfl ?_
      refine o_call (lvg rfl rfl rfl) rfl en_20 rfl (plays_nil hP hX hls (by rw [List.length_map]; omega) hH) ?_
      rintro _ w ⟨p, rfl, hp, hH⟩
      have hpn : p.isNone = false := (by cases h : p.isNone with | false => rfl | true => exact absurd (hp.1 h) hpl)
      refine o_v (lvg rfl rfl rfl) rfl (r_nepn pp_42 rfl rfl) ?_
      refine vM (lvg rfl rfl rfl) rfl rfl ?_
      refine s_opsb (fun g12_12 => ?_) (fun g12_12 => ?_)
      ·refine o_ldN (lvg rfl rfl rfl) rfl lk_28 rfl ⟨_, _, _, hH.old hb2, _, rfl, rfl, ?_⟩
       refine vM (lvg rfl rfl rfl) rfl rfl ?_
       refine o_call (lvg rfl rfl rfl) rfl en_21 rfl (law28_cheap ⟨_, _, _, rfl⟩ hP hX hls (by rw [List.length_map]; omega) hcfg hH) ?_
       rintro _ w ⟨rfl, hH⟩
       refine o_v (lvg rfl rfl rfl) rfl (r_pickT rfl rfl) ?_
       refine o_v (lvg rfl rfl rfl) rfl (r_eqB (by kernel_rfl) rfl rfl) ?_
       refine o_v (lv rfl) rfl (r_pickT rfl rfl) ?_
       refine vA (lv rfl) rfl rfl ?_
       refine g_rq Tryz.func5 (res_t rfl res_0) ?_
       exact ⟨bv (by simp), by have hZ := hH; subst hR1; have hH := hH0.merge (hH1.merge hZ); exact (hH.sel (by repeat' (first | exact Sel.refl _ | refine Sel.skip _ ?_)))⟩
      ·cases p <;> simp at g12_12 hpn
     ·exact absurd rfl g12_6
    ·exact absurd rfl g12_2
end
end Go.Proofs.YtkdbglfdgeldpaaGreat
