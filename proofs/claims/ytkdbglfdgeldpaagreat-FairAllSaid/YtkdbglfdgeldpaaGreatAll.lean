/- Contract of package law28: FairAll answers true. Condition: the input is only read. -/
import Derived.Test.YtkdbglfdgeldpaaGreatKept
namespace Go.Proofs.YtkdbglfdgeldpaaGreat
open Go.Lt
theorem fair_same {c : Config} {ls : List (List Call)} {l : List Point} (hls : listsOk ls) (hl : l.length ≤ 1000000) {b b' : Bool} (h1 : b = true ↔ fFairP c ls l) (h2 : b' = true ↔ rFairP c ls l) : b = b' := by
  cases hp : plays c ls l with
  | none =>
    have e1 : b = false := by
      cases b with
      | false => rfl
      | true => exact absurd hp (h1.1 rfl).1
    have e2 : b' = false := by
      cases b' with
      | false => rfl
      | true => exact absurd hp (h2.1 rfl).1
    rw [e1, e2]
  | some me => rw [h1.2 (f_fair hls hl hp), h2.2 (r_fair hls hl hp)]
section
variable {R : Base} {F : List HP} {w : World}
set_option maxHeartbeats 1000000 in
theorem law28_FairAll {lv0 tv : Value} {ls0 : List (List Call)} {turns : List Int} (cf : Config) (h1 : I cf.shards) (h2 : I cf.slots) (h3 : I cf.workers) (h4 : I cf.width) (h5 : U cf.unit) (hL : WLists lv0 ls0 R.h) (hls0 : ls0.length ≤ 9223372036854775807 ∧ ∀ l ∈ ls0, l.length ≤ 9223372036854775807 ∧ ∀ c ∈ l, c.ok)
    (hT : Rd encI tv turns R.h) (htb : turns.length ≤ 9223372036854775807) (htI : ∀ t ∈ turns, I t) (kind at_ n : Int) (hk : I kind) (ha : I at_) (hn : I n) (hH : Go.Lt.Holds R F w) :
    Ret Tryz.prog 3 [vCfg cf, lv0, tv, .int .i64 kind, .int .i64 at_, .int .i64 n] w fun v w' => v = .bool true ∧ Go.Lt.Holds R F w' := by
  have hmd := md_b n (n := 3) (by omega)
  refine ret_of_g (n := 78) Tryz.func3 rfl rfl (by simp) ?_
  refine g_seq ?_
  refine g_region (l := [0, 1]) rfl ?_
  refine o_box (lv rfl) rfl (cs := [_, _, _, _, _]) rfl rfl hH ?_
  intro b6 w hH
  refine vA (lv rfl) rfl rfl ?_
  refine g_seq ?_
  refine g_region (l := [0, 1, 2, 3, 4]) rfl ?_
  refine o_ldN (lv rfl) rfl lk_24 rfl ⟨_, _, _, hH.c0, [_, _, _, _, _], rfl, rfl, ?_⟩
  refine vM (lv rfl) rfl rfl ?_
  refine o_call (lv rfl) rfl en_10 rfl (play_Wide cf h1 h2 h3 h4 h5 hL hls0 40 hH) ?_
  rintro _ w ⟨c, v, ls, rfl, hcfg, hls, hlw, hlb, hH⟩
  obtain ⟨bl, Ql, rfl, -, -⟩ := ListsC.op hH
  refine o_al (lv rfl) rfl ze_28 hH ?_
  intro b13 w hH
  refine o_st (lv rfl) rfl lk_28 rfl (vs := [_, _, _, _, _, _]) rfl rfl (by exact hH) rfl rfl (by simp) rfl ?_
  intro w hH; dsimp only [setL, List.set] at hH
  refine g_seq ?_
  have hH0 := hH
  have hlN : 0 < ls.length := by unfold cfgOk at hcfg; omega
  have hlb2 : ∀ l ∈ ls, l.length ≤ 1000000 := fun l hl => by have := hlb l hl; omega
  have hb2 : (baseOf w).h b13 = some (.cells [.int .i64 c.shards, .int .i64 c.slots, .int .i64 c.workers, .int .i64 c.width, .int .u64 c.unit, .slice (some ⟨bl, 0, none⟩) Ql.length Ql.length].toArray 28 (0, 0)) := hH.c0
  have hP : RLists (.slice (some ⟨bl, 0, none⟩) Ql.length Ql.length) ls (baseOf w).h := ListsC.rl hH.p1
  have hT1 : Rd encI tv turns (baseOf w).h := Rd.up _ _ hT hH.ro
  replace hH := holds_start w
  refine g_region (l := [0, 1, 2, 3]) rfl ?_
  refine o_ldN (lv rfl) rfl lk_28 rfl ⟨_, _, _, hH.old hb2, _, rfl, rfl, ?_⟩
  refine vM (lv rfl) rfl rfl ?_
  refine o_call (lv rfl) rfl en_11 rfl (law27_Trace (R := baseOf _) (c := c) (ls := ls) (turns := turns) (most := 60) hcfg hP hls hlN hlb2 hT1 htb htI (by omega) hH) ?_
  rintro _ w hH
  have hH1 := hH; obtain ⟨R1, hR1⟩ : ∃ R1, R1 = baseOf w := ⟨_, rfl⟩; have hX : RPoints _ _ R1.h := (by rw [hR1]; exact PtsC.rp hH); replace hP : RLists (.slice (some ⟨bl, 0, none⟩) Ql.length Ql.length) ls R1.h := (by rw [hR1]; exact RLists.up _ _ hP hH.ro); replace hb2 := hH.ro _ _ hb2; replace hb2 : R1.h b13 = some (.cells [.int .i64 c.shards, .int .i64 c.slots, .int .i64 c.workers, .int .i64 c.width, .int .u64 c.unit, .slice (some ⟨bl, 0, none⟩) Ql.length Ql.length].toArray 28 (0, 0)) := (by rw [hR1]; exact hb2); replace hH : Go.Lt.Holds R1 [] w := (by rw [hR1]; exact holds_start w); have hlen := trace_len c ls turns 60; have hpk0 : ∀ x ∈ traceOf c ls turns 60, x.ret.packets.length ≤ 100 := trace_pk2 c ls turns 60; generalize traceOf c ls turns 60 = L0 at *
  refine vA (lv rfl) rfl rfl ?_
  refine g_seq ?_
  refine g_seq ?_
  refine g_region (l := [0, 1, 2]) rfl ?_
  refine vM (lv rfl) rfl rfl ?_
  refine o_call (lv rfl) rfl en_12 rfl (play_Mod n 3 hn (by omega) (by omega) hH) ?_
  rintro _ w ⟨rfl, hH⟩
  refine o_v (lv rfl) rfl (r_eq rfl rfl) ?_
  refine g_join (fun e w => ∃ (e0 : Env) (xv : Value) (L : List Point), RPoints xv L (hp w) ∧ L.length ≤ 60 ∧ (∀ x ∈ L, x.ret.packets.length ≤ 101) ∧ e = J e0 [(4, .int .i64 at_), (5, .int .i64 n), (13, .pointer (some ⟨b13, 0, none⟩)), (14, xv)] ∧ Go.Lt.Holds R1 [] w) (fun kk hkk => ?_) ?_
  ·refine g_if rfl (fun c0 => ?_) (fun c0 => ?_)
   ·refine g_region (l := [0, 1, 2, 3, 4, 5]) rfl ?_
    refine vM (lv rfl) rfl rfl ?_
    refine vM (lv rfl) rfl rfl ?_
    refine vM (lv rfl) rfl rfl ?_
    refine vM (lv rfl) rfl rfl ?_
    refine o_call (lv rfl) rfl en_13 rfl (law27_Bent hX (by omega) hpk0 kind at_ n hk ha hn hH) ?_
    rintro _ w ⟨l', hX', hl', hp', hH⟩
    refine vA (lv rfl) rfl rfl ?_
    (have hg : md n 3 = 0 := c0
     exact hkk _ _ ⟨_, _, l', hX', by omega, hp', (J_self (has_s rfl (has_s rfl (has_s rfl (has_s rfl has_0))))), (hH.sel (by repeat' (first | exact Sel.refl _)))⟩)
   ·refine g_skip ?_
    (have hg : ¬ md n 3 = 0 := c0
     exact hkk _ _ ⟨_, _, _, RPoints.up _ _ hX hH.ro, hlen, fun x hx => by have := hpk0 x hx; omega, (J_self (has_s rfl (has_s rfl (has_s rfl (has_s rfl has_0))))), (hH.sel (by repeat' (first | exact Sel.refl _)))⟩)
  ·rintro _ w ⟨e0, xv, L, hX2, hlen2, hpk2, rfl, hH⟩
   have hH2 := hH
   have hpk3 : ∀ x ∈ L, x.ret.packets.length ≤ 1000 := fun x hx => by have := hpk2 x hx; omega
   have hfg := f_good (c := c) hls (l := L) (by omega)
   have hrg := r_good (c := c) hls (l := L) (by omega)
   have hge := gap_eq (c := c) hls (l := L) (by omega) n at_
   have hbl := book_le (c := c) hls (l := L) (by omega)
   have hbk := book_keys (c := c) hls (l := L) (by omega)
   clear hX hlen hpk0
   obtain ⟨R2, hR2⟩ : ∃ R2, R2 = baseOf w := ⟨_, rfl⟩
   have hX : RPoints xv L R2.h := by rw [hR2]; exact hX2
   replace hP : RLists (.slice (some ⟨bl, 0, none⟩) Ql.length Ql.length) ls R2.h := by rw [hR2]; exact RLists.up _ _ hP hH.ro
   replace hb2 := hH.ro _ _ hb2
   replace hb2 : R2.h b13 = some (.cells [.int .i64 c.shards, .int .i64 c.slots, .int .i64 c.workers, .int .i64 c.width, .int .u64 c.unit, .slice (some ⟨bl, 0, none⟩) Ql.length Ql.length].toArray 28 (0, 0)) := by rw [hR2]; exact hb2
   replace hH : Go.Lt.Holds R2 [] w := by rw [hR2]; exact holds_start w
   refine g_seq ?_
   refine g_region (l := [0, 1, 2, 3, 4, 5, 6, 7, 8, 9, 10, 11]) rfl ?_
   refine o_ldN (lv rfl) rfl lk_28 rfl ⟨_, _, _, hH.old hb2, _, rfl, rfl, ?_⟩
   refine vM (lv rfl) rfl rfl ?_
   refine vM (lv rfl) rfl rfl ?_
   refine vM (lv rfl) rfl rfl ?_
   refine o_call (lv rfl) rfl en_14 rfl (fair_Gap (c := c) hP hX hls (by omega) n at_ (hfg n at_) hH) ?_
   rintro _ w ⟨rfl, hH⟩
   refine vM (lv rfl) rfl rfl ?_
   refine o_v (lv rfl) rfl (r_ex rfl rfl) ?_
   refine o_v (lv rfl) rfl (r_ex rfl rfl) ?_
   refine o_v (lv rfl) rfl (r_ex rfl rfl) ?_
   refine vA (lv rfl) rfl rfl ?_
   refine vA (lv rfl) rfl rfl ?_
   refine vA (lv rfl) rfl rfl ?_
   refine g_seq ?_
   refine g_region (l := [0, 1, 2, 3, 4, 5, 6, 7, 8, 9, 10, 11]) rfl ?_
   refine o_ldN (lv rfl) rfl lk_28 rfl ⟨_, _, _, hH.old hb2, _, rfl, rfl, ?_⟩
   refine vM (lv rfl) rfl rfl ?_
   refine vM (lv rfl) rfl rfl ?_
   refine vM (lv rfl) rfl rfl ?_
   refine o_call (lv rfl) rfl en_15 rfl (r27_Gap (c := c) hP hX hls (by omega) n at_ (hrg n at_) hH) ?_
   rintro _ w ⟨rfl, hH⟩
   rw [hge]
   refine vM (lv rfl) rfl rfl ?_
   refine o_v (lv rfl) rfl (r_ex rfl rfl) ?_
   refine o_v (lv rfl) rfl (r_ex rfl rfl) ?_
   refine o_v (lv rfl) rfl (r_ex rfl rfl) ?_
   refine vA (lv rfl) rfl rfl ?_
   refine vA (lv rfl) rfl rfl ?_
   refine vA (lv rfl) rfl rfl ?_
   refine g_seq ?_
   refine rD mixed hH fun w hH => ?_
   refine d_l (j := 0) (by kernel_rfl) ?_
   refine o_call (lv rfl) rfl en_16 rfl (law28_awake hH) ?_
   rintro _ w ⟨rfl, hH⟩
   refine ⟨trivial, ?_⟩
   refine pM 1 (lv rfl) rfl rfl ?_
   refine s_opdb (fun g7_1 => ?_) (fun g7_1 => ?_)
   ·refine d_ldN (i := 2) [4, 7] (lvg rfl rfl rfl) rfl lk_28 rfl (by kernel_rfl) ⟨_, _, _, hH.old hb2, _, rfl, rfl, ?_⟩
    refine pM 3 (lvg rfl rfl rfl) rfl rfl ?_
    refine d_ldN (i := 5) [7] (lvg rfl rfl rfl) rfl lk_28 rfl (by kernel_rfl) ⟨_, _, _, hH.old hb2, _, rfl, rfl, ?_⟩
    refine pM 6 (lvg rfl rfl rfl) rfl rfl ?_
    refine d_l (j := 4) (by kernel_rfl) ?_
    refine o_call (lvg rfl rfl rfl) rfl en_17 rfl (fair_Fair (c := c) hP hX hls (by omega) hfg hbk hH) ?_
    rintro _ w ⟨bf, rfl, hbf, hH⟩
    refine ⟨(keeps_cons (fun _ => (by exact hH.old ‹_›)) (keeps_in rfl trivial)), ?_⟩
    refine d_l (j := 7) (by kernel_rfl) ?_
    refine o_call (lvg rfl rfl rfl) rfl en_18 rfl (r27_Fair (c := c) hP hX hls (by omega) hrg hH) ?_
    rintro _ w ⟨br, rfl, hbr, hH⟩
    refine ⟨(keeps_in rfl (keeps_in rfl trivial)), ?_⟩
    refine d_p (i := 8) (lvg rfl rfl rfl) rfl (fun w => (r_eqB (by kernel_rfl) rfl rfl)) (by kernel_rfl) ?_
    refine d_p (i := 9) (lv rfl) rfl (fun w => (r_pickT rfl rfl)) (by kernel_rfl) ?_
    refine pM 10 (lv rfl) rfl rfl ?_
    refine s_opd (fun g7_10 => ?_) (fun g7_10 => ?_)
    ·refine pM 11 (lvg rfl rfl rfl) rfl rfl ?_
     refine pM 12 (lvg rfl rfl rfl) rfl rfl ?_
     refine d_p (i := 13) (lvg rfl rfl rfl) rfl (fun w => (r_eq rfl rfl)) (by kernel_rfl) ?_
     refine d_p (i := 14) (lv rfl) rfl (fun w => (r_pickT rfl rfl)) (by kernel_rfl) ?_
     refine pM 15 (lv rfl) rfl rfl ?_
     refine s_opd (fun g7_15 => ?_) (fun g7_15 => ?_)
     ·refine pM 16 (lvg rfl rfl rfl) rfl rfl ?_
      refine pM 17 (lvg rfl rfl rfl) rfl rfl ?_
      refine d_p (i := 18) (lvg rfl rfl rfl) rfl (fun w => (r_eq rfl rfl)) (by kernel_rfl) ?_
      refine d_p (i := 19) (lv rfl) rfl (fun w => (r_pickT rfl rfl)) (by kernel_rfl) ?_
      refine pM 20 (lv rfl) rfl rfl ?_
      refine s_opd (fun g7_20 => ?_) (fun g7_20 => ?_)
      ·refine pM 21 (lvg rfl rfl rfl) rfl rfl ?_
       refine pM 22 (lvg rfl rfl rfl) rfl rfl ?_
       refine d_p (i := 23) (lvg rfl rfl rfl) rfl (fun w => (r_eqB (by kernel_rfl) rfl rfl)) (by kernel_rfl) ?_
       refine d_p (i := 24) (lv rfl) rfl (fun w => (r_pickT rfl rfl)) (by kernel_rfl) ?_
       refine pA 25 (lv rfl) rfl rfl ?_
       refine d_end (by kernel_rfl) ?_
       refine g_rq Tryz.func3 (res_t rfl res_0) ?_
       exact ⟨bv (by simp), by have hZ := hH; subst hR2 hR1; have hH := hH0.merge (hH1.merge (hH2.merge hZ)); exact (hH.sel (by repeat' (first | exact Sel.refl _ | refine Sel.skip _ ?_)))⟩
      ·exact absurd rfl g7_20
     ·exact absurd rfl g7_15
    ·exact absurd (fair_same hls (by omega) hbf hbr) g7_10
   ·cases g7_1
end
end Go.Proofs.YtkdbglfdgeldpaaGreat
