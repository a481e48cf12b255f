/- Contract of package law28: what a program that does nothing does not answer. Condition: none. -/
import Derived.Test.YtkdbglfdgeldpaaGreatInv8
namespace Go.Proofs.YtkdbglfdgeldpaaGreat
open Go.Lt
def awC : Config := ⟨1, 2, 1, 0, 6⟩
def awLs : List (List Call) := [[⟨1, 1, 1, 2⟩, ⟨1, 2, 1, 2⟩, ⟨3, 1, 1, 0⟩, ⟨3, 2, 1, 0⟩, ⟨3, 1, 1, 0⟩, ⟨4, 0, 0, 0⟩]]
def awL : List Point := traceOf awC awLs [] 20
theorem aw_plays : (plays awC awLs awL).isSome = true := by kernel_rfl
theorem aw_gap : fGap awC awLs awL 1 2 = (6, 12, true) := by kernel_rfl
theorem aw_left : rLeft awLs awL = some [⟨1, 1, 0⟩, ⟨2, 1, 0⟩] := by kernel_rfl
theorem aw_len : awL.length = 6 := by kernel_rfl
theorem aw_cfg : cfgOk awC := by unfold cfgOk awC; simp
theorem aw_ls : listsOk awLs := by
  refine ⟨by simp [awLs], ?_⟩
  intro l hl c hc
  simp only [awLs, List.mem_singleton] at hl
  subst hl
  simp only [List.mem_cons, List.not_mem_nil, or_false] at hc
  rcases hc with rfl | rfl | rfl | rfl | rfl | rfl <;> (unfold Call.ok I; simp)
theorem book_keys {c : Config} {ls : List (List Call)} {l : List Point} (hls : listsOk ls) (hl : l.length ≤ 10000) (h : plays c ls l ≠ none) : (∀ q ∈ (bookOf c ls l).1, I q.1) ∧ (bookOf c ls l).1.length ≤ 10000 := by
  obtain ⟨me, h⟩ := Option.ne_none_iff_exists'.1 h
  have hst := book_st hls (by omega) h
  exact ⟨fun q hq => hst.inv.kI q.1 (List.mem_map_of_mem hq), by have := hst.inv.len; omega⟩
theorem book_le {c : Config} {ls : List (List Call)} {l : List Point} (hls : listsOk ls) (hl : l.length ≤ 10000) (h : plays c ls l ≠ none) : ∀ f ∈ akeys (bookOf c ls l).1, (aget (bookOf c ls l).1 f).left.length ≤ (aget (bookOf c ls l).1 f).came.length := by
  obtain ⟨me, h⟩ := Option.ne_none_iff_exists'.1 h
  have hst := book_st hls (by omega) h
  exact fun f _ => hst.inv.le f
theorem PtsC.len {R : Base} {F : List HP} {w : World} {v : Value} {l : List Point} (h : Go.Lt.Holds R (PtsC v l :: F) w) : ∃ a cap, v = .slice a l.length cap := by
  obtain ⟨S, hl, h2⟩ := PtsC.op h
  obtain ⟨a, cap, hv, -⟩ := h2.rd.len
  exact ⟨a, cap, by rw [← hl, List.length_map]; exact hv⟩
section
variable {R : Base} {F : List HP} {w : World}
set_option maxHeartbeats 1000000 in
theorem law28_awake (hH : Go.Lt.Holds R F w) : Ret Tryz.prog 16 [] w fun v w' => v = .bool true ∧ Go.Lt.Holds R F w' := by
  have hl : awL.length ≤ 10000 := by rw [aw_len]; omega
  have hpn : plays awC awLs awL ≠ none := fun h => by have := aw_plays; rw [h] at this; cases this
  obtain ⟨me, hme⟩ := Option.ne_none_iff_exists'.1 hpn
  refine ret_of_g (n := 72) Tryz.func16 rfl rfl (by simp) ?_
  refine g_seq ?_
  refine g_region (l := [0]) rfl ?_
  refine vA (lv rfl) rfl rfl ?_
  refine g_seq ?_
  refine g_region (l := [0, 1, 2, 3, 4, 5, 6, 7, 8, 9, 10, 11]) rfl ?_
  refine o_v (lv rfl) rfl (r_bld (ps := [_, _, _, _]) (cs := [_, _, _, _, _]) pl_24 rfl rfl) ?_
  refine o_v (lv rfl) rfl (r_bld (ps := [_, _, _, _]) (cs := [_, _, _, _]) pl_46 rfl rfl) ?_
  refine o_v (lv rfl) rfl (r_bld (ps := [_, _, _, _]) (cs := [_, _, _, _]) pl_46 rfl rfl) ?_
  refine o_v (lv rfl) rfl (r_bld (ps := [_, _, _]) (cs := [_, _, _, _]) pl_46 rfl rfl) ?_
  refine o_v (lv rfl) rfl (r_bld (ps := [_, _, _]) (cs := [_, _, _, _]) pl_46 rfl rfl) ?_
  refine o_v (lv rfl) rfl (r_bld (ps := [_, _, _]) (cs := [_, _, _, _]) pl_46 rfl rfl) ?_
  refine o_v (lv rfl) rfl (r_bld (ps := [_]) (cs := [_, _, _, _]) pl_46 rfl rfl) ?_
  refine o_bs (lv rfl) rfl el_39 ze_46 rfl rfl rfl (ps := [_, _, _, _, _, _]) rfl rfl rfl (cs := [_, _, _, _, _, _, _, _, _, _, _, _, _, _, _, _, _, _, _, _, _, _, _, _]) rfl hH ?_
  intro b14 w hH
  refine o_bs (lv rfl) rfl el_25 ze_39 rfl rfl rfl (ps := [_]) rfl rfl rfl (cs := [_]) rfl hH ?_
  intro b15 w hH
  refine o_v (lv rfl) rfl (r_bld (ps := [_, _]) (cs := [_, _, _, _, _, _]) pl_28 rfl rfl) ?_
  refine o_al (lv rfl) rfl ze_28 hH ?_
  intro b1 w hH
  refine o_st (lv rfl) rfl lk_28 rfl (vs := [_, _, _, _, _, _]) rfl rfl (by exact hH) rfl rfl (by simp) rfl ?_
  intro w hH; dsimp only [setL, List.set] at hH
  refine g_seq ?_
  have hH0 := hH
  have hb2 : (baseOf w).h b1 = some (.cells [.int .i64 1, .int .i64 2, .int .i64 1, .int .i64 0, .int .u64 6, .slice (some ⟨b15, 0, none⟩) 1 1].toArray 28 (0, 0)) := hH.c0
  have hP : RLists (.slice (some ⟨b15, 0, none⟩) 1 1) awLs (baseOf w).h := by
    refine ⟨[.slice (some ⟨b14, 0, none⟩) 6 6], rfl, rd_of_cel (w := w) [Value.slice (some ⟨b14, 0, none⟩) 6 6] hH.c1 rfl, ?_⟩
    intro i x l hx hl
    match i, hx, hl with
    | 0, hx, hl =>
      cases hx; cases hl
      exact rd_of_cel (w := w) ([⟨1, 1, 1, 2⟩, ⟨1, 2, 1, 2⟩, ⟨3, 1, 1, 0⟩, ⟨3, 2, 1, 0⟩, ⟨3, 1, 1, 0⟩, ⟨4, 0, 0, 0⟩] : List Call) hH.c2 rfl
    | i + 1, hx, hl => cases hx
  replace hH := holds_start w
  refine g_region (l := [0, 1, 2]) rfl ?_
  refine o_ldN (lv rfl) rfl lk_28 rfl ⟨_, _, _, hH.old hb2, _, rfl, rfl, ?_⟩
  refine o_call (lv rfl) rfl en_11 rfl (law27_Trace (R := baseOf _) (c := awC) (ls := awLs) (turns := []) (most := 20) aw_cfg hP aw_ls (by simp [awLs]) (by simp [awLs]) (Rd.nil _ _) (by simp) (by simp) (by omega) hH) ?_
  rintro _ w hH
  rw [show traceOf awC awLs [] 20 = awL from rfl] at hH; obtain ⟨xa, xcap, rfl⟩ := PtsC.len hH; have hH1 := hH; have hX := PtsC.rp hH; replace hP := RLists.up _ _ hP hH.ro; replace hb2 := hH.old hb2; replace hH := holds_start w
  refine vA (lv rfl) rfl rfl ?_
  refine g_seq ?_
  refine g_region (l := [0, 1, 2, 3, 4, 5, 6, 7, 8, 9]) rfl ?_
  refine o_ldN (lv rfl) rfl lk_28 rfl ⟨_, _, _, hH.old hb2, _, rfl, rfl, ?_⟩
  refine vM (lv rfl) rfl rfl ?_
  refine o_call (lv rfl) rfl en_14 rfl (fair_Gap (R := baseOf _) (c := awC) hP hX aw_ls (by omega) 1 2 (f_good aw_ls (by omega) 1 2) hH) ?_
  rintro _ w ⟨rfl, hH⟩
  rw [show fGap awC awLs awL 1 2 = (6, 12, true) from aw_gap]
  refine vM (lv rfl) rfl rfl ?_
  refine o_v (lv rfl) rfl (r_ex rfl rfl) ?_
  refine o_v (lv rfl) rfl (r_ex rfl rfl) ?_
  refine o_v (lv rfl) rfl (r_ex rfl rfl) ?_
  refine vA (lv rfl) rfl rfl ?_
  refine vA (lv rfl) rfl rfl ?_
  refine vA (lv rfl) rfl rfl ?_
  refine g_seq ?_
  refine g_region (l := [0, 1, 2, 3]) rfl ?_
  refine o_ldN (lv rfl) rfl lk_28 rfl ⟨_, _, _, hH.old hb2, _, rfl, rfl, ?_⟩
  refine vM (lv rfl) rfl rfl ?_
  refine o_call (lv rfl) rfl en_24 rfl (fair_Left (R := baseOf _) (c := awC) hP hX aw_ls (by omega) (book_le aw_ls hl) (book_keys aw_ls hl) hH) ?_
  rintro _ w ⟨out, hH, -, hout⟩
  obtain ⟨K, hK1, hK2, hK3⟩ := hout hpn; have hle := left_eq aw_ls (by omega) hme hK1 hK2; rw [aw_left, ← hK3] at hle; obtain rfl := Option.some.inj hle; obtain ⟨oa, ocap, rfl, -⟩ := hH.rd.len
  refine vA (lv rfl) rfl rfl ?_
  refine g_seq ?_
  rw [show (awL.length : Nat) = 6 from aw_len]
  refine g_region (l := [0, 1, 2, 3, 4, 5, 6, 7, 8, 9, 10, 11, 12, 13, 14, 15, 16, 17, 18, 19, 20, 21, 22, 23, 24, 25, 26, 27, 28, 29, 30, 31, 32, 33, 34, 35, 36, 37, 38, 39, 40, 41, 42, 43]) rfl ?_
  refine vM (lv rfl) rfl rfl ?_
  refine o_v (lv rfl) rfl (r_len el_30 rfl) ?_
  refine o_v (lv rfl) rfl (r_eq rfl rfl) ?_
  refine vM (lv rfl) rfl rfl ?_
  refine s_ops (fun g5_3 => ?_) (fun g5_3 => ?_)
  ·refine vM (lvg rfl rfl rfl) rfl rfl ?_
   refine o_v (lvg rfl rfl rfl) rfl (r_eq rfl rfl) ?_
   refine o_v (lv rfl) rfl (r_pickT rfl rfl) ?_
   refine vM (lv rfl) rfl rfl ?_
   refine s_ops (fun g5_7 => ?_) (fun g5_7 => ?_)
   ·refine vM (lvg rfl rfl rfl) rfl rfl ?_
    refine o_v (lvg rfl rfl rfl) rfl (r_eq rfl rfl) ?_
    refine o_v (lv rfl) rfl (r_pickT rfl rfl) ?_
    refine vM (lv rfl) rfl rfl ?_
    refine s_ops (fun g5_11 => ?_) (fun g5_11 => ?_)
    ·refine vM (lvg rfl rfl rfl) rfl rfl ?_
     refine o_v (lv rfl) rfl (r_pickT rfl rfl) ?_
     refine vM (lv rfl) rfl rfl ?_
     refine s_opsb (fun g5_14 => ?_) (fun g5_14 => ?_)
     ·refine o_ldN (lvg rfl rfl rfl) rfl lk_28 rfl ⟨_, _, _, hH.old hb2, _, rfl, rfl, ?_⟩
      refine vM (lvg rfl rfl rfl) rfl rfl ?_
      refine o_call (lvg rfl rfl rfl) rfl en_17 rfl (fair_Fair (R := baseOf _) (c := awC) hP hX aw_ls (by omega) (f_good aw_ls (by omega)) (book_keys aw_ls hl) hH) ?_
      rintro _ w ⟨bf, rfl, hbf, hH⟩
      obtain rfl : bf = true := hbf.2 (f_fair aw_ls (by omega) hme)
      refine o_v (lv rfl) rfl (r_pickT rfl rfl) ?_
      refine vM (lv rfl) rfl rfl ?_
      refine s_opsb (fun g5_19 => ?_) (fun g5_19 => ?_)
      ·refine o_ldN (lvg rfl rfl rfl) rfl lk_28 rfl ⟨_, _, _, hH.old hb2, _, rfl, rfl, ?_⟩
       refine vM (lvg rfl rfl rfl) rfl rfl ?_
       refine o_call (lvg rfl rfl rfl) rfl en_23 rfl (fair_Kept (R := baseOf _) (c := awC) hP hX aw_ls (by omega) hH) ?_
       rintro _ w ⟨rfl, hH⟩
       rw [show ((plays awC awLs awL).isSome && keptB (bookOf awC awLs awL).1) = true from by rw [Bool.and_eq_true]; exact ⟨aw_plays, book_kept aw_ls (by omega) hme⟩]
       refine o_v (lv rfl) rfl (r_pickT rfl rfl) ?_
       refine vM (lv rfl) rfl rfl ?_
       refine s_opsb (fun g5_24 => ?_) (fun g5_24 => ?_)
       ·refine vM (lvg rfl rfl rfl) rfl rfl ?_
        refine o_v (lvg rfl rfl rfl) rfl (r_len el_48 rfl) ?_
        refine o_v (lvg rfl rfl rfl) rfl (r_eq rfl rfl) ?_
        refine o_v (lv rfl) rfl (r_pickT rfl rfl) ?_
        refine vM (lv rfl) rfl rfl ?_
        refine s_ops (fun g5_29 => ?_) (fun g5_29 => ?_)
        ·obtain ⟨bl, ol, csl, Tl, hoe, hbl, hcx0⟩ := Rd.el hkP hH.rd (i := 0) rfl
         obtain ⟨bl2, ol2, csl2, Tl2, hoe2, hbl2, hcx1⟩ := Rd.el hkP hH.rd (i := 1) rfl
         rw [hoe] at hoe2
         cases hoe2
         rw [hbl] at hbl2
         obtain rfl : csl = csl2 := by have := (Obj.cells.inj (Option.some.inj hbl2)).1; simpa using this
         rw [hoe]
         have hcl0 := hcx0 0 _ rfl
         have hcl1 := hcx1 0 _ rfl
         refine vM (lvg rfl rfl rfl) rfl rfl ?_
         refine o_v (lvg rfl rfl rfl) rfl (r_ia el_48 rfl rfl ?_ ?_) ?_; omega; omega
         refine o_v (lvg rfl rfl rfl) rfl (r_fa fa_54_0 rfl) ?_
         refine o_ld (lvg rfl rfl rfl) rfl lk_3 rfl ⟨_, _, _, hbl, _, hcl0, ?_⟩
         refine o_v (lvg rfl rfl rfl) rfl (r_eq rfl rfl) ?_
         refine o_v (lv rfl) rfl (r_pickT rfl rfl) ?_
         refine vM (lv rfl) rfl rfl ?_
         refine s_ops (fun g5_36 => ?_) (fun g5_36 => ?_)
         ·refine vM (lvg rfl rfl rfl) rfl rfl ?_
          refine o_v (lvg rfl rfl rfl) rfl (r_ia el_48 rfl rfl ?_ ?_) ?_; omega; omega
          refine o_v (lvg rfl rfl rfl) rfl (r_fa fa_54_0 rfl) ?_
          refine o_ld (lvg rfl rfl rfl) rfl lk_3 rfl ⟨_, _, _, hbl, _, hcl1, ?_⟩
          refine o_v (lvg rfl rfl rfl) rfl (r_eq rfl rfl) ?_
          refine o_v (lv rfl) rfl (r_pickT rfl rfl) ?_
          refine vA (lv rfl) rfl rfl ?_
          refine g_rq Tryz.func16 (res_t rfl res_0) ?_
          first
          | (have hg := g5_36; exact absurd rfl hg)
          | exact ⟨bv rfl, by have hH := hH0.merge (hH1.merge hH); exact (hH.sel (by repeat' (first | exact Sel.refl _ | refine Sel.skip _ ?_)))⟩
         ·refine o_no rfl rfl rfl rfl ?_
          refine o_no rfl rfl rfl rfl ?_
          refine o_no rfl rfl rfl rfl ?_
          refine o_no rfl rfl rfl rfl ?_
          refine o_no rfl rfl rfl rfl ?_
          refine o_v (lv rfl) rfl (r_pickF rfl rfl) ?_
          refine vA (lv rfl) rfl rfl ?_
          refine g_rq Tryz.func16 (res_t rfl res_0) ?_
          first
          | (have hg := g5_36; exact absurd rfl hg)
          | exact ⟨bv rfl, by have hH := hH0.merge (hH1.merge hH); exact (hH.sel (by repeat' (first | exact Sel.refl _)))⟩
        ·exact absurd rfl g5_29
       ·cases g5_24
      ·cases g5_19
     ·cases g5_14
    ·exact absurd rfl g5_11
   ·exact absurd rfl g5_7
  ·exact absurd rfl g5_3
end
end Go.Proofs.YtkdbglfdgeldpaaGreat
