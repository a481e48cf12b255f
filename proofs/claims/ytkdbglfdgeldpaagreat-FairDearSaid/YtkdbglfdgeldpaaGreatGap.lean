/- Contracts of package fair: how far two flows are apart. Condition: what is told of both has come, and costs little. -/
import Derived.Test.YtkdbglfdgeldpaaGreatRead
namespace Go.Proofs.YtkdbglfdgeldpaaGreat
open Go.Lt
def smallI (x : Int) : Prop := -4611686018427387904 < x ∧ x < 4611686018427387904
instance (x : Int) : Decidable (smallI x) := by unfold smallI; infer_instance
def gTell (A : As) (f g : Int) (t : Int × Nat × Nat) (p : Packet) : Option (Int × Nat × Nat) :=
  if p.flow = f then match (aget A f).came[t.2.1]? with
    | none => none
    | some q => if (0 ≤ q.cost ∧ q.cost ≤ 4611686018427387904) ∧ smallI (t.1 + q.cost) then some (t.1 + q.cost, t.2.1 + 1, t.2.2) else none
  else if p.flow = g then match (aget A g).came[t.2.2]? with
    | none => none
    | some q => if (0 ≤ q.cost ∧ q.cost ≤ 4611686018427387904) ∧ smallI (t.1 - q.cost) then some (t.1 - q.cost, t.2.1, t.2.2 + 1) else none
  else some t
def gTells (A : As) (f g : Int) : List Packet → Int × Nat × Nat → Option (Int × Nat × Nat)
  | [], t => some t
  | p :: ps, t => match gTell A f g t p with
    | none => none
    | some t' => gTells A f g ps t'
theorem gTells_S {A : As} {f g : Int} {p : Packet} {ps : List Packet} {t r : Int × Nat × Nat} (h : gTells A f g (p :: ps) t = some r) : ∃ t', gTell A f g t p = some t' ∧ gTells A f g ps t' = some r := by
  unfold gTells at h
  split at h
  ·cases h
  ·rename_i t' ht; exact ⟨t', ht, h⟩
theorem gTell_f {A : As} {f g : Int} {p : Packet} {t t' : Int × Nat × Nat} (h : gTell A f g t p = some t') (hp : p.flow = f) :
    ∃ q, (aget A f).came[t.2.1]? = some q ∧ 0 ≤ q.cost ∧ q.cost ≤ 4611686018427387904 ∧ smallI (t.1 + q.cost) ∧ t' = (t.1 + q.cost, t.2.1 + 1, t.2.2) := by
  unfold gTell at h
  rw [if_pos hp] at h
  split at h
  ·cases h
  ·rename_i q hq
   split at h
   ·rename_i hc; cases h; exact ⟨q, hq, hc.1.1, hc.1.2, hc.2, rfl⟩
   ·cases h
theorem gTell_g {A : As} {f g : Int} {p : Packet} {t t' : Int × Nat × Nat} (h : gTell A f g t p = some t') (hf : p.flow ≠ f) (hp : p.flow = g) :
    ∃ q, (aget A g).came[t.2.2]? = some q ∧ 0 ≤ q.cost ∧ q.cost ≤ 4611686018427387904 ∧ smallI (t.1 - q.cost) ∧ t' = (t.1 - q.cost, t.2.1, t.2.2 + 1) := by
  unfold gTell at h
  rw [if_neg hf, if_pos hp] at h
  split at h
  ·cases h
  ·rename_i q hq
   split at h
   ·rename_i hc; cases h; exact ⟨q, hq, hc.1.1, hc.1.2, hc.2, rfl⟩
   ·cases h
theorem gTell_o {A : As} {f g : Int} {p : Packet} {t t' : Int × Nat × Nat} (h : gTell A f g t p = some t') (hf : p.flow ≠ f) (hp : p.flow ≠ g) : t' = t := by
  unfold gTell at h
  rw [if_neg hf, if_neg hp] at h
  cases h; rfl
structure Gs where
  m : Mdl
  t : Int × Nat × Nat
  low : Int
  high : Int
  most : Int
  ins : Bool
def both (m : Mdl) (f g : Int) : Bool := decide (0 < m.s.lenAt f) && decide (0 < m.s.lenAt g)
def gEnd (f g : Int) (m' : Mdl) (s : Gs) (t : Int × Nat × Nat) : Gs :=
  if both m' f g = true then
    ⟨m', t, min (if s.ins then s.low else t.1) t.1, max (if s.ins then s.high else t.1) t.1, max s.most (max (if s.ins then s.high else t.1) t.1 - min (if s.ins then s.low else t.1) t.1), true⟩
  else ⟨m', t, s.low, s.high, s.most, false⟩
def gapL (A : As) (f g : Int) (ls : List (List Call)) : List Point → Gs → Option Gs
  | [], s => some s
  | x :: l, s => match gTells A f g x.ret.packets s.t with
    | none => none
    | some t => gapL A f g ls l (gEnd f g (s.m.do (callOf ls x).1).2 s t)
theorem gapL_S {A : As} {f g : Int} {ls : List (List Call)} {x : Point} {l : List Point} {s r : Gs} (h : gapL A f g ls (x :: l) s = some r) :
    ∃ t, gTells A f g x.ret.packets s.t = some t ∧ gapL A f g ls l (gEnd f g (s.m.do (callOf ls x).1).2 s t) = some r := by
  unfold gapL at h
  split at h
  ·cases h
  ·rename_i t ht; exact ⟨t, ht, h⟩
def gs0 (c : Config) (f g : Int) : Gs := ⟨mkMdl c, (0, 0, 0), 0, 0, 0, both (mkMdl c) f g⟩
def Gs.ok (s : Gs) : Prop := smallI s.t.1 ∧ smallI s.low ∧ smallI s.high ∧ 0 ≤ s.most ∧ s.most < 9223372036854775807
theorem gTells_small {A : As} {f g : Int} : ∀ (ps : List Packet) (t t' : Int × Nat × Nat), smallI t.1 → gTells A f g ps t = some t' → smallI t'.1
  | [], t, t', h, he => by cases he; exact h
  | p :: ps, t, t', h, he => by
    obtain ⟨u, hu, hr⟩ := gTells_S he
    refine gTells_small ps u t' ?_ hr
    by_cases hf : p.flow = f
    ·obtain ⟨q, _, _, _, h1, rfl⟩ := gTell_f hu hf; exact h1
    ·by_cases hg : p.flow = g
     ·obtain ⟨q, _, _, _, h1, rfl⟩ := gTell_g hu hf hg; exact h1
     ·rw [gTell_o hu hf hg]; exact h
theorem gEnd_ok {f g : Int} {m' : Mdl} {s : Gs} {t : Int × Nat × Nat} (hs : s.ok) (ht : smallI t.1) : (gEnd f g m' s t).ok := by
  unfold Gs.ok smallI at *
  unfold gEnd
  split
  ·split <;> (simp only; omega)
  ·exact ⟨ht, hs.2⟩
section
variable {R : Base} {F : List HP} {w : World}
theorem fair_gap1 {b7 b4 b5 bm : Nat} {m : Mdl} (f g : Int) (hH : Holds R (MdlC bm m :: cel b7 [.pointer (some ⟨bm, 0, none⟩)] 60 :: cel b4 [.int .i64 f] 3 :: cel b5 [.int .i64 g] 3 :: F) w) :
    Ret Tryz.prog 79 [.pointer (some ⟨b7, 0, none⟩), .pointer (some ⟨b4, 0, none⟩), .pointer (some ⟨b5, 0, none⟩)] w fun v w' => v = .bool (both m f g) ∧ Holds R (MdlC bm m :: cel b7 [.pointer (some ⟨bm, 0, none⟩)] 60 :: cel b4 [.int .i64 f] 3 :: cel b5 [.int .i64 g] 3 :: F) w' := by
  refine ret_of_g (n := 14) Tryz.func79 rfl rfl (by simp) ?_
  refine g_seq ?_
  refine g_region (l := [0]) rfl ?_
  refine vA (lv rfl) rfl rfl ?_
  refine g_seq ?_
  refine g_region (l := [0, 1, 2, 3, 4, 5, 6, 7, 8, 9, 10]) rfl ?_
  refine o_ld (lv rfl) rfl lk_60 rfl ⟨_, _, _, hH.c1, _, rfl, ?_⟩
  refine o_ld (lv rfl) rfl lk_3 rfl ⟨_, _, _, hH.c2, _, rfl, ?_⟩
  refine o_call (lv rfl) rfl en_29 rfl (model_Len _ (by exact hH)) ?_
  rintro _ w ⟨rfl, hH⟩
  refine o_v (lv rfl) rfl (r_gt rfl rfl) ?_
  refine vM (lv rfl) rfl rfl ?_
  refine s_ops (fun g1_4 => ?_) (fun g1_4 => ?_)
  ·refine o_ld (lvg rfl rfl rfl) rfl lk_60 rfl ⟨_, _, _, hH.c1, _, rfl, ?_⟩
   refine o_ld (lvg rfl rfl rfl) rfl lk_3 rfl ⟨_, _, _, hH.c3, _, rfl, ?_⟩
   refine o_call (lvg rfl rfl rfl) rfl en_29 rfl (model_Len _ (by exact hH)) ?_
   rintro _ w ⟨rfl, hH⟩
   refine o_v (lvg rfl rfl rfl) rfl (r_gt rfl rfl) ?_
   refine o_v (lv rfl) rfl (r_pickT rfl rfl) ?_
   refine vA (lv rfl) rfl rfl ?_
   refine g_rq Tryz.func79 (res_t rfl res_0) ?_
   exact ⟨bv (by unfold both; first | (simp_all; done) | (simp_all; intros; omega)), (hH.sel (by repeat' (first | exact Sel.refl _)))⟩
  ·refine o_no rfl rfl rfl rfl ?_
   refine o_no rfl rfl rfl rfl ?_
   refine o_no rfl rfl rfl rfl ?_
   refine o_no rfl rfl rfl rfl ?_
   refine o_v (lv rfl) rfl (r_pickF rfl rfl) ?_
   refine vA (lv rfl) rfl rfl ?_
   refine g_rq Tryz.func79 (res_t rfl res_0) ?_
   exact ⟨bv (by unfold both; first | (simp_all; done) | (simp_all; intros; omega)), (hH.sel (by repeat' (first | exact Sel.refl _)))⟩
theorem fair_gap {bk mb : Nat} {c : Config} {lsv xv : Value} {ls : List (List Call)} {l : List Point} {A : As} {sum : Int} {n : Nat} (hP : RLists lsv ls R.h) (hX : RPoints xv l R.h) (hls : listsOk ls) (hl : l.length ≤ 1000000) (hcfg : cfgOk c) (hpk : ∀ x ∈ l, x.ret.packets.length ≤ 100) (hA : aOk n A) (hn : n ≤ 1000000000) (f g : Int)
    {rs : Gs} (hg : gapL A f g ls l (gs0 c f g) = some rs) (hH : Holds R (cel bk (bkCells c lsv xv mb sum) 91 :: AccsC mb A :: F) w) :
    Ret Tryz.prog 45 [.pointer (some ⟨bk, 0, none⟩), .int .i64 f, .int .i64 g] w fun v w' => v = .int .u64 rs.most ∧ Holds R (cel bk (bkCells c lsv xv mb sum) 91 :: AccsC mb A :: F) w' := by
  obtain ⟨sl, rfl, hsr, hsp⟩ := hX
  obtain ⟨a, cap, rfl, -⟩ := hsr.len
  rw [List.length_map] at hl
  have hgf := aget_ok hA f
  have hgg := aget_ok hA g
  unfold accOk at hgf hgg
  have hcfg' := hcfg; unfold cfgOk at hcfg'
  rw [show sl.map Prod.fst = (sl.map Prod.fst).drop 0 from rfl] at hg
  refine ret_of_g (n := 134) Tryz.func45 rfl rfl (by simp) ?_
  refine g_seq ?_
  refine g_region (l := [0, 1, 2]) rfl ?_
  refine o_box (lv rfl) rfl (cs := [_]) rfl rfl hH ?_
  intro b4 w hH
  refine o_box (lv rfl) rfl (cs := [_]) rfl rfl hH ?_
  intro b5 w hH
  refine vA (lv rfl) rfl rfl ?_
  refine g_seq ?_
  refine g_region (l := [0, 1, 2, 3, 4, 5, 6, 7, 8, 9, 10, 11]) rfl ?_
  refine vM (lv rfl) rfl rfl ?_
  refine o_v (lv rfl) rfl (r_nil rfl) ?_
  refine o_v (lv rfl) rfl (r_fa fa_91_0 rfl) ?_
  refine o_v (lv rfl) rfl (r_fa fa_28_0 rfl) ?_
  refine o_ldN (lv rfl) rfl lk_24 rfl ⟨_, _, _, hH.c2, [_, _, _, _, _], rfl, rfl, ?_⟩
  refine o_call (lv rfl) rfl en_57 rfl (model_New c hH) ?_
  rintro _ w hv
  rw [if_pos hcfg] at hv; obtain ⟨bm, rfl, hH⟩ := hv
  refine vM (lv rfl) rfl rfl ?_
  refine o_v (lv rfl) rfl (r_ex rfl rfl) ?_
  refine o_v (lv rfl) rfl (r_ex rfl rfl) ?_
  refine o_al (lv rfl) rfl ze_60 hH ?_
  intro b7 w hH
  refine o_st (lv rfl) rfl lk_60 rfl (vs := [_]) rfl rfl (by exact hH) rfl rfl (by simp) rfl ?_
  intro w hH; dsimp only [setL, List.set] at hH
  refine vA (lv rfl) rfl rfl ?_
  refine g_seq ?_
  refine g_region (l := [0, 1]) rfl ?_
  refine o_v (lv rfl) rfl (r_mkf (a := []) (b := [_, _, _]) rfl rfl) ?_
  refine vA (lv rfl) rfl rfl ?_
  refine g_seq ?_
  refine g_region (l := [0, 1, 2, 3]) rfl ?_
  refine vA (lv rfl) rfl rfl ?_
  refine vA (lv rfl) rfl rfl ?_
  refine vA (lv rfl) rfl rfl ?_
  refine vA (lv rfl) rfl rfl ?_
  refine g_seq ?_
  refine g_region (l := [0, 1, 2]) rfl ?_
  refine o_v (lv rfl) rfl (r_blda (ps := []) (pl := [_, _]) (cs := [_, _]) pa_138 rfl rfl rfl) ?_
  refine o_al (lv rfl) rfl ze_138 hH ?_
  intro b14 w hH
  refine o_st (lv rfl) rfl lk_138 rfl (vs := [_, _]) rfl rfl (by exact hH) rfl rfl (by simp) rfl ?_
  intro w hH; dsimp only [setL, List.set] at hH
  refine g_seq ?_
  refine g_region (l := [0, 1, 2]) rfl ?_
  refine vM (lv rfl) rfl rfl ?_
  refine o_callv (first := []) (cap := [_, _, _]) (lv rfl) rfl rfl en_79 rfl rfl (fair_gap1 (m := mkMdl c) (bm := bm) (F := cel b14 [.int .i64 0, .int .i64 0] 138 :: cel bk (bkCells c lsv (.slice a sl.length cap) mb sum) 91 :: AccsC mb A :: F) f g (hH.sel (by repeat' (first | exact Sel.refl _ | refine Sel.q1 ?_ | refine Sel.q2 ?_)))) ?_; rintro _ w ⟨rfl, hH⟩
  refine vA (lv rfl) rfl rfl ?_
  refine g_seq ?_
  refine g_seq ?_
  refine g_region (l := [0, 1, 2, 3, 4, 5]) rfl ?_
  refine vM (lv rfl) rfl rfl ?_
  refine o_v (lv rfl) rfl (r_nil rfl) ?_
  refine o_v (lv rfl) rfl (r_fa fa_91_1 rfl) ?_
  refine o_ld (lv rfl) rfl lk_30 rfl ⟨_, _, _, hH.c5, _, rfl, ?_⟩
  refine o_v (lv rfl) rfl (r_len el_30 rfl) ?_
  refine vM (lv rfl) rfl rfl ?_
  refine g_block ?_
  refine g_loop (fun mm e w => ∃ (k : Nat) (e0 : Env) (mk : Mdl) (sm : Int) (n0 n1 : Nat) (low high most : Int) (ins : Bool), k ≤ sl.length ∧ mm = sl.length - k ∧ mk.ok k ∧ mk.s.inv ∧ Gs.ok ⟨mk, (sm, n0, n1), low, high, most, ins⟩ ∧ gapL A f g ls ((sl.map Prod.fst).drop k) ⟨mk, (sm, n0, n1), low, high, most, ins⟩ = some rs ∧
      e = J e0 [(0, .pointer (some ⟨bk, 0, none⟩)), (4, .pointer (some ⟨b4, 0, none⟩)), (5, .pointer (some ⟨b5, 0, none⟩)), (7, .pointer (some ⟨b7, 0, none⟩)), (9, .func (.func 79) #[] #[.pointer (some ⟨b7, 0, none⟩), .pointer (some ⟨b4, 0, none⟩), .pointer (some ⟨b5, 0, none⟩)]),
        (10, .int .i64 sm), (11, .int .i64 low), (12, .int .i64 high), (13, .int .i64 most), (14, .pointer (some ⟨b14, 0, none⟩)), (15, .bool ins), (38, .slice a sl.length cap), (39, .int .i64 sl.length), (40, .int .i64 k)] ∧
      Holds R (MdlC bm mk :: cel b7 [.pointer (some ⟨bm, 0, none⟩)] 60 :: cel b4 [.int .i64 f] 3 :: cel b5 [.int .i64 g] 3 :: cel b14 [.int .i64 n0, .int .i64 n1] 138 :: cel bk (bkCells c lsv (.slice a sl.length cap) mb sum) 91 :: AccsC mb A :: F) w) sl.length ⟨0, _, mkMdl c, 0, 0, 0, 0, 0, 0, both (mkMdl c) f g, by omega, by omega, mkMdl_ok c hcfg, mkMdl_inv c, by unfold Gs.ok smallI; simp, hg, (J_self (has_s rfl (has_s rfl (has_s rfl (has_s rfl (has_s rfl (has_s rfl (has_s rfl (has_s rfl (has_s rfl (has_s rfl (has_s rfl (has_s rfl (has_s rfl (has_s rfl has_0))))))))))))))), (hH.sel (by repeat' (first | exact Sel.refl _)))⟩ ?_
  rintro mm _ w ⟨k, e0, mk, sm, n0, n1, low, high, most, ins, hk, hm, hmk, hmi, hsok, hgo, rfl, hH⟩ hback
  have hsok' := hsok; unfold Gs.ok smallI at hsok'
  dsimp only at hsok'
  refine g_seq ?_
  refine g_region (l := [0]) rfl ?_
  refine o_v (lv rfl) rfl (r_lt rfl rfl) ?_
  refine g_seq ?_
  refine g_if rfl (fun c0 => ?_) (fun c0 => ?_)
  ·have hkl : k < sl.length := by omega
   obtain ⟨⟨x, pv⟩, hx⟩ : ∃ x, sl[k]? = some x := ⟨_, List.getElem?_eq_getElem hkl⟩
   have hxm : (sl.map Prod.fst)[k]? = some x := by rw [List.getElem?_map, hx]; rfl
   have hpr : Rd encP pv x.ret.packets R.h := hsp _ (List.mem_of_getElem? hx)
   obtain ⟨pa, pcap, rfl, hpc⟩ := hpr.len
   obtain ⟨bp, op_, cs, T, hae, hbp, hcp0⟩ := Rd.el hkPt hsr hx
   rw [hae]; rw [hae] at hback hH
   have hcp := dt_of hcp0
   have hco := callOf_ok hls x
   have hdo := Mdl.do_ok hmk (by omega) hco
   have hx16 := hpk x (List.mem_of_getElem? hxm)
   rw [drop_S hxm] at hgo
   obtain ⟨t1, ht1, hgo⟩ := gapL_S hgo
   have ht1s := gTells_small _ _ _ hsok.1 ht1
   have hok1 := gEnd_ok (f := f) (g := g) (m' := (mk.do (callOf ls x).1).2) hsok ht1s
   dsimp only at hgo ht1 ht1s hok1
   refine g_skip ?_
   refine g_seq ?_
   refine g_block ?_
   refine g_seq ?_
   refine g_region (l := [0, 1, 2, 3]) rfl ?_
   refine o_v (lv rfl) rfl (r_ia el_30 rfl rfl ?_ ?_) ?_; omega; omega
   refine o_ldN (lv rfl) rfl lk_59 rfl ⟨_, _, _, hH.old hbp, _, hcp, rfl, ?_⟩
   refine o_al (lv rfl) rfl ze_59 hH ?_
   intro b17 w hH
   refine o_st (lv rfl) rfl lk_59 rfl (vs := [_, _, _, _, _, _, _]) rfl rfl (by exact hH) rfl rfl (by simp) rfl ?_
   intro w hH; dsimp only [setL, List.set] at hH
   refine g_seq ?_
   refine rD mixed hH fun w hH => ?_
   refine pM 0 (lv rfl) rfl rfl ?_
   refine pN 1 (lv rfl) rfl rfl ?_
   refine pF 2 (lv rfl) rfl fa_91_0 rfl ?_
   refine d_ldN (i := 3) [5, 10] (lv rfl) rfl lk_28 rfl (by kernel_rfl) ⟨_, _, _, hH.c6, [_, _, _, _, _, _], rfl, rfl, ?_⟩
   refine d_ldN (i := 4) [5, 10] (lv rfl) rfl lk_59 rfl (by kernel_rfl) ⟨_, _, _, hH.c0, [_, _, _, _, _, _, _], rfl, rfl, ?_⟩
   refine d_l2 (j := 5) (j2 := 9) (by kernel_rfl) ?_ ?_
   ·refine o_call (lv rfl) rfl en_58 rfl (wit_Call (c := c) hP (by have := hls.1; omega) x hH) ?_
    rintro _ w ⟨rfl, hH⟩
    refine ⟨(keeps_in rfl (keeps_in rfl trivial)), ?_⟩
    refine pM 6 (lv rfl) rfl rfl ?_
    refine pE 7 (lv rfl) rfl rfl rfl ?_
    refine pE 8 (lv rfl) rfl rfl rfl ?_
    refine d_l (j := 9) (by kernel_rfl) ?_
    refine o_al (lv rfl) rfl ze_46 hH ?_
    intro b18 w hH
    refine ⟨(keeps_cons (fun _ => (by exact hH.c1)) (keeps_cons (fun _ => (by exact hH.c7)) trivial)), ?_⟩
    refine d_l (j := 10) (by kernel_rfl) ?_
    refine o_st (lv rfl) rfl lk_46 rfl (vs := [_, _, _, _]) rfl rfl (by exact hH) rfl rfl (by simp) rfl ?_
    intro w hH; dsimp only [setL, List.set] at hH
    refine ⟨(keeps_in rfl (keeps_in rfl trivial)), ?_⟩
    refine pA 11 (lv rfl) rfl rfl ?_
    refine d_end (by kernel_rfl) ?_
    refine g_seq ?_
    refine g_region (l := [0, 1, 2]) rfl ?_
    refine o_ld (lv rfl) rfl lk_60 rfl ⟨_, _, _, hH.c3, _, rfl, ?_⟩
    refine o_ldN (lv rfl) rfl lk_46 rfl ⟨_, _, _, hH.c0, [_, _, _, _], rfl, rfl, ?_⟩
    refine o_call (lv rfl) rfl en_60 rfl (model_Do hmk.1 hmk.2.1 (by have := hmk.2.2.1; omega) hmi ⟨hmk.2.2.2.1, by have := hmk.2.2.2.2; omega⟩ _ hco (by exact hH.p2)) ?_
    rintro _ w ⟨pv2, rfl, hH⟩
    refine g_seq ?_
    refine g_seq ?_
    refine g_region (l := [0, 1, 2, 3, 4]) rfl ?_
    refine o_v (lv rfl) rfl (r_fa fa_59_3 rfl) ?_
    refine o_v (lv rfl) rfl (r_fa fa_57_1 rfl) ?_
    refine o_ld (lv rfl) rfl lk_48 rfl ⟨_, _, _, hH.c3, _, rfl, ?_⟩
    refine o_v (lv rfl) rfl (r_len el_48 rfl) ?_
    refine vM (lv rfl) rfl rfl ?_
    refine g_block ?_
    refine g_loop (fun mm e w => ∃ (j : Nat) (e0 : Env) (ts : Int) (q0 q1 : Nat), j ≤ x.ret.packets.length ∧ mm = x.ret.packets.length - j ∧ smallI ts ∧ gTells A f g (x.ret.packets.drop j) (ts, q0, q1) = some t1 ∧
        e = J e0 [(0, .pointer (some ⟨bk, 0, none⟩)), (4, .pointer (some ⟨b4, 0, none⟩)), (5, .pointer (some ⟨b5, 0, none⟩)), (7, .pointer (some ⟨b7, 0, none⟩)), (9, .func (.func 79) #[] #[.pointer (some ⟨b7, 0, none⟩), .pointer (some ⟨b4, 0, none⟩), .pointer (some ⟨b5, 0, none⟩)]),
          (10, .int .i64 ts), (11, .int .i64 low), (12, .int .i64 high), (13, .int .i64 most), (14, .pointer (some ⟨b14, 0, none⟩)), (15, .bool ins), (38, .slice (some ⟨bp, op_, none⟩) sl.length cap), (39, .int .i64 sl.length), (40, .int .i64 k), (58, .slice pa x.ret.packets.length pcap), (59, .int .i64 x.ret.packets.length), (60, .int .i64 j)] ∧
        Holds R (MdlC bm (mk.do (callOf ls x).1).2 :: cel b7 [.pointer (some ⟨bm, 0, none⟩)] 60 :: cel b4 [.int .i64 f] 3 :: cel b5 [.int .i64 g] 3 :: cel b14 [.int .i64 q0, .int .i64 q1] 138 :: cel bk (bkCells c lsv (.slice (some ⟨bp, op_, none⟩) sl.length cap) mb sum) 91 :: AccsC mb A :: F) w) x.ret.packets.length ⟨0, _, sm, n0, n1, by omega, by omega, hsok.1, ht1, (J_self (has_s rfl (has_s rfl (has_s rfl (has_s rfl (has_s rfl (has_s rfl (has_s rfl (has_s rfl (has_s rfl (has_s rfl (has_s rfl (has_s rfl (has_s rfl (has_s rfl (has_s rfl (has_s rfl (has_s rfl has_0)))))))))))))))))), (hH.sel (by repeat' (first | exact Sel.refl _ | refine Sel.q1 ?_ | refine Sel.q3 ?_ | refine Sel.skip _ ?_)))⟩ ?_
    rintro mm2 _ w ⟨j, e1, ts, q0, q1, hj, hm2, hts, hte, rfl, hH⟩ hback2
    have hts' := hts; unfold smallI at hts'
    refine g_seq ?_
    refine g_region (l := [0]) rfl ?_
    refine o_v (lv rfl) rfl (r_lt rfl rfl) ?_
    refine g_seq ?_
    refine g_if rfl (fun c1 => ?_) (fun c1 => ?_)
    ·have hjl : j < x.ret.packets.length := by omega
     obtain ⟨p, hp2⟩ : ∃ p, x.ret.packets[j]? = some p := ⟨_, List.getElem?_eq_getElem hjl⟩
     obtain ⟨bx, ox, csx, Tx, hpe, hbx, hcx0⟩ := Rd.el hkP hpr hp2
     rw [hpe]; rw [hpe] at hback2
     have hcx := dt_of hcx0
     rw [show x.ret.packets.drop j = p :: x.ret.packets.drop (j + 1) from by
       obtain ⟨h1, h2⟩ := List.getElem?_eq_some_iff.1 hp2
       rw [List.drop_eq_getElem_cons h1, h2]] at hte
     obtain ⟨t2, ht2, hte⟩ := gTells_S hte
     refine g_skip ?_
     refine g_seq ?_
     refine g_block ?_
     refine g_seq ?_
     refine g_region (l := [0, 1, 2, 3]) rfl ?_
     refine o_v (lv rfl) rfl (r_ia el_48 rfl rfl ?_ ?_) ?_; omega; omega
     refine o_ldN (lv rfl) rfl lk_54 rfl ⟨_, _, _, hH.old hbx, _, hcx, rfl, ?_⟩
     refine o_al (lv rfl) rfl ze_54 hH ?_
     intro b21 w hH
     refine o_st (lv rfl) rfl lk_54 rfl (vs := [_, _, _]) rfl rfl (by exact hH) rfl rfl (by simp) rfl ?_
     intro w hH; dsimp only [setL, List.set] at hH
     refine g_seq ?_
     refine g_region (l := [0, 1]) rfl ?_
     refine o_v (lv rfl) rfl (r_fa fa_54_0 rfl) ?_
     refine o_ld (lv rfl) rfl lk_3 rfl ⟨_, _, _, hH.c0, _, rfl, ?_⟩
     refine g_block ?_
     refine g_seq ?_
     refine g_region (l := [0, 1, 2]) rfl ?_
     refine o_ld (lv rfl) rfl lk_3 rfl ⟨_, _, _, hH.c3, _, rfl, ?_⟩
     refine o_v (lv rfl) rfl (r_eq rfl rfl) ?_
     refine vA (lv rfl) rfl rfl ?_
     refine g_if rfl (fun c2 => ?_) (fun c2 => ?_)
     ·refine g_seq ?_
      obtain ⟨q, hq, hq0, hq1, hqs, rfl⟩ := gTell_f ht2 c2
      have hqs' := hqs
      unfold smallI at hqs'
      dsimp only at hq hqs hqs' hte
      obtain ⟨lm, cv, av, rest, hval, hH, hkeep, -⟩ := AccsC.take (F := cel bk (bkCells c lsv (.slice (some ⟨bp, op_, none⟩) sl.length cap) mb sum) 91 :: cel b14 [.int .i64 q0, .int .i64 q1] 138 :: MdlC bm (mk.do (callOf ls x).1).2 :: cel b7 [.pointer (some ⟨bm, 0, none⟩)] 60 :: cel b4 [.int .i64 f] 3 :: cel b5 [.int .i64 g] 3 :: F) f (hH.sel (by repeat' (first | exact Sel.refl _ | refine Sel.q1 ?_ | refine Sel.q5 ?_ | refine Sel.q6 ?_ | refine Sel.q7 ?_ | refine Sel.skip _ ?_)))
      obtain ⟨ca, ccap, hce, -⟩ := hH.p1.rd.len
      obtain ⟨la, lcap, hle, -⟩ := hH.p2.rd.len
      rw [hce, hle] at hval hH
      have hqlt := (List.getElem?_eq_some_iff.1 hq).1
      obtain ⟨bq, oq, csq, Tq, hqe, hbq, hcq0⟩ := Rd.el hkPc hH.p1.rd hq
      rw [hqe] at hval hH
      have hcq := hcq0 3 _ rfl
      have hfin : ∀ {w : World}, Holds R (MapC mb lm :: Vec 108 5 encPc (.slice (some ⟨bq, oq, none⟩) (aget A f).came.length ccap) (aget A f).came :: Vec 3 1 encI (.slice la (aget A f).left.length lcap) (aget A f).left :: rest :: cel bk (bkCells c lsv (.slice (some ⟨bp, op_, none⟩) sl.length cap) mb sum) 91 :: cel b14 [.int .i64 (q0 + 1 : Nat), .int .i64 q1] 138 :: MdlC bm (mk.do (callOf ls x).1).2 :: cel b7 [.pointer (some ⟨bm, 0, none⟩)] 60 :: cel b4 [.int .i64 f] 3 :: cel b5 [.int .i64 g] 3 :: F) w →
          Holds R (MdlC bm (mk.do (callOf ls x).1).2 :: cel b7 [.pointer (some ⟨bm, 0, none⟩)] 60 :: cel b4 [.int .i64 f] 3 :: cel b5 [.int .i64 g] 3 :: cel b14 [.int .i64 (q0 + 1 : Nat), .int .i64 q1] 138 :: cel bk (bkCells c lsv (.slice (some ⟨bp, op_, none⟩) sl.length cap) mb sum) 91 :: AccsC mb A :: F) w := fun {w} hH => by
        rw [← hqe, ← hce, ← hle] at hH
        replace hH := hkeep _ _ hH
        exact (hH.sel (by repeat' (first | exact Sel.refl _ | refine Sel.q1 ?_ | refine Sel.q2 ?_ | refine Sel.q3 ?_)))
      refine g_regionD mixed ?_
      rintro w1 rfl; replace hH := hH.drew (n := w.drawn + 1); replace hbq := drewf (n := w.drawn + 1) hbq; generalize hw1 : { w with drawn := w.drawn + 1 } = w at hH ⊢; rw [hw1] at hbq; clear hw1
      refine pM 0 (lv rfl) rfl rfl ?_
      refine pM 1 (lv rfl) rfl rfl ?_
      refine pN 2 (lv rfl) rfl rfl ?_
      refine pF 3 (lv rfl) rfl fa_91_2 rfl ?_
      refine d_ld (i := 4) [] (lv rfl) rfl lk_89 rfl (by kernel_rfl) ⟨_, _, _, hH.c4, _, rfl, ?_⟩
      refine d_ld (i := 5) [] (lv rfl) rfl lk_3 rfl (by kernel_rfl) ⟨_, _, _, hH.c8, _, rfl, ?_⟩
      refine d_q (i := 6) (fun w => MapR _ _ (Go.Lt.hp w)) [] (lv rfl) rfl (fun w hS => r_lkw mp_89 rfl rfl hS (hval)) (by exact hH.mrd) (by kernel_rfl) ?_
      refine d_p (i := 7) (lv rfl) rfl (fun w => (r_fld (cs := [_, _, _, _]) (off := 1) (fT := 104) rfl (by kernel_rfl) lk_104 rfl)) (by kernel_rfl) ?_
      refine d_p (i := 8) (lv rfl) rfl (fun w => (r_iaa ar_138 rfl rfl ?_ ?_)) (by kernel_rfl) ?_; omega; omega
      refine d_ld (i := 9) [] (lv rfl) rfl lk_3 rfl (by kernel_rfl) ⟨_, _, _, hH.c5, _, rfl, ?_⟩
      refine d_p (i := 10) (lv rfl) rfl (fun w => (r_ia el_104 rfl rfl ?_ ?_)) (by kernel_rfl) ?_; omega; omega
      refine pF 11 (lv rfl) rfl fa_108_1 rfl ?_
      refine d_ld (i := 12) [] (lv rfl) rfl lk_22 rfl (by kernel_rfl) ⟨_, _, _, hbq, _, hcq, ?_⟩
      refine d_p (i := 13) (lv rfl) rfl (fun w => (r_cvI un_22 kn_2 rfl ?_)) (by kernel_rfl) ?_; omega
      refine d_p (i := 14) (lv rfl) rfl (fun w => (r_addI rfl rfl ?_)) (by kernel_rfl) ?_; omega
      refine pA 15 (lv rfl) rfl rfl ?_
      refine d_end (by kernel_rfl) ?_
      refine g_region (l := [0, 1, 2, 3, 4]) rfl ?_
      refine o_v (lv rfl) rfl (r_iaa ar_138 rfl rfl ?_ ?_) ?_; omega; omega
      refine o_ld (lv rfl) rfl lk_3 rfl ⟨_, _, _, hH.c5, _, rfl, ?_⟩
      refine o_v (lv rfl) rfl (r_addI rfl rfl ?_) ?_; omega
      refine o_v (lv rfl) rfl (r_iaa ar_138 rfl rfl ?_ ?_) ?_; omega; omega
      refine o_st (lv rfl) rfl lk_3 rfl (vs := [_]) rfl rfl (by exact hH.p5) rfl rfl (by simp) rfl ?_
      intro w hH; dsimp only [setL, List.set] at hH
      refine g_inBlock ?_
      refine g_inBlock ?_
      refine g_region (l := [0, 1]) rfl ?_
      refine o_v (lv rfl) rfl (r_addI rfl rfl ?_) ?_; omega
      refine vM (lv rfl) rfl rfl ?_
      (exact hback2 _ _ _ ⟨j + 1, _, _, _, _, by omega, rfl, hqs, hte, (J_self (has_s rfl (has_s rfl (has_s rfl (has_s rfl (has_s rfl (has_s rfl (has_s rfl (has_s rfl (has_s rfl (has_s rfl (has_s rfl (has_s rfl (has_s rfl (has_s rfl (has_s rfl (has_s rfl (has_s rfl has_0)))))))))))))))))), hfin (hH.sel (by repeat' (first | exact Sel.refl _ | refine Sel.q1 ?_)))⟩ (by omega))
     ·refine g_seq ?_
      refine g_region (l := [0, 1, 2]) rfl ?_
      refine o_ld (lv rfl) rfl lk_3 rfl ⟨_, _, _, hH.c4, _, rfl, ?_⟩
      refine o_v (lv rfl) rfl (r_eq rfl rfl) ?_
      refine vA (lv rfl) rfl rfl ?_
      refine g_if rfl (fun c3 => ?_) (fun c3 => ?_)
      ·refine g_seq ?_
       obtain ⟨q, hq, hq0, hq1, hqs, rfl⟩ := gTell_g ht2 c2 c3
       have hqs' := hqs
       unfold smallI at hqs'
       dsimp only at hq hqs hqs' hte
       obtain ⟨lm, cv, av, rest, hval, hH, hkeep, -⟩ := AccsC.take (F := cel bk (bkCells c lsv (.slice (some ⟨bp, op_, none⟩) sl.length cap) mb sum) 91 :: cel b14 [.int .i64 q0, .int .i64 q1] 138 :: MdlC bm (mk.do (callOf ls x).1).2 :: cel b7 [.pointer (some ⟨bm, 0, none⟩)] 60 :: cel b4 [.int .i64 f] 3 :: cel b5 [.int .i64 g] 3 :: F) g (hH.sel (by repeat' (first | exact Sel.refl _ | refine Sel.q1 ?_ | refine Sel.q5 ?_ | refine Sel.q6 ?_ | refine Sel.q7 ?_ | refine Sel.skip _ ?_)))
       obtain ⟨ca, ccap, hce, -⟩ := hH.p1.rd.len
       obtain ⟨la, lcap, hle, -⟩ := hH.p2.rd.len
       rw [hce, hle] at hval hH
       have hqlt := (List.getElem?_eq_some_iff.1 hq).1
       obtain ⟨bq, oq, csq, Tq, hqe, hbq, hcq0⟩ := Rd.el hkPc hH.p1.rd hq
       rw [hqe] at hval hH
       have hcq := hcq0 3 _ rfl
       have hfin : ∀ {w : World}, Holds R (MapC mb lm :: Vec 108 5 encPc (.slice (some ⟨bq, oq, none⟩) (aget A g).came.length ccap) (aget A g).came :: Vec 3 1 encI (.slice la (aget A g).left.length lcap) (aget A g).left :: rest :: cel bk (bkCells c lsv (.slice (some ⟨bp, op_, none⟩) sl.length cap) mb sum) 91 :: cel b14 [.int .i64 q0, .int .i64 (q1 + 1 : Nat)] 138 :: MdlC bm (mk.do (callOf ls x).1).2 :: cel b7 [.pointer (some ⟨bm, 0, none⟩)] 60 :: cel b4 [.int .i64 f] 3 :: cel b5 [.int .i64 g] 3 :: F) w →
           Holds R (MdlC bm (mk.do (callOf ls x).1).2 :: cel b7 [.pointer (some ⟨bm, 0, none⟩)] 60 :: cel b4 [.int .i64 f] 3 :: cel b5 [.int .i64 g] 3 :: cel b14 [.int .i64 q0, .int .i64 (q1 + 1 : Nat)] 138 :: cel bk (bkCells c lsv (.slice (some ⟨bp, op_, none⟩) sl.length cap) mb sum) 91 :: AccsC mb A :: F) w := fun {w} hH => by
         rw [← hqe, ← hce, ← hle] at hH
         replace hH := hkeep _ _ hH
         exact (hH.sel (by repeat' (first | exact Sel.refl _ | refine Sel.q1 ?_ | refine Sel.q2 ?_ | refine Sel.q3 ?_)))
       refine g_regionD mixed ?_
       rintro w1 rfl; replace hH := hH.drew (n := w.drawn + 1); replace hbq := drewf (n := w.drawn + 1) hbq; generalize hw1 : { w with drawn := w.drawn + 1 } = w at hH ⊢; rw [hw1] at hbq; clear hw1
       refine pM 0 (lv rfl) rfl rfl ?_
       refine pM 1 (lv rfl) rfl rfl ?_
       refine pN 2 (lv rfl) rfl rfl ?_
       refine pF 3 (lv rfl) rfl fa_91_2 rfl ?_
       refine d_ld (i := 4) [] (lv rfl) rfl lk_89 rfl (by kernel_rfl) ⟨_, _, _, hH.c4, _, rfl, ?_⟩
       refine d_ld (i := 5) [] (lv rfl) rfl lk_3 rfl (by kernel_rfl) ⟨_, _, _, hH.c9, _, rfl, ?_⟩
       refine d_q (i := 6) (fun w => MapR _ _ (Go.Lt.hp w)) [] (lv rfl) rfl (fun w hS => r_lkw mp_89 rfl rfl hS (hval)) (by exact hH.mrd) (by kernel_rfl) ?_
       refine d_p (i := 7) (lv rfl) rfl (fun w => (r_fld (cs := [_, _, _, _]) (off := 1) (fT := 104) rfl (by kernel_rfl) lk_104 rfl)) (by kernel_rfl) ?_
       refine d_p (i := 8) (lv rfl) rfl (fun w => (r_iaa ar_138 rfl rfl ?_ ?_)) (by kernel_rfl) ?_; omega; omega
       refine d_ld (i := 9) [] (lv rfl) rfl lk_3 rfl (by kernel_rfl) ⟨_, _, _, hH.c5, _, rfl, ?_⟩
       refine d_p (i := 10) (lv rfl) rfl (fun w => (r_ia el_104 rfl rfl ?_ ?_)) (by kernel_rfl) ?_; omega; omega
       refine pF 11 (lv rfl) rfl fa_108_1 rfl ?_
       refine d_ld (i := 12) [] (lv rfl) rfl lk_22 rfl (by kernel_rfl) ⟨_, _, _, hbq, _, hcq, ?_⟩
       refine d_p (i := 13) (lv rfl) rfl (fun w => (r_cvI un_22 kn_2 rfl ?_)) (by kernel_rfl) ?_; omega
       refine d_p (i := 14) (lv rfl) rfl (fun w => (r_subI rfl rfl ?_)) (by kernel_rfl) ?_; omega
       refine pA 15 (lv rfl) rfl rfl ?_
       refine d_end (by kernel_rfl) ?_
       refine g_region (l := [0, 1, 2, 3, 4]) rfl ?_
       refine o_v (lv rfl) rfl (r_iaa ar_138 rfl rfl ?_ ?_) ?_; omega; omega
       refine o_ld (lv rfl) rfl lk_3 rfl ⟨_, _, _, hH.c5, _, rfl, ?_⟩
       refine o_v (lv rfl) rfl (r_addI rfl rfl ?_) ?_; omega
       refine o_v (lv rfl) rfl (r_iaa ar_138 rfl rfl ?_ ?_) ?_; omega; omega
       refine o_st (lv rfl) rfl lk_3 rfl (vs := [_]) rfl rfl (by exact hH.p5) rfl rfl (by simp) rfl ?_
       intro w hH; dsimp only [setL, List.set] at hH
       refine g_inBlock ?_
       refine g_inBlock ?_
       refine g_region (l := [0, 1]) rfl ?_
       refine o_v (lv rfl) rfl (r_addI rfl rfl ?_) ?_; omega
       refine vM (lv rfl) rfl rfl ?_
       (exact hback2 _ _ _ ⟨j + 1, _, _, _, _, by omega, rfl, hqs, hte, (J_self (has_s rfl (has_s rfl (has_s rfl (has_s rfl (has_s rfl (has_s rfl (has_s rfl (has_s rfl (has_s rfl (has_s rfl (has_s rfl (has_s rfl (has_s rfl (has_s rfl (has_s rfl (has_s rfl (has_s rfl has_0)))))))))))))))))), hfin (hH.sel (by repeat' (first | exact Sel.refl _ | refine Sel.q1 ?_)))⟩ (by omega))
      ·refine g_skip ?_
       refine g_inBlock ?_
       refine g_inBlock ?_
       refine g_region (l := [0, 1]) rfl ?_
       refine o_v (lv rfl) rfl (r_addI rfl rfl ?_) ?_; omega
       refine vM (lv rfl) rfl rfl ?_
       (obtain rfl := gTell_o ht2 c2 c3
        exact hback2 _ _ _ ⟨j + 1, _, ts, q0, q1, by omega, rfl, hts, hte, (J_self (has_s rfl (has_s rfl (has_s rfl (has_s rfl (has_s rfl (has_s rfl (has_s rfl (has_s rfl (has_s rfl (has_s rfl (has_s rfl (has_s rfl (has_s rfl (has_s rfl (has_s rfl (has_s rfl (has_s rfl has_0)))))))))))))))))), (hH.sel (by repeat' (first | exact Sel.refl _ | refine Sel.q1 ?_ | refine Sel.skip _ ?_)))⟩ (by omega))
    ·obtain rfl : (ts, q0, q1) = t1 := by
       rw [List.drop_of_length_le (by omega)] at hte; cases hte; rfl
     have ht1s' := ht1s; unfold smallI at ht1s'; dsimp only at ht1s'
     refine g_exit rfl ?_
     refine g_seq ?_
     refine g_block ?_
     refine g_seq ?_
     refine g_region (l := [0, 1, 2, 3]) rfl ?_
     refine vM (lv rfl) rfl rfl ?_
     refine o_callv (first := []) (cap := [_, _, _]) (lv rfl) rfl rfl en_79 rfl rfl (fair_gap1 f g hH) ?_; rintro _ w ⟨rfl, hH⟩
     refine o_v (lv rfl) rfl (r_not rfl) ?_
     refine vA (lv rfl) rfl rfl ?_
     refine g_cond rfl (fun c4 => ?_) (fun c4 => ?_)
     ·refine g_seq ?_
      refine g_region (l := [0]) rfl ?_
      refine vA (lv rfl) rfl rfl ?_
      refine g_exit rfl ?_
      refine g_region (l := [0, 1]) rfl ?_
      refine o_v (lv rfl) rfl (r_addI rfl rfl ?_) ?_; omega
      refine vM (lv rfl) rfl rfl ?_
      (have c4' : ¬ both (mk.do (callOf ls x).1).2 f g = true := by simpa using c4
       have he : gEnd f g (mk.do (callOf ls x).1).2 ⟨mk, (sm, n0, n1), low, high, most, ins⟩ (ts, q0, q1) = ⟨(mk.do (callOf ls x).1).2, (ts, q0, q1), low, high, most, false⟩ := by unfold gEnd; rw [if_neg c4']
       rw [he] at hgo hok1
       exact hback _ _ _ ⟨k + 1, _, _, _, _, _, _, _, _, _, by omega, rfl, hdo.1, Mdl.do_inv hmi _, hok1, hgo, (J_self (has_s rfl (has_s rfl (has_s rfl (has_s rfl (has_s rfl (has_s rfl (has_s rfl (has_s rfl (has_s rfl (has_s rfl (has_s rfl (has_s rfl (has_s rfl (has_s rfl has_0))))))))))))))), (hH.sel (by repeat' (first | exact Sel.refl _)))⟩ (by omega))
     ·refine g_seq ?_
      refine g_region (l := [0, 1, 2]) rfl ?_
      refine vM (lv rfl) rfl rfl ?_
      refine o_v (lv rfl) rfl (r_not rfl) ?_
      refine vA (lv rfl) rfl rfl ?_
      refine g_cond rfl (fun c5 => ?_) (fun c5 => ?_)
      ·refine g_region (l := [0, 1, 2, 3, 4]) rfl ?_
       refine vM (lv rfl) rfl rfl ?_
       refine vM (lv rfl) rfl rfl ?_
       refine vA (lv rfl) rfl rfl ?_
       refine vA (lv rfl) rfl rfl ?_
       refine vA (lv rfl) rfl rfl ?_
       refine g_inBlock ?_
       refine g_seq ?_
       refine g_region (l := [0, 1, 2, 3, 4, 5, 6, 7]) rfl ?_
       refine vM (lv rfl) rfl rfl ?_
       refine vM (lv rfl) rfl rfl ?_
       refine o_v (lv rfl) rfl (r_min2 rfl rfl) ?_
       refine vM (lv rfl) rfl rfl ?_
       refine vM (lv rfl) rfl rfl ?_
       refine o_v (lv rfl) rfl (r_max2 rfl rfl) ?_
       refine vA (lv rfl) rfl rfl ?_
       refine vA (lv rfl) rfl rfl ?_
       refine g_region (l := [0, 1, 2, 3, 4, 5]) rfl ?_
       refine vM (lv rfl) rfl rfl ?_
       refine vM (lv rfl) rfl rfl ?_
       refine vM (lv rfl) rfl rfl ?_
       refine o_v (lv rfl) rfl (r_subI rfl rfl ?_) ?_; omega
       refine o_v (lv rfl) rfl (r_max2 rfl rfl) ?_
       refine vA (lv rfl) rfl rfl ?_
       refine g_inBlock ?_
       refine g_region (l := [0, 1]) rfl ?_
       refine o_v (lv rfl) rfl (r_addI rfl rfl ?_) ?_; omega
       refine vM (lv rfl) rfl rfl ?_
       (have c4' : both (mk.do (callOf ls x).1).2 f g = true := by simpa using c4
        have c5' : ins = false := by simpa using c5
        have he : gEnd f g (mk.do (callOf ls x).1).2 ⟨mk, (sm, n0, n1), low, high, most, ins⟩ (ts, q0, q1) = ⟨(mk.do (callOf ls x).1).2, (ts, q0, q1), min ts ts, max ts ts, max most (max ts ts - min ts ts), true⟩ := by unfold gEnd; rw [if_pos c4', c5']; rfl
        rw [he] at hgo hok1
        exact hback _ _ _ ⟨k + 1, _, _, _, _, _, _, _, _, _, by omega, rfl, hdo.1, Mdl.do_inv hmi _, hok1, hgo, (J_self (has_s rfl (has_s rfl (has_s rfl (has_s rfl (has_s rfl (has_s rfl (has_s rfl (has_s rfl (has_s rfl (has_s rfl (has_s rfl (has_s rfl (has_s rfl (has_s rfl has_0))))))))))))))), (hH.sel (by repeat' (first | exact Sel.refl _)))⟩ (by omega))
      ·refine g_skip ?_
       refine g_inBlock ?_
       refine g_seq ?_
       refine g_region (l := [0, 1, 2, 3, 4, 5, 6, 7]) rfl ?_
       refine vM (lv rfl) rfl rfl ?_
       refine vM (lv rfl) rfl rfl ?_
       refine o_v (lv rfl) rfl (r_min2 rfl rfl) ?_
       refine vM (lv rfl) rfl rfl ?_
       refine vM (lv rfl) rfl rfl ?_
       refine o_v (lv rfl) rfl (r_max2 rfl rfl) ?_
       refine vA (lv rfl) rfl rfl ?_
       refine vA (lv rfl) rfl rfl ?_
       refine g_region (l := [0, 1, 2, 3, 4, 5]) rfl ?_
       refine vM (lv rfl) rfl rfl ?_
       refine vM (lv rfl) rfl rfl ?_
       refine vM (lv rfl) rfl rfl ?_
       refine o_v (lv rfl) rfl (r_subI rfl rfl ?_) ?_; omega
       refine o_v (lv rfl) rfl (r_max2 rfl rfl) ?_
       refine vA (lv rfl) rfl rfl ?_
       refine g_inBlock ?_
       refine g_region (l := [0, 1]) rfl ?_
       refine o_v (lv rfl) rfl (r_addI rfl rfl ?_) ?_; omega
       refine vM (lv rfl) rfl rfl ?_
       (have c4' : both (mk.do (callOf ls x).1).2 f g = true := by simpa using c4
        have c5' : ins = true := by simpa using c5
        subst c5'
        have he : gEnd f g (mk.do (callOf ls x).1).2 ⟨mk, (sm, n0, n1), low, high, most, true⟩ (ts, q0, q1) = ⟨(mk.do (callOf ls x).1).2, (ts, q0, q1), min low ts, max high ts, max most (max high ts - min low ts), true⟩ := by unfold gEnd; rw [if_pos c4']; rfl
        rw [he] at hgo hok1
        exact hback _ _ _ ⟨k + 1, _, _, _, _, _, _, _, _, _, by omega, rfl, hdo.1, Mdl.do_inv hmi _, hok1, hgo, (J_self (has_s rfl (has_s rfl (has_s rfl (has_s rfl (has_s rfl (has_s rfl (has_s rfl (has_s rfl (has_s rfl (has_s rfl (has_s rfl (has_s rfl (has_s rfl (has_s rfl has_0))))))))))))))), (hH.sel (by repeat' (first | exact Sel.refl _)))⟩ (by omega))
   ·refine o_al (lv rfl) rfl ze_46 hH ?_
    intro b18 w hH
    refine ⟨(keeps_cons (fun _ => (by exact hH.c1)) (keeps_cons (fun _ => (by exact hH.c7)) trivial)), ?_⟩
    refine d_l (j := 5) (by kernel_rfl) ?_
    refine o_call (lv rfl) rfl en_58 rfl (wit_Call (c := c) hP (by have := hls.1; omega) x hH) ?_
    rintro _ w ⟨rfl, hH⟩
    refine ⟨(keeps_in rfl (keeps_in rfl trivial)), ?_⟩
    refine pM 6 (lv rfl) rfl rfl ?_
    refine pE 7 (lv rfl) rfl rfl rfl ?_
    refine pE 8 (lv rfl) rfl rfl rfl ?_
    refine d_l (j := 10) (by kernel_rfl) ?_
    refine o_st (lv rfl) rfl lk_46 rfl (vs := [_, _, _, _]) rfl rfl (by exact hH) rfl rfl (by simp) rfl ?_
    intro w hH; dsimp only [setL, List.set] at hH
    refine ⟨(keeps_in rfl (keeps_in rfl trivial)), ?_⟩
    refine pA 11 (lv rfl) rfl rfl ?_
    refine d_end (by kernel_rfl) ?_
    refine g_seq ?_
    refine g_region (l := [0, 1, 2]) rfl ?_
    refine o_ld (lv rfl) rfl lk_60 rfl ⟨_, _, _, hH.c3, _, rfl, ?_⟩
    refine o_ldN (lv rfl) rfl lk_46 rfl ⟨_, _, _, hH.c0, [_, _, _, _], rfl, rfl, ?_⟩
    refine o_call (lv rfl) rfl en_60 rfl (model_Do hmk.1 hmk.2.1 (by have := hmk.2.2.1; omega) hmi ⟨hmk.2.2.2.1, by have := hmk.2.2.2.2; omega⟩ _ hco (by exact hH.p2)) ?_
    rintro _ w ⟨pv2, rfl, hH⟩
    refine g_seq ?_
    refine g_seq ?_
    refine g_region (l := [0, 1, 2, 3, 4]) rfl ?_
    refine o_v (lv rfl) rfl (r_fa fa_59_3 rfl) ?_
    refine o_v (lv rfl) rfl (r_fa fa_57_1 rfl) ?_
    refine o_ld (lv rfl) rfl lk_48 rfl ⟨_, _, _, hH.c3, _, rfl, ?_⟩
    refine o_v (lv rfl) rfl (r_len el_48 rfl) ?_
    refine vM (lv rfl) rfl rfl ?_
    refine g_block ?_
    refine g_loop (fun mm e w => ∃ (j : Nat) (e0 : Env) (ts : Int) (q0 q1 : Nat), j ≤ x.ret.packets.length ∧ mm = x.ret.packets.length - j ∧ smallI ts ∧ gTells A f g (x.ret.packets.drop j) (ts, q0, q1) = some t1 ∧
        e = J e0 [(0, .pointer (some ⟨bk, 0, none⟩)), (4, .pointer (some ⟨b4, 0, none⟩)), (5, .pointer (some ⟨b5, 0, none⟩)), (7, .pointer (some ⟨b7, 0, none⟩)), (9, .func (.func 79) #[] #[.pointer (some ⟨b7, 0, none⟩), .pointer (some ⟨b4, 0, none⟩), .pointer (some ⟨b5, 0, none⟩)]),
          (10, .int .i64 ts), (11, .int .i64 low), (12, .int .i64 high), (13, .int .i64 most), (14, .pointer (some ⟨b14, 0, none⟩)), (15, .bool ins), (38, .slice (some ⟨bp, op_, none⟩) sl.length cap), (39, .int .i64 sl.length), (40, .int .i64 k), (58, .slice pa x.ret.packets.length pcap), (59, .int .i64 x.ret.packets.length), (60, .int .i64 j)] ∧
        Holds R (MdlC bm (mk.do (callOf ls x).1).2 :: cel b7 [.pointer (some ⟨bm, 0, none⟩)] 60 :: cel b4 [.int .i64 f] 3 :: cel b5 [.int .i64 g] 3 :: cel b14 [.int .i64 q0, .int .i64 q1] 138 :: cel bk (bkCells c lsv (.slice (some ⟨bp, op_, none⟩) sl.length cap) mb sum) 91 :: AccsC mb A :: F) w) x.ret.packets.length ⟨0, _, sm, n0, n1, by omega, by omega, hsok.1, ht1, (J_self (has_s rfl (has_s rfl (has_s rfl (has_s rfl (has_s rfl (has_s rfl (has_s rfl (has_s rfl (has_s rfl (has_s rfl (has_s rfl (has_s rfl (has_s rfl (has_s rfl (has_s rfl (has_s rfl (has_s rfl has_0)))))))))))))))))), (hH.sel (by repeat' (first | exact Sel.refl _ | refine Sel.q1 ?_ | refine Sel.q3 ?_ | refine Sel.skip _ ?_)))⟩ ?_
    rintro mm2 _ w ⟨j, e1, ts, q0, q1, hj, hm2, hts, hte, rfl, hH⟩ hback2
    have hts' := hts; unfold smallI at hts'
    refine g_seq ?_
    refine g_region (l := [0]) rfl ?_
    refine o_v (lv rfl) rfl (r_lt rfl rfl) ?_
    refine g_seq ?_
    refine g_if rfl (fun c1 => ?_) (fun c1 => ?_)
    ·have hjl : j < x.ret.packets.length := by omega
     obtain ⟨p, hp2⟩ : ∃ p, x.ret.packets[j]? = some p := ⟨_, List.getElem?_eq_getElem hjl⟩
     obtain ⟨bx, ox, csx, Tx, hpe, hbx, hcx0⟩ := Rd.el hkP hpr hp2
     rw [hpe]; rw [hpe] at hback2
     have hcx := dt_of hcx0
     rw [show x.ret.packets.drop j = p :: x.ret.packets.drop (j + 1) from by
       obtain ⟨h1, h2⟩ := List.getElem?_eq_some_iff.1 hp2
       rw [List.drop_eq_getElem_cons h1, h2]] at hte
     obtain ⟨t2, ht2, hte⟩ := gTells_S hte
     refine g_skip ?_
     refine g_seq ?_
     refine g_block ?_
     refine g_seq ?_
     refine g_region (l := [0, 1, 2, 3]) rfl ?_
     refine o_v (lv rfl) rfl (r_ia el_48 rfl rfl ?_ ?_) ?_; omega; omega
     refine o_ldN (lv rfl) rfl lk_54 rfl ⟨_, _, _, hH.old hbx, _, hcx, rfl, ?_⟩
     refine o_al (lv rfl) rfl ze_54 hH ?_
     intro b21 w hH
     refine o_st (lv rfl) rfl lk_54 rfl (vs := [_, _, _]) rfl rfl (by exact hH) rfl rfl (by simp) rfl ?_
     intro w hH; dsimp only [setL, List.set] at hH
     refine g_seq ?_
     refine g_region (l := [0, 1]) rfl ?_
     refine o_v (lv rfl) rfl (r_fa fa_54_0 rfl) ?_
     refine o_ld (lv rfl) rfl lk_3 rfl ⟨_, _, _, hH.c0, _, rfl, ?_⟩
     refine g_block ?_
     refine g_seq ?_
     refine g_region (l := [0, 1, 2]) rfl ?_
     refine o_ld (lv rfl) rfl lk_3 rfl ⟨_, _, _, hH.c3, _, rfl, ?_⟩
     refine o_v (lv rfl) rfl (r_eq rfl rfl) ?_
     refine vA (lv rfl) rfl rfl ?_
     refine g_if rfl (fun c2 => ?_) (fun c2 => ?_)
     ·refine g_seq ?_
      obtain ⟨q, hq, hq0, hq1, hqs, rfl⟩ := gTell_f ht2 c2
      have hqs' := hqs
      unfold smallI at hqs'
      dsimp only at hq hqs hqs' hte
      obtain ⟨lm, cv, av, rest, hval, hH, hkeep, -⟩ := AccsC.take (F := cel bk (bkCells c lsv (.slice (some ⟨bp, op_, none⟩) sl.length cap) mb sum) 91 :: cel b14 [.int .i64 q0, .int .i64 q1] 138 :: MdlC bm (mk.do (callOf ls x).1).2 :: cel b7 [.pointer (some ⟨bm, 0, none⟩)] 60 :: cel b4 [.int .i64 f] 3 :: cel b5 [.int .i64 g] 3 :: F) f (hH.sel (by repeat' (first | exact Sel.refl _ | refine Sel.q1 ?_ | refine Sel.q5 ?_ | refine Sel.q6 ?_ | refine Sel.q7 ?_ | refine Sel.skip _ ?_)))
      obtain ⟨ca, ccap, hce, -⟩ := hH.p1.rd.len
      obtain ⟨la, lcap, hle, -⟩ := hH.p2.rd.len
      rw [hce, hle] at hval hH
      have hqlt := (List.getElem?_eq_some_iff.1 hq).1
      obtain ⟨bq, oq, csq, Tq, hqe, hbq, hcq0⟩ := Rd.el hkPc hH.p1.rd hq
      rw [hqe] at hval hH
      have hcq := hcq0 3 _ rfl
      have hfin : ∀ {w : World}, Holds R (MapC mb lm :: Vec 108 5 encPc (.slice (some ⟨bq, oq, none⟩) (aget A f).came.length ccap) (aget A f).came :: Vec 3 1 encI (.slice la (aget A f).left.length lcap) (aget A f).left :: rest :: cel bk (bkCells c lsv (.slice (some ⟨bp, op_, none⟩) sl.length cap) mb sum) 91 :: cel b14 [.int .i64 (q0 + 1 : Nat), .int .i64 q1] 138 :: MdlC bm (mk.do (callOf ls x).1).2 :: cel b7 [.pointer (some ⟨bm, 0, none⟩)] 60 :: cel b4 [.int .i64 f] 3 :: cel b5 [.int .i64 g] 3 :: F) w →
          Holds R (MdlC bm (mk.do (callOf ls x).1).2 :: cel b7 [.pointer (some ⟨bm, 0, none⟩)] 60 :: cel b4 [.int .i64 f] 3 :: cel b5 [.int .i64 g] 3 :: cel b14 [.int .i64 (q0 + 1 : Nat), .int .i64 q1] 138 :: cel bk (bkCells c lsv (.slice (some ⟨bp, op_, none⟩) sl.length cap) mb sum) 91 :: AccsC mb A :: F) w := fun {w} hH => by
        rw [← hqe, ← hce, ← hle] at hH
        replace hH := hkeep _ _ hH
        exact (hH.sel (by repeat' (first | exact Sel.refl _ | refine Sel.q1 ?_ | refine Sel.q2 ?_ | refine Sel.q3 ?_)))
      refine g_regionD mixed ?_
      rintro w1 rfl; replace hH := hH.drew (n := w.drawn + 1); replace hbq := drewf (n := w.drawn + 1) hbq; generalize hw1 : { w with drawn := w.drawn + 1 } = w at hH ⊢; rw [hw1] at hbq; clear hw1
      refine pM 0 (lv rfl) rfl rfl ?_
      refine pM 1 (lv rfl) rfl rfl ?_
      refine pN 2 (lv rfl) rfl rfl ?_
      refine pF 3 (lv rfl) rfl fa_91_2 rfl ?_
      refine d_ld (i := 4) [] (lv rfl) rfl lk_89 rfl (by kernel_rfl) ⟨_, _, _, hH.c4, _, rfl, ?_⟩
      refine d_ld (i := 5) [] (lv rfl) rfl lk_3 rfl (by kernel_rfl) ⟨_, _, _, hH.c8, _, rfl, ?_⟩
      refine d_q (i := 6) (fun w => MapR _ _ (Go.Lt.hp w)) [] (lv rfl) rfl (fun w hS => r_lkw mp_89 rfl rfl hS (hval)) (by exact hH.mrd) (by kernel_rfl) ?_
      refine d_p (i := 7) (lv rfl) rfl (fun w => (r_fld (cs := [_, _, _, _]) (off := 1) (fT := 104) rfl (by kernel_rfl) lk_104 rfl)) (by kernel_rfl) ?_
      refine d_p (i := 8) (lv rfl) rfl (fun w => (r_iaa ar_138 rfl rfl ?_ ?_)) (by kernel_rfl) ?_; omega; omega
      refine d_ld (i := 9) [] (lv rfl) rfl lk_3 rfl (by kernel_rfl) ⟨_, _, _, hH.c5, _, rfl, ?_⟩
      refine d_p (i := 10) (lv rfl) rfl (fun w => (r_ia el_104 rfl rfl ?_ ?_)) (by kernel_rfl) ?_; omega; omega
      refine pF 11 (lv rfl) rfl fa_108_1 rfl ?_
      refine d_ld (i := 12) [] (lv rfl) rfl lk_22 rfl (by kernel_rfl) ⟨_, _, _, hbq, _, hcq, ?_⟩
      refine d_p (i := 13) (lv rfl) rfl (fun w => (r_cvI un_22 kn_2 rfl ?_)) (by kernel_rfl) ?_; omega
      refine d_p (i := 14) (lv rfl) rfl (fun w => (r_addI rfl rfl ?_)) (by kernel_rfl) ?_; omega
      refine pA 15 (lv rfl) rfl rfl ?_
      refine d_end (by kernel_rfl) ?_
      refine g_region (l := [0, 1, 2, 3, 4]) rfl ?_
      refine o_v (lv rfl) rfl (r_iaa ar_138 rfl rfl ?_ ?_) ?_; omega; omega
      refine o_ld (lv rfl) rfl lk_3 rfl ⟨_, _, _, hH.c5, _, rfl, ?_⟩
      refine o_v (lv rfl) rfl (r_addI rfl rfl ?_) ?_; omega
      refine o_v (lv rfl) rfl (r_iaa ar_138 rfl rfl ?_ ?_) ?_; omega; omega
      refine o_st (lv rfl) rfl lk_3 rfl (vs := [_]) rfl rfl (by exact hH.p5) rfl rfl (by simp) rfl ?_
      intro w hH; dsimp only [setL, List.set] at hH
      refine g_inBlock ?_
      refine g_inBlock ?_
      refine g_region (l := [0, 1]) rfl ?_
      refine o_v (lv rfl) rfl (r_addI rfl rfl ?_) ?_; omega
      refine vM (lv rfl) rfl rfl ?_
      (exact hback2 _ _ _ ⟨j + 1, _, _, _, _, by omega, rfl, hqs, hte, (J_self (has_s rfl (has_s rfl (has_s rfl (has_s rfl (has_s rfl (has_s rfl (has_s rfl (has_s rfl (has_s rfl (has_s rfl (has_s rfl (has_s rfl (has_s rfl (has_s rfl (has_s rfl (has_s rfl (has_s rfl has_0)))))))))))))))))), hfin (hH.sel (by repeat' (first | exact Sel.refl _ | refine Sel.q1 ?_)))⟩ (by omega))
     ·refine g_seq ?_
      refine g_region (l := [0, 1, 2]) rfl ?_
      refine o_ld (lv rfl) rfl lk_3 rfl ⟨_, _, _, hH.c4, _, rfl, ?_⟩
      refine o_v (lv rfl) rfl (r_eq rfl rfl) ?_
      refine vA (lv rfl) rfl rfl ?_
      refine g_if rfl (fun c3 => ?_) (fun c3 => ?_)
      ·refine g_seq ?_
       obtain ⟨q, hq, hq0, hq1, hqs, rfl⟩ := gTell_g ht2 c2 c3
       have hqs' := hqs
       unfold smallI at hqs'
       dsimp only at hq hqs hqs' hte
       obtain ⟨lm, cv, av, rest, hval, hH, hkeep, -⟩ := AccsC.take (F := cel bk (bkCells c lsv (.slice (some ⟨bp, op_, none⟩) sl.length cap) mb sum) 91 :: cel b14 [.int .i64 q0, .int .i64 q1] 138 :: MdlC bm (mk.do (callOf ls x).1).2 :: cel b7 [.pointer (some ⟨bm, 0, none⟩)] 60 :: cel b4 [.int .i64 f] 3 :: cel b5 [.int .i64 g] 3 :: F) g (hH.sel (by repeat' (first | exact Sel.refl _ | refine Sel.q1 ?_ | refine Sel.q5 ?_ | refine Sel.q6 ?_ | refine Sel.q7 ?_ | refine Sel.skip _ ?_)))
       obtain ⟨ca, ccap, hce, -⟩ := hH.p1.rd.len
       obtain ⟨la, lcap, hle, -⟩ := hH.p2.rd.len
       rw [hce, hle] at hval hH
       have hqlt := (List.getElem?_eq_some_iff.1 hq).1
       obtain ⟨bq, oq, csq, Tq, hqe, hbq, hcq0⟩ := Rd.el hkPc hH.p1.rd hq
       rw [hqe] at hval hH
       have hcq := hcq0 3 _ rfl
       have hfin : ∀ {w : World}, Holds R (MapC mb lm :: Vec 108 5 encPc (.slice (some ⟨bq, oq, none⟩) (aget A g).came.length ccap) (aget A g).came :: Vec 3 1 encI (.slice la (aget A g).left.length lcap) (aget A g).left :: rest :: cel bk (bkCells c lsv (.slice (some ⟨bp, op_, none⟩) sl.length cap) mb sum) 91 :: cel b14 [.int .i64 q0, .int .i64 (q1 + 1 : Nat)] 138 :: MdlC bm (mk.do (callOf ls x).1).2 :: cel b7 [.pointer (some ⟨bm, 0, none⟩)] 60 :: cel b4 [.int .i64 f] 3 :: cel b5 [.int .i64 g] 3 :: F) w →
           Holds R (MdlC bm (mk.do (callOf ls x).1).2 :: cel b7 [.pointer (some ⟨bm, 0, none⟩)] 60 :: cel b4 [.int .i64 f] 3 :: cel b5 [.int .i64 g] 3 :: cel b14 [.int .i64 q0, .int .i64 (q1 + 1 : Nat)] 138 :: cel bk (bkCells c lsv (.slice (some ⟨bp, op_, none⟩) sl.length cap) mb sum) 91 :: AccsC mb A :: F) w := fun {w} hH => by
         rw [← hqe, ← hce, ← hle] at hH
         replace hH := hkeep _ _ hH
         exact (hH.sel (by repeat' (first | exact Sel.refl _ | refine Sel.q1 ?_ | refine Sel.q2 ?_ | refine Sel.q3 ?_)))
       refine g_regionD mixed ?_
       rintro w1 rfl; replace hH := hH.drew (n := w.drawn + 1); replace hbq := drewf (n := w.drawn + 1) hbq; generalize hw1 : { w with drawn := w.drawn + 1 } = w at hH ⊢; rw [hw1] at hbq; clear hw1
       refine pM 0 (lv rfl) rfl rfl ?_
       refine pM 1 (lv rfl) rfl rfl ?_
       refine pN 2 (lv rfl) rfl rfl ?_
       refine pF 3 (lv rfl) rfl fa_91_2 rfl ?_
       refine d_ld (i := 4) [] (lv rfl) rfl lk_89 rfl (by kernel_rfl) ⟨_, _, _, hH.c4, _, rfl, ?_⟩
       refine d_ld (i := 5) [] (lv rfl) rfl lk_3 rfl (by kernel_rfl) ⟨_, _, _, hH.c9, _, rfl, ?_⟩
       refine d_q (i := 6) (fun w => MapR _ _ (Go.Lt.hp w)) [] (lv rfl) rfl (fun w hS => r_lkw mp_89 rfl rfl hS (hval)) (by exact hH.mrd) (by kernel_rfl) ?_
       refine d_p (i := 7) (lv rfl) rfl (fun w => (r_fld (cs := [_, _, _, _]) (off := 1) (fT := 104) rfl (by kernel_rfl) lk_104 rfl)) (by kernel_rfl) ?_
       refine d_p (i := 8) (lv rfl) rfl (fun w => (r_iaa ar_138 rfl rfl ?_ ?_)) (by kernel_rfl) ?_; omega; omega
       refine d_ld (i := 9) [] (lv rfl) rfl lk_3 rfl (by kernel_rfl) ⟨_, _, _, hH.c5, _, rfl, ?_⟩
       refine d_p (i := 10) (lv rfl) rfl (fun w => (r_ia el_104 rfl rfl ?_ ?_)) (by kernel_rfl) ?_; omega; omega
       refine pF 11 (lv rfl) rfl fa_108_1 rfl ?_
       refine d_ld (i := 12) [] (lv rfl) rfl lk_22 rfl (by kernel_rfl) ⟨_, _, _, hbq, _, hcq, ?_⟩
       refine d_p (i := 13) (lv rfl) rfl (fun w => (r_cvI un_22 kn_2 rfl ?_)) (by kernel_rfl) ?_; omega
       refine d_p (i := 14) (lv rfl) rfl (fun w => (r_subI rfl rfl ?_)) (by kernel_rfl) ?_; omega
       refine pA 15 (lv rfl) rfl rfl ?_
       refine d_end (by kernel_rfl) ?_
       refine g_region (l := [0, 1, 2, 3, 4]) rfl ?_
       refine o_v (lv rfl) rfl (r_iaa ar_138 rfl rfl ?_ ?_) ?_; omega; omega
       refine o_ld (lv rfl) rfl lk_3 rfl ⟨_, _, _, hH.c5, _, rfl, ?_⟩
       refine o_v (lv rfl) rfl (r_addI rfl rfl ?_) ?_; omega
       refine o_v (lv rfl) rfl (r_iaa ar_138 rfl rfl ?_ ?_) ?_; omega; omega
       refine o_st (lv rfl) rfl lk_3 rfl (vs := [_]) rfl rfl (by exact hH.p5) rfl rfl (by simp) rfl ?_
       intro w hH; dsimp only [setL, List.set] at hH
       refine g_inBlock ?_
       refine g_inBlock ?_
       refine g_region (l := [0, 1]) rfl ?_
       refine o_v (lv rfl) rfl (r_addI rfl rfl ?_) ?_; omega
       refine vM (lv rfl) rfl rfl ?_
       (exact hback2 _ _ _ ⟨j + 1, _, _, _, _, by omega, rfl, hqs, hte, (J_self (has_s rfl (has_s rfl (has_s rfl (has_s rfl (has_s rfl (has_s rfl (has_s rfl (has_s rfl (has_s rfl (has_s rfl (has_s rfl (has_s rfl (has_s rfl (has_s rfl (has_s rfl (has_s rfl (has_s rfl has_0)))))))))))))))))), hfin (hH.sel (by repeat' (first | exact Sel.refl _ | refine Sel.q1 ?_)))⟩ (by omega))
      ·refine g_skip ?_
       refine g_inBlock ?_
       refine g_inBlock ?_
       refine g_region (l := [0, 1]) rfl ?_
       refine o_v (lv rfl) rfl (r_addI rfl rfl ?_) ?_; omega
       refine vM (lv rfl) rfl rfl ?_
       (obtain rfl := gTell_o ht2 c2 c3
        exact hback2 _ _ _ ⟨j + 1, _, ts, q0, q1, by omega, rfl, hts, hte, (J_self (has_s rfl (has_s rfl (has_s rfl (has_s rfl (has_s rfl (has_s rfl (has_s rfl (has_s rfl (has_s rfl (has_s rfl (has_s rfl (has_s rfl (has_s rfl (has_s rfl (has_s rfl (has_s rfl (has_s rfl has_0)))))))))))))))))), (hH.sel (by repeat' (first | exact Sel.refl _ | refine Sel.q1 ?_ | refine Sel.skip _ ?_)))⟩ (by omega))
    ·obtain rfl : (ts, q0, q1) = t1 := by
       rw [List.drop_of_length_le (by omega)] at hte; cases hte; rfl
     have ht1s' := ht1s; unfold smallI at ht1s'; dsimp only at ht1s'
     refine g_exit rfl ?_
     refine g_seq ?_
     refine g_block ?_
     refine g_seq ?_
     refine g_region (l := [0, 1, 2, 3]) rfl ?_
     refine vM (lv rfl) rfl rfl ?_
     refine o_callv (first := []) (cap := [_, _, _]) (lv rfl) rfl rfl en_79 rfl rfl (fair_gap1 f g hH) ?_; rintro _ w ⟨rfl, hH⟩
     refine o_v (lv rfl) rfl (r_not rfl) ?_
     refine vA (lv rfl) rfl rfl ?_
     refine g_cond rfl (fun c4 => ?_) (fun c4 => ?_)
     ·refine g_seq ?_
      refine g_region (l := [0]) rfl ?_
      refine vA (lv rfl) rfl rfl ?_
      refine g_exit rfl ?_
      refine g_region (l := [0, 1]) rfl ?_
      refine o_v (lv rfl) rfl (r_addI rfl rfl ?_) ?_; omega
      refine vM (lv rfl) rfl rfl ?_
      (have c4' : ¬ both (mk.do (callOf ls x).1).2 f g = true := by simpa using c4
       have he : gEnd f g (mk.do (callOf ls x).1).2 ⟨mk, (sm, n0, n1), low, high, most, ins⟩ (ts, q0, q1) = ⟨(mk.do (callOf ls x).1).2, (ts, q0, q1), low, high, most, false⟩ := by unfold gEnd; rw [if_neg c4']
       rw [he] at hgo hok1
       exact hback _ _ _ ⟨k + 1, _, _, _, _, _, _, _, _, _, by omega, rfl, hdo.1, Mdl.do_inv hmi _, hok1, hgo, (J_self (has_s rfl (has_s rfl (has_s rfl (has_s rfl (has_s rfl (has_s rfl (has_s rfl (has_s rfl (has_s rfl (has_s rfl (has_s rfl (has_s rfl (has_s rfl (has_s rfl has_0))))))))))))))), (hH.sel (by repeat' (first | exact Sel.refl _)))⟩ (by omega))
     ·refine g_seq ?_
      refine g_region (l := [0, 1, 2]) rfl ?_
      refine vM (lv rfl) rfl rfl ?_
      refine o_v (lv rfl) rfl (r_not rfl) ?_
      refine vA (lv rfl) rfl rfl ?_
      refine g_cond rfl (fun c5 => ?_) (fun c5 => ?_)
      ·refine g_region (l := [0, 1, 2, 3, 4]) rfl ?_
       refine vM (lv rfl) rfl rfl ?_
       refine vM (lv rfl) rfl rfl ?_
       refine vA (lv rfl) rfl rfl ?_
       refine vA (lv rfl) rfl rfl ?_
       refine vA (lv rfl) rfl rfl ?_
       refine g_inBlock ?_
       refine g_seq ?_
       refine g_region (l := [0, 1, 2, 3, 4, 5, 6, 7]) rfl ?_
       refine vM (lv rfl) rfl rfl ?_
       refine vM (lv rfl) rfl rfl ?_
       refine o_v (lv rfl) rfl (r_min2 rfl rfl) ?_
       refine vM (lv rfl) rfl rfl ?_
       refine vM (lv rfl) rfl rfl ?_
       refine o_v (lv rfl) rfl (r_max2 rfl rfl) ?_
       refine vA (lv rfl) rfl rfl ?_
       refine vA (lv rfl) rfl rfl ?_
       refine g_region (l := [0, 1, 2, 3, 4, 5]) rfl ?_
       refine vM (lv rfl) rfl rfl ?_
       refine vM (lv rfl) rfl rfl ?_
       refine vM (lv rfl) rfl rfl ?_
       refine o_v (lv rfl) rfl (r_subI rfl rfl ?_) ?_; omega
       refine o_v (lv rfl) rfl (r_max2 rfl rfl) ?_
       refine vA (lv rfl) rfl rfl ?_
       refine g_inBlock ?_
       refine g_region (l := [0, 1]) rfl ?_
       refine o_v (lv rfl) rfl (r_addI rfl rfl ?_) ?_; omega
       refine vM (lv rfl) rfl rfl ?_
       (have c4' : both (mk.do (callOf ls x).1).2 f g = true := by simpa using c4
        have c5' : ins = false := by simpa using c5
        have he : gEnd f g (mk.do (callOf ls x).1).2 ⟨mk, (sm, n0, n1), low, high, most, ins⟩ (ts, q0, q1) = ⟨(mk.do (callOf ls x).1).2, (ts, q0, q1), min ts ts, max ts ts, max most (max ts ts - min ts ts), true⟩ := by unfold gEnd; rw [if_pos c4', c5']; rfl
        rw [he] at hgo hok1
        exact hback _ _ _ ⟨k + 1, _, _, _, _, _, _, _, _, _, by omega, rfl, hdo.1, Mdl.do_inv hmi _, hok1, hgo, (J_self (has_s rfl (has_s rfl (has_s rfl (has_s rfl (has_s rfl (has_s rfl (has_s rfl (has_s rfl (has_s rfl (has_s rfl (has_s rfl (has_s rfl (has_s rfl (has_s rfl has_0))))))))))))))), (hH.sel (by repeat' (first | exact Sel.refl _)))⟩ (by omega))
      ·refine g_skip ?_
       refine g_inBlock ?_
       refine g_seq ?_
       refine g_region (l := [0, 1, 2, 3, 4, 5, 6, 7]) rfl ?_
       refine vM (lv rfl) rfl rfl ?_
       refine vM (lv rfl) rfl rfl ?_
       refine o_v (lv rfl) rfl (r_min2 rfl rfl) ?_
       refine vM (lv rfl) rfl rfl ?_
       refine vM (lv rfl) rfl rfl ?_
       refine o_v (lv rfl) rfl (r_max2 rfl rfl) ?_
       refine vA (lv rfl) rfl rfl ?_
       refine vA (lv rfl) rfl rfl ?_
       refine g_region (l := [0, 1, 2, 3, 4, 5]) rfl ?_
       refine vM (lv rfl) rfl rfl ?_
       refine vM (lv rfl) rfl rfl ?_
       refine vM (lv rfl) rfl rfl ?_
       refine o_v (lv rfl) rfl (r_subI rfl rfl ?_) ?_; omega
       refine o_v (lv rfl) rfl (r_max2 rfl rfl) ?_
       refine vA (lv rfl) rfl rfl ?_
       refine g_inBlock ?_
       refine g_region (l := [0, 1]) rfl ?_
       refine o_v (lv rfl) rfl (r_addI rfl rfl ?_) ?_; omega
       refine vM (lv rfl) rfl rfl ?_
       (have c4' : both (mk.do (callOf ls x).1).2 f g = true := by simpa using c4
        have c5' : ins = true := by simpa using c5
        subst c5'
        have he : gEnd f g (mk.do (callOf ls x).1).2 ⟨mk, (sm, n0, n1), low, high, most, true⟩ (ts, q0, q1) = ⟨(mk.do (callOf ls x).1).2, (ts, q0, q1), min low ts, max high ts, max most (max high ts - min low ts), true⟩ := by unfold gEnd; rw [if_pos c4']; rfl
        rw [he] at hgo hok1
        exact hback _ _ _ ⟨k + 1, _, _, _, _, _, _, _, _, _, by omega, rfl, hdo.1, Mdl.do_inv hmi _, hok1, hgo, (J_self (has_s rfl (has_s rfl (has_s rfl (has_s rfl (has_s rfl (has_s rfl (has_s rfl (has_s rfl (has_s rfl (has_s rfl (has_s rfl (has_s rfl (has_s rfl (has_s rfl has_0))))))))))))))), (hH.sel (by repeat' (first | exact Sel.refl _)))⟩ (by omega))
  ·refine g_exit rfl ?_
   refine g_seq ?_
   refine g_region (l := [0, 1, 2]) rfl ?_
   refine vM (lv rfl) rfl rfl ?_
   refine o_v (lv rfl) rfl (r_cvU un_2 kn_22 rfl ?_) ?_; omega
   refine vA (lv rfl) rfl rfl ?_
   refine g_rq Tryz.func45 (res_t rfl res_0) ?_
   rw [List.drop_of_length_le (by simp; omega)] at hgo
   cases hgo
   exact ⟨rfl, (hH.sel (by repeat' (first | exact Sel.refl _ | refine Sel.q5 ?_ | refine Sel.skip _ ?_)))⟩
end
end Go.Proofs.YtkdbglfdgeldpaaGreat
