/- Contracts of package fair: the book of a run, the dearest packet of a flow. Condition: few points; plans and points only read. -/
import Derived.Test.YtkdbglfdgeldpaaGreatBook2
namespace Go.Proofs.YtkdbglfdgeldpaaGreat
open Go.Lt
def bookL (unit : Int) (ls : List (List Call)) : List Point → Nat → As → Int → As × Int
  | [], _, A, s => (A, s)
  | x :: l, i, A, s => bookL unit ls l (i + 1) (bookStep unit ls A s i x).1 (bookStep unit ls A s i x).2
theorem bookL_S (unit : Int) (ls : List (List Call)) (x : Point) (l : List Point) (i : Nat) (A : As) (s : Int) : bookL unit ls (x :: l) i A s = bookL unit ls l (i + 1) (bookStep unit ls A s i x).1 (bookStep unit ls A s i x).2 := rfl
def bookOf (c : Config) (ls : List (List Call)) (l : List Point) : As × Int := bookL c.unit ls l 0 [] 0
theorem tells_ok {n : Nat} {A : As} (h : aOk n A) (i : Int) : ∀ (ps : List Packet), aOk (n + ps.length) (ps.foldl (tell i) A)
  | [] => h
  | p :: ps => by
    have := tells_ok (tell_ok h i p) i ps
    simp only [List.foldl_cons, List.length_cons]
    exact this.up (by omega)
theorem bookStep_ok {n : Nat} {A : As} {sum : Int} {unit : Int} {ls : List (List Call)} (hls : listsOk ls) (h : aOk n A) (hs : U sum) (i : Int) (x : Point) (hx : x.ret.packets.length ≤ 100) :
    aOk (n + 101) (bookStep unit ls A sum i x).1 ∧ U (bookStep unit ls A sum i x).2 := by
  unfold bookStep
  split
  ·exact ⟨h.up (by omega), hs⟩
  ·have := bookMid_ok (unit := unit) hls h hs i x
   exact ⟨(tells_ok this.1 i x.ret.packets).up (by omega), this.2⟩
theorem many_len : ∀ (k : Nat) (m : Mdl) (l : List Packet), (m.many k l).1.packets.length ≤ l.length + k
  | 0, m, l => by simp [Mdl.many]
  | k + 1, m, l => by
    have h1 : m.one.1.packets.length ≤ 1 := by unfold Mdl.one; split <;> simp [code]
    rw [many_S]
    split
    ·simp only [List.length_append]; omega
    ·have := many_len k m.one.2 (l ++ m.one.1.packets)
     simp only [List.length_append] at this
     omega
theorem do_len (m : Mdl) (c : Call) : (m.do c).1.packets.length ≤ 16 := by
  have h1 : m.one.1.packets.length ≤ 1 := by unfold Mdl.one; split <;> simp [code]
  unfold Mdl.do
  split
  ·simp [code]
  split
  ·simp [code]
  split
  ·split <;> simp [code]
  split
  ·omega
  split
  ·unfold Mdl.batch
   split
   ·simp [code]
   ·have := many_len c.a.toNat m []
    simp only [List.length_nil] at this
    omega
  split
  ·simp
  ·simp [code]
theorem playL_len {ls : List (List Call)} : ∀ (l : List Point) (m : Mdl) (last : Option Int) {m' : Mdl}, playL ls l m last = some m' → ∀ x ∈ l, x.ret.packets.length ≤ 16
  | [], _, _, _, _ => by simp
  | x :: l, m, last, m', h => by
    rw [playL_S] at h
    split at h
    ·cases h
    ·rename_i hc
     intro y hy
     rcases List.mem_cons.1 hy with rfl | hy
     ·have : (m.do (callOf ls y).1).1 = y.ret := Classical.byContradiction fun hne => hc (.inr (.inr hne))
      rw [← this]; exact do_len _ _
     ·exact playL_len l _ _ h y hy
theorem plays_len {c : Config} {ls : List (List Call)} {l : List Point} {m : Mdl} (h : plays c ls l = some m) : ∀ x ∈ l, x.ret.packets.length ≤ 16 := by
  unfold plays at h
  split at h
  ·exact playL_len _ _ _ h
  ·cases h
/-- The dearest of some parcels. -/
def dearL (l : List Parcel) : Int := l.foldl (fun a q => max a q.cost) 0
def dear (A : As) (f : Int) : Int := dearL (aget A f).came
abbrev bkCells (c : Config) (lsv xv : Value) (mb : Nat) (sum : Int) : List Value := [.int .i64 c.shards, .int .i64 c.slots, .int .i64 c.workers, .int .i64 c.width, .int .u64 c.unit, lsv, xv, .map (some mb), .int .u64 sum]
section
variable {R : Base} {F : List HP} {w : World}
theorem fair_read {c : Config} {lsv xv : Value} {ls : List (List Call)} {l : List Point} (hP : RLists lsv ls R.h) (hX : RPoints xv l R.h) (hls : listsOk ls) (hl : l.length ≤ 1000000) (hH : Holds R F w) :
    Ret Tryz.prog 44 [vPlan c lsv, xv] w fun v w' => match plays c ls l with
      | none => v = .tuple #[.pointer none, .bool false] ∧ Holds R F w'
      | some _ => ∃ b mb, v = .tuple #[.pointer (some ⟨b, 0, none⟩), .bool true] ∧ Holds R (cel b (bkCells c lsv xv mb (bookOf c ls l).2) 91 :: AccsC mb (bookOf c ls l).1 :: F) w' := by
  have hX' := hX
  obtain ⟨sl, rfl, hsr, hsp⟩ := hX'
  obtain ⟨a, cap, rfl, -⟩ := hsr.len
  cases hp0 : plays c ls (sl.map Prod.fst) with
  | none =>
    refine ret_of_g (n := 31) Tryz.func44 rfl rfl (by simp) ?_
    refine g_seq ?_
    refine g_region (l := [0, 1, 2]) rfl ?_
    refine o_box (lv rfl) rfl (cs := [_, _, _, _, _, _]) rfl rfl hH ?_
    intro b2 w hH
    refine vA (lv rfl) rfl rfl ?_
    refine vA (lv rfl) rfl rfl ?_
    refine g_seq ?_
    refine g_seq ?_
    refine g_region (l := [0, 1, 2, 3]) rfl ?_
    refine o_ldN (lv rfl) rfl lk_28 rfl ⟨_, _, _, hH.c0, [_, _, _, _, _, _], rfl, rfl, ?_⟩
    refine vM (lv rfl) rfl rfl ?_
    refine o_call (lv rfl) rfl en_28 rfl (wit_Plays (c := c) hP hX hls hl hH) ?_
    rintro _ w ⟨hv, hH⟩
    rw [hp0] at hv; obtain rfl := hv
    refine o_v (lv rfl) rfl (r_not rfl) ?_
    refine g_true rfl ?_
    refine g_seq ?_
    refine g_region (l := [0, 1]) rfl ?_
    refine vA (lv rfl) rfl rfl ?_
    refine vA (lv rfl) rfl rfl ?_
    refine g_rq Tryz.func44 (res_t rfl (res_t rfl res_0)) ?_
    exact ⟨rfl, (hH.sel (by repeat' (first | exact Sel.refl _ | refine Sel.skip _ ?_)))⟩
  | some m =>
    rw [List.length_map] at hl
    have hplen := plays_len hp0
    have hcfg : cfgOk c := by
      unfold plays at hp0
      split at hp0
      ·assumption
      ·cases hp0
    have h0 : bookOf c ls (sl.map Prod.fst) = bookL c.unit ls ((sl.map Prod.fst).drop 0) 0 [] 0 := rfl
    refine ret_of_g (n := 31) Tryz.func44 rfl rfl (by simp) ?_
    refine g_seq ?_
    refine g_region (l := [0, 1, 2]) rfl ?_
    refine o_box (lv rfl) rfl (cs := [_, _, _, _, _, _]) rfl rfl hH ?_
    intro b2 w hH
    refine vA (lv rfl) rfl rfl ?_
    refine vA (lv rfl) rfl rfl ?_
    refine g_seq ?_
    refine g_seq ?_
    refine g_region (l := [0, 1, 2, 3]) rfl ?_
    refine o_ldN (lv rfl) rfl lk_28 rfl ⟨_, _, _, hH.c0, [_, _, _, _, _, _], rfl, rfl, ?_⟩
    refine vM (lv rfl) rfl rfl ?_
    refine o_call (lv rfl) rfl en_28 rfl (wit_Plays (c := c) hP hX hls (by rw [List.length_map]; exact hl) hH) ?_
    rintro _ w ⟨hv, hH⟩
    rw [hp0] at hv; obtain rfl := hv
    refine o_v (lv rfl) rfl (r_not rfl) ?_
    refine g_false rfl ?_
    refine g_skip ?_
    refine g_seq ?_
    refine g_region (l := [0, 1, 2, 3, 4, 5]) rfl ?_
    refine o_ldN (lv rfl) rfl lk_28 rfl ⟨_, _, _, hH.c0, [_, _, _, _, _, _], rfl, rfl, ?_⟩
    refine vM (lv rfl) rfl rfl ?_
    refine o_mm (lv rfl) rfl hH ?_
    intro b15 w hH
    refine o_v (lv rfl) rfl (r_bld (ps := [_, _, _]) (cs := [_, _, _, _, _, _, _, _, _]) pl_91 rfl rfl) ?_
    refine o_box (lv rfl) rfl (cs := [_, _, _, _, _, _, _, _, _]) rfl rfl hH ?_
    intro b17 w hH
    refine vA (lv rfl) rfl rfl ?_
    refine g_seq ?_
    refine g_seq ?_
    have hH0 := AccsC.mk (Q := []) (mb := b15) (F := cel b17 (bkCells c lsv (.slice a sl.length cap) b15 0) 91 :: cel b2 [.int .i64 c.shards, .int .i64 c.slots, .int .i64 c.workers, .int .i64 c.width, .int .u64 c.unit, lsv] 28 :: F) (Holds.p1 (Holds.all_nil (hH.sel (by repeat' (first | exact Sel.refl _ | refine Sel.q1 ?_)))))
    refine g_region (l := [0, 1, 2]) rfl ?_
    refine vM (lv rfl) rfl rfl ?_
    refine o_v (lv rfl) rfl (r_len el_30 rfl) ?_
    refine vM (lv rfl) rfl rfl ?_
    refine g_block ?_
    refine g_loop (fun mm e w => ∃ (k : Nat) (e0 : Env) (Ak : As) (s : Int), k ≤ sl.length ∧ mm = sl.length - k ∧ aOk (101 * k) Ak ∧ U s ∧ bookOf c ls (sl.map Prod.fst) = bookL c.unit ls ((sl.map Prod.fst).drop k) k Ak s ∧
        e = J e0 [(1, .slice a sl.length cap), (2, .pointer (some ⟨b2, 0, none⟩)), (6, .pointer (some ⟨b17, 0, none⟩)), (18, .slice a sl.length cap), (19, .int .i64 sl.length), (20, .int .i64 k)] ∧
        Holds R (cel b17 (bkCells c lsv (.slice a sl.length cap) b15 s) 91 :: AccsC b15 Ak :: cel b2 [.int .i64 c.shards, .int .i64 c.slots, .int .i64 c.workers, .int .i64 c.width, .int .u64 c.unit, lsv] 28 :: F) w) sl.length ⟨0, _, [], 0, by omega, by omega, by simp [aOk], by unfold U; omega, h0, (J_self (has_s rfl (has_s rfl (has_s rfl (has_s rfl (has_s rfl (has_s rfl has_0))))))), hH0.p1⟩ ?_
    rintro mm _ w ⟨k, e0, Ak, s, hk, hm, hAk, hs, hpl, rfl, hH⟩ hback
    refine g_seq ?_
    refine g_region (l := [0]) rfl ?_
    refine o_v (lv rfl) rfl (r_lt rfl rfl) ?_
    refine g_seq ?_
    refine g_if rfl (fun c1 => ?_) (fun c1 => ?_)
    ·have hkl : k < sl.length := by omega
     obtain ⟨⟨x, pv⟩, hx⟩ : ∃ x, sl[k]? = some x := ⟨_, List.getElem?_eq_getElem hkl⟩
     have hxm : (sl.map Prod.fst)[k]? = some x := by rw [List.getElem?_map, hx]; rfl
     have hpr : Rd encP pv x.ret.packets R.h := hsp _ (List.mem_of_getElem? hx)
     have hx16 := hplen x (List.mem_of_getElem? hxm)
     obtain ⟨pa, pcap, rfl, hpc⟩ := hpr.len
     obtain ⟨bp, op_, cs, T, rfl, hbp, hcp0⟩ := Rd.el hkPt hsr hx
     have hcp := dt_of hcp0
     have hst := bookStep_ok (unit := c.unit) hls hAk hs k x (by omega)
     rw [drop_S hxm, bookL_S] at hpl
     refine g_skip ?_
     refine g_seq ?_
     refine g_block ?_
     refine g_seq ?_
     refine g_region (l := [0, 1, 2, 3, 4, 5]) rfl ?_
     refine vM (lv rfl) rfl rfl ?_
     refine o_v (lv rfl) rfl (r_ia el_30 rfl rfl ?_ ?_) ?_; omega; omega
     refine o_ldN (lv rfl) rfl lk_59 rfl ⟨_, _, _, hH.old hbp, _, hcp, rfl, ?_⟩
     refine o_al (lv rfl) rfl ze_59 hH ?_
     intro b8 w hH
     refine vA (lv rfl) rfl rfl ?_
     refine o_st (lv rfl) rfl lk_59 rfl (vs := [_, _, _, _, _, _, _]) rfl rfl (by exact hH) rfl rfl (by simp) rfl ?_
     intro w hH; dsimp only [setL, List.set] at hH
     refine g_region (l := [0, 1, 2, 3]) rfl ?_
     refine vM (lv rfl) rfl rfl ?_
     refine vM (lv rfl) rfl rfl ?_
     refine o_ldN (lv rfl) rfl lk_59 rfl ⟨_, _, _, hH.c0, [_, _, _, _, _, _, _], rfl, rfl, ?_⟩
     refine o_call (lv rfl) rfl en_78 rfl (fair_enter hP hls hcfg k (by omega) x hpr (by omega) hAk (by omega) hs (by exact (hH.p2).p2)) ?_
     rintro _ w hH
     refine g_inBlock ?_
     refine g_region (l := [0, 1]) rfl ?_
     refine o_v (lv rfl) rfl (r_addI rfl rfl ?_) ?_; omega
     refine vM (lv rfl) rfl rfl ?_
     exact hback _ _ _ ⟨k + 1, _, _, _, by omega, rfl, hst.1.up (by omega), hst.2, hpl, (J_self (has_s rfl (has_s rfl (has_s rfl (has_s rfl (has_s rfl (has_s rfl has_0))))))), (hH.sel (by repeat' (first | exact Sel.refl _ | refine Sel.q0 ?_ | refine Sel.q1 ?_ | refine Sel.skip _ ?_)))⟩ (by omega)
    ·refine g_exit rfl ?_
     refine g_seq ?_
     refine g_region (l := [0, 1, 2]) rfl ?_
     refine vM (lv rfl) rfl rfl ?_
     refine vA (lv rfl) rfl rfl ?_
     refine vA (lv rfl) rfl rfl ?_
     refine g_rq Tryz.func44 (res_t rfl (res_t rfl res_0)) ?_
     rw [show bookOf c ls (sl.map Prod.fst) = (Ak, s) from by rw [hpl, List.drop_of_length_le (by simp; omega)]; rfl]
     exact ⟨_, _, rfl, (hH.sel (by repeat' (first | exact Sel.refl _ | refine Sel.q0 ?_ | refine Sel.skip _ ?_)))⟩
theorem dearL_snoc (l : List Parcel) (q : Parcel) : dearL (l ++ [q]) = max (dearL l) q.cost := by simp [dearL]
theorem fair_dearest {b mb : Nat} {c : Config} {lsv xv : Value} {A : As} {sum : Int} {n : Nat} (hA : aOk n A) (hn : n ≤ 1000000000) (f : Int) (hH : Holds R (cel b (bkCells c lsv xv mb sum) 91 :: AccsC mb A :: F) w) :
    Ret Tryz.prog 46 [.pointer (some ⟨b, 0, none⟩), .int .i64 f] w fun v w' => v = .int .u64 (dear A f) ∧ Holds R (cel b (bkCells c lsv xv mb sum) 91 :: AccsC mb A :: F) w' := by
  have hg := aget_ok hA f
  have hg' := hg; unfold accOk at hg'
  obtain ⟨l, cv, av, rest, hval, hH, hkeep, -⟩ := AccsC.take f hH.p1
  obtain ⟨ca, ccap, rfl, -⟩ := hH.p1.rd.len
  obtain ⟨la, lcap, rfl, -⟩ := hH.p2.rd.len
  refine ret_of_g (n := 26) Tryz.func46 rfl rfl (by simp) ?_
  refine g_seq ?_
  refine g_region (l := [0]) rfl ?_
  refine vA (lv rfl) rfl rfl ?_
  refine g_seq ?_
  refine g_region (l := [0]) rfl ?_
  refine vA (lv rfl) rfl rfl ?_
  refine g_seq ?_
  refine g_seq ?_
  refine g_region (l := [0, 1, 2, 3, 4, 5, 6, 7, 8]) rfl ?_
  refine vM (lv rfl) rfl rfl ?_
  refine o_v (lv rfl) rfl (r_nil rfl) ?_
  refine o_v (lv rfl) rfl (r_fa fa_91_2 rfl) ?_
  refine o_ld (lv rfl) rfl lk_89 rfl ⟨_, _, _, hH.c4, _, rfl, ?_⟩
  refine vM (lv rfl) rfl rfl ?_
  refine o_v (lv rfl) rfl (r_lkw mp_89 rfl rfl (by exact hH.mrd) (hval)) ?_
  refine o_v (lv rfl) rfl (r_fld (cs := [_, _, _, _]) (off := 1) (fT := 104) rfl (by kernel_rfl) lk_104 rfl) ?_
  refine o_v (lv rfl) rfl (r_len el_104 rfl) ?_
  refine vM (lv rfl) rfl rfl ?_
  refine g_block ?_
  refine g_loop (fun mm e w => ∃ (k : Nat) (e0 : Env), k ≤ (aget A f).came.length ∧ mm = (aget A f).came.length - k ∧ e = J e0 [(5, .int .u64 (dearL ((aget A f).came.take k))), (14, .slice ca (aget A f).came.length ccap), (15, .int .i64 (aget A f).came.length), (16, .int .i64 k)] ∧
      Holds R (MapC mb l :: Vec 108 5 encPc (.slice ca (aget A f).came.length ccap) (aget A f).came :: Vec 3 1 encI (.slice la (aget A f).left.length lcap) (aget A f).left :: rest :: cel b (bkCells c lsv xv mb sum) 91 :: F) w) (aget A f).came.length ⟨0, _, by omega, by omega, (J_self (has_s rfl (has_s rfl (has_s rfl (has_s rfl has_0))))), (hH.sel (by repeat' (first | exact Sel.refl _)))⟩ ?_
  rintro mm _ w ⟨k, e0, hk, hm, rfl, hH⟩ hback
  refine g_seq ?_
  refine g_region (l := [0]) rfl ?_
  refine o_v (lv rfl) rfl (r_lt rfl rfl) ?_
  refine g_seq ?_
  refine g_if rfl (fun c0 => ?_) (fun c0 => ?_)
  ·have hkl : k < (aget A f).came.length := by omega
   obtain ⟨q, hq⟩ : ∃ q, (aget A f).came[k]? = some q := ⟨_, List.getElem?_eq_getElem hkl⟩
   obtain ⟨bq, oq, csq, Tq, rfl, hbq, hcq0⟩ := Rd.el hkPc hH.p1.rd hq
   have hcqN := dt_of hcq0
   refine g_skip ?_
   refine g_seq ?_
   refine g_block ?_
   refine g_seq ?_
   refine g_region (l := [0, 1, 2, 3]) rfl ?_
   refine o_v (lv rfl) rfl (r_ia el_104 rfl rfl ?_ ?_) ?_; omega; omega
   refine o_ldN (lv rfl) rfl lk_108 rfl ⟨_, _, _, hbq, _, hcqN, rfl, ?_⟩
   refine o_al (lv rfl) rfl ze_108 hH ?_
   intro b7 w hH
   refine o_st (lv rfl) rfl lk_108 rfl (vs := [_, _, _, _, _]) rfl rfl (by exact hH) rfl rfl (by simp) rfl ?_
   intro w hH; dsimp only [setL, List.set] at hH
   refine g_region (l := [0, 1, 2, 3, 4]) rfl ?_
   refine vM (lv rfl) rfl rfl ?_
   refine o_v (lv rfl) rfl (r_fa fa_108_1 rfl) ?_
   refine o_ld (lv rfl) rfl lk_22 rfl ⟨_, _, _, hH.c0, _, rfl, ?_⟩
   refine o_v (lv rfl) rfl (r_max2 rfl rfl) ?_
   refine vA (lv rfl) rfl rfl ?_
   refine g_inBlock ?_
   refine g_region (l := [0, 1]) rfl ?_
   refine o_v (lv rfl) rfl (r_addI rfl rfl ?_) ?_; omega
   refine vM (lv rfl) rfl rfl ?_
   exact hback _ _ _ ⟨k + 1, _, by omega, rfl, by rw [List.take_add_one, hq, Option.toList_some, dearL_snoc]; exact (J_self (has_s rfl (has_s rfl (has_s rfl (has_s rfl has_0))))), (hH.sel (by repeat' (first | exact Sel.refl _ | refine Sel.q1 ?_ | refine Sel.skip _ ?_)))⟩ (by omega)
  ·refine g_exit rfl ?_
   refine g_seq ?_
   refine g_region (l := [0, 1]) rfl ?_
   refine vM (lv rfl) rfl rfl ?_
   refine vA (lv rfl) rfl rfl ?_
   refine g_rq Tryz.func46 (res_t rfl res_0) ?_
   rw [show dear A f = dearL ((aget A f).came.take k) from by unfold dear; rw [List.take_of_length_le (by omega)]]
   exact ⟨rfl, Holds.p1 (hkeep _ _ (hH.sel (by repeat' (first | exact Sel.refl _))))⟩
end
end Go.Proofs.YtkdbglfdgeldpaaGreat
