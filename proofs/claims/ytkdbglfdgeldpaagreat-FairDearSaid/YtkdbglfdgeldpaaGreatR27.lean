/- Contracts of the reference of layer 28: sums, names. Condition: plans and points only read. -/
import Derived.Test.YtkdbglfdgeldpaaGreatWit3
namespace Go.Proofs.YtkdbglfdgeldpaaGreat
open Go.Lt
def costOf (a r : Int) : Int := satMul (max a 0) r
def lim : Int := 4611686018427387904
def came (ls : List (List Call)) (x : Point) : Prop := (callOf ls x).1.op = 3 ∧ x.ret.e = 0
instance (ls : List (List Call)) (x : Point) : Decidable (came ls x) := by unfold came; infer_instance
/-- What the packet of a point costs. -/
def costAt (ls : List (List Call)) (m : Mdl) (x : Point) : Int := costOf (callOf ls x).1.a (m.s.rate (callOf ls x).1.flow)
structure Sums where
  all : Int
  a : Int
  b : Int
def sumStep (ls : List (List Call)) (f g : Int) (m : Mdl) (t : Sums) (x : Point) : Sums :=
  if came ls x then ⟨min (satAdd t.all (costAt ls m x)) lim, if (callOf ls x).1.flow = f then max t.a (costAt ls m x) else t.a, if (callOf ls x).1.flow = g then max t.b (costAt ls m x) else t.b⟩ else t
def sumsL (ls : List (List Call)) (f g : Int) : List Point → Mdl → Sums → Sums
  | [], _, t => t
  | x :: l, m, t => sumsL ls f g l (m.do (callOf ls x).1).2 (sumStep ls f g m t x)
def sums (c : Config) (ls : List (List Call)) (l : List Point) (f g : Int) : Sums := sumsL ls f g l (mkMdl c) ⟨0, 0, 0⟩
def Sums.ok (t : Sums) : Prop := U t.all ∧ U t.a ∧ U t.b
theorem rate_U {s : Sq} (hok : s.ok) (id : Int) : U (s.rate id) := by
  unfold Sq.rate
  split
  ·unfold U; omega
  ·split
   ·unfold U; omega
   ·rename_i x hx
    have := (hok.1 x (List.mem_of_getElem? hx)).2
    unfold Flw.ok at this
    exact this.1
theorem costAt_U {ls : List (List Call)} (hls : listsOk ls) {m : Mdl} (hok : m.s.ok) (x : Point) : U (costAt ls m x) := by
  have h := (callOf_ok hls x).2.2.1
  unfold I at h
  exact satMul_U (by unfold U; omega) (rate_U hok _)
theorem sumStep_ok {ls : List (List Call)} (hls : listsOk ls) {f g : Int} {m : Mdl} (hok : m.s.ok) {t : Sums} (ht : t.ok) (x : Point) : (sumStep ls f g m t x).ok := by
  have hc := costAt_U hls hok x
  obtain ⟨h1, h2, h3⟩ := ht
  unfold sumStep
  split
  ·have h4 := satAdd_U h1 hc
   refine ⟨?_, ?_, ?_⟩
   ·show U (min _ _); unfold U lim at *; omega
   ·show U (if _ then _ else _); split
    ·show U (max _ _); unfold U at *; omega
    ·exact h2
   ·show U (if _ then _ else _); split
    ·show U (max _ _); unfold U at *; omega
    ·exact h3
  ·exact ⟨h1, h2, h3⟩
def reg (ls : List (List Call)) (x : Point) : Prop := (callOf ls x).1.op = 1 ∧ x.ret.e = 0
instance (ls : List (List Call)) (x : Point) : Decidable (reg ls x) := by unfold reg; infer_instance
def nameStep (ls : List (List Call)) (out : List Int) (x : Point) : List Int := if reg ls x ∧ (callOf ls x).1.flow ∉ out then out ++ [(callOf ls x).1.flow] else out
def names (ls : List (List Call)) (l : List Point) : List Int := l.foldl (nameStep ls) []
theorem nameStep_len (ls : List (List Call)) (out : List Int) (x : Point) : (nameStep ls out x).length ≤ out.length + 1 := by
  unfold nameStep; split <;> simp
section
variable {R : Base} {F : List HP} {w : World}
theorem help_In {v : Value} {l : List Int} (hr : Rd encI v l R.h) (hl : l.length ≤ 2147483648) (x : Int) (hH : Holds R F w) :
    Ret Tryz.prog 84 [v, .int .i64 x] w fun v w' => v = .bool (decide (x ∈ l)) ∧ Holds R F w' := by
  obtain ⟨a, cap, rfl, -⟩ := hr.len
  refine ret_of_g (n := 18) Tryz.func84 rfl rfl (by simp) ?_
  refine g_seq ?_
  refine g_region (l := [0]) rfl ?_
  refine vA (lv rfl) rfl rfl ?_
  refine g_seq ?_
  refine g_seq ?_
  refine g_region (l := [0]) rfl ?_
  refine vA (lv rfl) rfl rfl ?_
  refine g_block ?_
  refine g_loop (fun mm e w => ∃ (k : Nat) (e0 : Env), k ≤ l.length ∧ mm = l.length - k ∧ (∀ (j : Nat) (y : Int), j < k → l[j]? = some y → y ≠ x) ∧ e = J e0 [(0, .slice a l.length cap), (1, .int .i64 x), (5, .int .i64 k)] ∧ Holds R F w) l.length ⟨0, _, by omega, by omega, by omega, (J_self (has_s rfl (has_s rfl (has_s rfl has_0)))), hH⟩ ?_
  rintro mm _ w ⟨k, e0, hk, hm, hno, rfl, hH⟩ hback
  refine g_seq ?_
  refine g_seq ?_
  refine g_region (l := [0, 1, 2, 3]) rfl ?_
  refine vM (lv rfl) rfl rfl ?_
  refine vM (lv rfl) rfl rfl ?_
  refine o_v (lv rfl) rfl (r_len el_26 rfl) ?_
  refine o_v (lv rfl) rfl (r_lt rfl rfl) ?_
  refine g_if rfl (fun c0 => ?_) (fun c0 => ?_)
  ·have hkl : k < l.length := by omega
   obtain ⟨y, hy⟩ : ∃ y, l[k]? = some y := ⟨_, List.getElem?_eq_getElem hkl⟩
   obtain ⟨bp, op_, cs, T, rfl, hbp, hcp0⟩ := Rd.el hkI hr hy
   have hcp := hcp0 0 _ rfl
   refine g_skip ?_
   refine g_seq ?_
   refine g_block ?_
   refine g_seq ?_
   refine g_region (l := [0, 1, 2, 3, 4, 5]) rfl ?_
   refine vM (lv rfl) rfl rfl ?_
   refine vM (lv rfl) rfl rfl ?_
   refine o_v (lv rfl) rfl (r_ia el_26 rfl rfl ?_ ?_) ?_; omega; omega
   refine o_ld (lv rfl) rfl lk_3 rfl ⟨_, _, _, hH.old hbp, _, hcp, ?_⟩
   refine vM (lv rfl) rfl rfl ?_
   refine o_v (lv rfl) rfl (r_eq rfl rfl) ?_
   refine g_if rfl (fun c1 => ?_) (fun c1 => ?_)
   ·refine g_seq ?_
    refine g_region (l := [0]) rfl ?_
    refine vA (lv rfl) rfl rfl ?_
    refine g_rq Tryz.func84 (res_t rfl res_0) ?_
    exact ⟨bv (by symm; apply decide_eq_true; rw [← c1]; exact List.mem_of_getElem? hy), (hH.sel (by repeat' (first | exact Sel.refl _)))⟩
   ·refine g_skip ?_
    refine g_inBlock ?_
    refine g_region (l := [0, 1, 2]) rfl ?_
    refine vM (lv rfl) rfl rfl ?_
    refine o_v (lv rfl) rfl (r_addI rfl rfl ?_) ?_; omega
    refine vA (lv rfl) rfl rfl ?_
    exact hback _ _ _ ⟨k + 1, _, by omega, rfl, fun j z hj hz => by
      by_cases hjk : j = k
      ·subst hjk; rw [hy] at hz; cases hz; exact c1
      ·exact hno j z (by omega) hz, (J_self (has_s rfl (has_s rfl (has_s rfl has_0)))), hH⟩ (by omega)
  ·refine g_exit rfl ?_
   refine g_seq ?_
   refine g_region (l := [0]) rfl ?_
   refine vA (lv rfl) rfl rfl ?_
   refine g_rq Tryz.func84 (res_t rfl res_0) ?_
   exact ⟨bv (by symm; apply decide_eq_false; intro h; obtain ⟨j, hj⟩ := List.getElem?_of_mem h; exact hno j x (by have := (List.getElem?_eq_some_iff.1 hj).1; omega) hj rfl), (hH.sel (by repeat' (first | exact Sel.refl _)))⟩
theorem r27_Sums {c : Config} {lsv xv : Value} {ls : List (List Call)} {l : List Point} (hcfg : cfgOk c) (hP : RLists lsv ls R.h) (hX : RPoints xv l R.h) (hls : listsOk ls) (hl : l.length ≤ 1000000) (f g : Int) (hH : Holds R F w) :
    Ret Tryz.prog 47 [vPlan c lsv, xv, .int .i64 f, .int .i64 g] w fun v w' => v = .tuple #[.int .u64 (sums c ls l f g).all, .int .u64 (sums c ls l f g).a, .int .u64 (sums c ls l f g).b] ∧ Holds R F w' := by
  obtain ⟨sl, rfl, hsr, hsp⟩ := hX
  obtain ⟨a, cap, rfl, -⟩ := hsr.len
  rw [List.length_map] at hl
  have h0 : sums c ls (sl.map Prod.fst) f g = sumsL ls f g ((sl.map Prod.fst).drop 0) (mkMdl c) ⟨0, 0, 0⟩ := rfl
  refine ret_of_g (n := 80) Tryz.func47 rfl rfl (by simp) ?_
  refine g_seq ?_
  refine g_region (l := [0, 1, 2, 3]) rfl ?_
  refine o_box (lv rfl) rfl (cs := [_, _, _, _, _, _]) rfl rfl hH ?_
  intro b4 w hH
  refine vA (lv rfl) rfl rfl ?_
  refine vA (lv rfl) rfl rfl ?_
  refine vA (lv rfl) rfl rfl ?_
  refine g_seq ?_
  refine g_region (l := [0, 1, 2, 3]) rfl ?_
  refine o_v (lv rfl) rfl (r_fa fa_28_0 rfl) ?_
  refine o_ldN (lv rfl) rfl lk_24 rfl ⟨_, _, _, hH.c0, [_, _, _, _, _], rfl, rfl, ?_⟩
  refine o_call (lv rfl) rfl en_42 rfl (r09_NewModel c hH) ?_
  rintro _ w ⟨bm, rfl, hH⟩
  refine vA (lv rfl) rfl rfl ?_
  refine g_seq ?_
  refine g_region (l := [0, 1, 2]) rfl ?_
  refine vA (lv rfl) rfl rfl ?_
  refine vA (lv rfl) rfl rfl ?_
  refine vA (lv rfl) rfl rfl ?_
  refine g_seq ?_
  refine g_seq ?_
  refine g_region (l := [0]) rfl ?_
  refine vA (lv rfl) rfl rfl ?_
  refine g_block ?_
  refine g_loop (fun mm e w => ∃ (k : Nat) (e0 : Env) (mk : Mdl) (t : Sums), k ≤ sl.length ∧ mm = sl.length - k ∧ mk.ok k ∧ t.ok ∧ sums c ls (sl.map Prod.fst) f g = sumsL ls f g ((sl.map Prod.fst).drop k) mk t ∧
      e = J e0 [(1, .slice a sl.length cap), (2, .int .i64 f), (3, .int .i64 g), (4, .pointer (some ⟨b4, 0, none⟩)), (11, .pointer (some ⟨bm, 0, none⟩)), (12, .int .u64 t.all), (13, .int .u64 t.a), (14, .int .u64 t.b), (15, .int .i64 k)] ∧
      Holds R (RMdlC bm mk :: cel b4 [.int .i64 c.shards, .int .i64 c.slots, .int .i64 c.workers, .int .i64 c.width, .int .u64 c.unit, lsv] 28 :: F) w) sl.length ⟨0, _, mkMdl c, ⟨0, 0, 0⟩, by omega, by omega, mkMdl_ok c hcfg, by unfold Sums.ok U; simp, h0, (J_self (has_s rfl (has_s rfl (has_s rfl (has_s rfl (has_s rfl (has_s rfl (has_s rfl (has_s rfl (has_s rfl has_0)))))))))), (hH.sel (by repeat' (first | exact Sel.refl _)))⟩ ?_
  rintro mm _ w ⟨k, e0, mk, t, hk, hm, hmk, htk, hpl, rfl, hH⟩ hback
  refine g_seq ?_
  refine g_seq ?_
  refine g_region (l := [0, 1, 2, 3]) rfl ?_
  refine vM (lv rfl) rfl rfl ?_
  refine vM (lv rfl) rfl rfl ?_
  refine o_v (lv rfl) rfl (r_len el_30 rfl) ?_
  refine o_v (lv rfl) rfl (r_lt rfl rfl) ?_
  refine g_if rfl (fun c0 => ?_) (fun c0 => ?_)
  ·have hkl : k < sl.length := by omega
   obtain ⟨⟨x, pv⟩, hx⟩ : ∃ x, sl[k]? = some x := ⟨_, List.getElem?_eq_getElem hkl⟩
   have hxm : (sl.map Prod.fst)[k]? = some x := by rw [List.getElem?_map, hx]; rfl
   have hpr : Rd encP pv x.ret.packets R.h := hsp _ (List.mem_of_getElem? hx)
   obtain ⟨pa, pcap, rfl, hpc⟩ := hpr.len
   obtain ⟨bp, op_, cs, T, rfl, hbp, hcp0⟩ := Rd.el hkPt hsr hx
   have hcp := dt_of hcp0
   have hcpe := hcp0 3 (.int .i64 x.ret.e) rfl
   have hco := callOf_ok hls x
   have hco' := hco; unfold Call.ok I at hco'
   have hdo := Mdl.do_ok hmk (by omega) hco
   rw [drop_S hxm] at hpl
   have hcu := costAt_U hls hmk.2.1 x
   have hcu' := hcu; unfold costAt costOf at hcu'
   have hst := sumStep_ok (f := f) (g := g) hls hmk.2.1 htk x
   have htk1 := htk.1
   refine g_skip ?_
   refine g_seq ?_
   refine g_block ?_
   refine g_seq ?_
   refine rD mixed hH fun w hH => ?_
   refine d_ldN (i := 0) [5, 10] (lv rfl) rfl lk_28 rfl (by kernel_rfl) ⟨_, _, _, hH.c1, [_, _, _, _, _, _], rfl, rfl, ?_⟩
   refine pM 1 (lv rfl) rfl rfl ?_
   refine pM 2 (lv rfl) rfl rfl ?_
   refine d_p (i := 3) (lv rfl) rfl (fun w => (r_ia el_30 rfl rfl ?_ ?_)) (by kernel_rfl) ?_; omega; omega
   refine d_ldN (i := 4) [5, 10] (lv rfl) rfl lk_59 rfl (by kernel_rfl) ⟨_, _, _, hH.old hbp, _, hcp, rfl, ?_⟩
   refine d_l2 (j := 5) (j2 := 9) (by kernel_rfl) ?_ ?_
   ·refine o_call (lv rfl) rfl en_48 rfl (r27_Call (c := c) hP (by have := hls.1; omega) x hH) ?_
    rintro _ w ⟨rfl, hH⟩
    refine ⟨(keeps_in rfl (keeps_in rfl trivial)), ?_⟩
    refine pM 6 (lv rfl) rfl rfl ?_
    refine pE 7 (lv rfl) rfl rfl rfl ?_
    refine pE 8 (lv rfl) rfl rfl rfl ?_
    refine d_l (j := 9) (by kernel_rfl) ?_
    refine o_al (lv rfl) rfl ze_46 hH ?_
    intro b16 w hH
    refine ⟨(keeps_cons (fun _ => (by exact hH.old ‹_›)) (keeps_cons (fun _ => (by exact hH.c2)) trivial)), ?_⟩
    refine d_l (j := 10) (by kernel_rfl) ?_
    refine o_st (lv rfl) rfl lk_46 rfl (vs := [_, _, _, _]) rfl rfl (by exact hH) rfl rfl (by simp) rfl ?_
    intro w hH; dsimp only [setL, List.set] at hH
    refine ⟨(keeps_in rfl (keeps_in rfl trivial)), ?_⟩
    refine pA 11 (lv rfl) rfl rfl ?_
    refine d_end (by kernel_rfl) ?_
    refine g_seq ?_
    refine g_seq ?_
    refine g_region (l := [0, 1, 2, 3, 4, 5, 6, 7, 8, 9, 10, 11]) rfl ?_
    refine o_v (lv rfl) rfl (r_fa fa_46_0 rfl) ?_
    refine o_ld (lv rfl) rfl lk_3 rfl ⟨_, _, _, hH.c0, _, rfl, ?_⟩
    refine o_v (lv rfl) rfl (r_eq rfl rfl) ?_
    refine vM (lv rfl) rfl rfl ?_
    refine s_ops (fun g7_3 => ?_) (fun g7_3 => ?_)
    ·refine vM (lvg rfl rfl rfl) rfl rfl ?_
     refine vM (lvg rfl rfl rfl) rfl rfl ?_
     refine o_v (lvg rfl rfl rfl) rfl (r_ia el_30 rfl rfl ?_ ?_) ?_; omega; omega
     refine o_v (lvg rfl rfl rfl) rfl (r_fa fa_59_3 rfl) ?_
     refine o_v (lvg rfl rfl rfl) rfl (r_fa fa_57_0 rfl) ?_
     refine o_ld (lvg rfl rfl rfl) rfl lk_55 rfl ⟨_, _, _, hH.old hbp, _, hcpe, ?_⟩
     refine o_v (lvg rfl rfl rfl) rfl (r_eq rfl rfl) ?_
     refine o_v (lv rfl) rfl (r_pickT rfl rfl) ?_
     refine g_if rfl (fun c1 => ?_) (fun c1 => ?_)
     ·refine g_seq ?_
      refine rD mixed hH fun w hH => ?_
      refine pF 0 (lv rfl) rfl fa_46_2 rfl ?_
      refine d_ld (i := 1) [6] (lv rfl) rfl lk_3 rfl (by kernel_rfl) ⟨_, _, _, hH.c0, _, rfl, ?_⟩
      refine pM 2 (lv rfl) rfl rfl ?_
      refine pF 3 (lv rfl) rfl fa_46_1 rfl ?_
      refine d_ld (i := 4) [5, 6] (lv rfl) rfl lk_3 rfl (by kernel_rfl) ⟨_, _, _, hH.c0, _, rfl, ?_⟩
      refine d_l (j := 5) (by kernel_rfl) ?_
      refine o_call (lv rfl) rfl en_50 rfl (r27_rate hmk.2.1 _ (by exact hH.p1)) ?_
      rintro _ w ⟨rfl, hH⟩
      refine ⟨(keeps_in rfl (keeps_cons (fun _ => (by exact hH.c1)) trivial)), ?_⟩
      refine d_l (j := 6) (by kernel_rfl) ?_
      refine o_call (lv rfl) rfl en_49 rfl (r01_Cost (callOf ls x).1.a _ (by omega) (rate_U hmk.2.1 _) hH) ?_
      rintro _ w ⟨rfl, hH⟩
      refine ⟨(keeps_in rfl (keeps_in rfl trivial)), ?_⟩
      refine pA 7 (lv rfl) rfl rfl ?_
      refine d_end (by kernel_rfl) ?_
      refine g_seq ?_
      refine g_region (l := [0, 1, 2, 3, 4]) rfl ?_
      refine vM (lv rfl) rfl rfl ?_
      refine vM (lv rfl) rfl rfl ?_
      refine o_call (lv rfl) rfl en_80 rfl (r01_Add t.all _ htk1 hcu' hH) ?_
      rintro _ w ⟨rfl, hH⟩
      refine o_v (lv rfl) rfl (r_min2 rfl rfl) ?_
      refine vA (lv rfl) rfl rfl ?_
      refine g_seq ?_
      refine g_seq ?_
      refine g_region (l := [0, 1, 2, 3]) rfl ?_
      refine o_v (lv rfl) rfl (r_fa fa_46_1 rfl) ?_
      refine o_ld (lv rfl) rfl lk_3 rfl ⟨_, _, _, hH.c1, _, rfl, ?_⟩
      refine vM (lv rfl) rfl rfl ?_
      refine o_v (lv rfl) rfl (r_eq rfl rfl) ?_
      refine g_if rfl (fun c2 => ?_) (fun c2 => ?_)
      ·refine g_region (l := [0, 1, 2, 3]) rfl ?_
       refine vM (lv rfl) rfl rfl ?_
       refine vM (lv rfl) rfl rfl ?_
       refine o_v (lv rfl) rfl (r_max2 rfl rfl) ?_
       refine vA (lv rfl) rfl rfl ?_
       refine g_seq ?_
       refine g_region (l := [0, 1, 2, 3]) rfl ?_
       refine o_v (lv rfl) rfl (r_fa fa_46_1 rfl) ?_
       refine o_ld (lv rfl) rfl lk_3 rfl ⟨_, _, _, hH.c1, _, rfl, ?_⟩
       refine vM (lv rfl) rfl rfl ?_
       refine o_v (lv rfl) rfl (r_eq rfl rfl) ?_
       refine g_if rfl (fun c3 => ?_) (fun c3 => ?_)
       ·refine g_region (l := [0, 1, 2, 3]) rfl ?_
        refine vM (lv rfl) rfl rfl ?_
        refine vM (lv rfl) rfl rfl ?_
        refine o_v (lv rfl) rfl (r_max2 rfl rfl) ?_
        refine vA (lv rfl) rfl rfl ?_
        refine g_region (l := [0, 1, 2]) rfl ?_
        refine vM (lv rfl) rfl rfl ?_
        refine o_ldN (lv rfl) rfl lk_46 rfl ⟨_, _, _, hH.c1, [_, _, _, _], rfl, rfl, ?_⟩
        refine o_call (lv rfl) rfl en_43 rfl (r09_Do hmk.1 hmk.2.1 (by have := hmk.2.2.1; omega) ⟨hmk.2.2.2.1, by have := hmk.2.2.2.2; omega⟩ _ hco (by exact hH)) ?_
        rintro _ w ⟨pv2, rfl, hH⟩
        refine g_inBlock ?_
        refine g_region (l := [0, 1, 2]) rfl ?_
        refine vM (lv rfl) rfl rfl ?_
        refine o_v (lv rfl) rfl (r_addI rfl rfl ?_) ?_; omega
        refine vA (lv rfl) rfl rfl ?_
        have key : ∀ t', sumStep ls f g mk t x = t' → sums c ls (sl.map Prod.fst) f g = sumsL ls f g ((sl.map Prod.fst).drop (k + 1)) (mk.do (callOf ls x).1).2 t' := fun t' h => by rw [hpl, ← h]; rfl
        (have hs : sumStep ls f g mk t x = ⟨min (satAdd t.all (costAt ls mk x)) lim, max t.a (costAt ls mk x), max t.b (costAt ls mk x)⟩ := by unfold sumStep; rw [if_pos ⟨g7_3, c1⟩, if_pos c2, if_pos c3]
         exact hback _ _ _ ⟨k + 1, _, _, _, by omega, rfl, hdo.1, hs ▸ hst, key _ hs, (J_self (has_s rfl (has_s rfl (has_s rfl (has_s rfl (has_s rfl (has_s rfl (has_s rfl (has_s rfl (has_s rfl has_0)))))))))), (hH.sel (by repeat' (first | exact Sel.refl _ | refine Sel.q1 ?_ | refine Sel.q2 ?_ | refine Sel.skip _ ?_)))⟩ (by omega))
       ·refine g_skip ?_
        refine g_region (l := [0, 1, 2]) rfl ?_
        refine vM (lv rfl) rfl rfl ?_
        refine o_ldN (lv rfl) rfl lk_46 rfl ⟨_, _, _, hH.c1, [_, _, _, _], rfl, rfl, ?_⟩
        refine o_call (lv rfl) rfl en_43 rfl (r09_Do hmk.1 hmk.2.1 (by have := hmk.2.2.1; omega) ⟨hmk.2.2.2.1, by have := hmk.2.2.2.2; omega⟩ _ hco (by exact hH)) ?_
        rintro _ w ⟨pv2, rfl, hH⟩
        refine g_inBlock ?_
        refine g_region (l := [0, 1, 2]) rfl ?_
        refine vM (lv rfl) rfl rfl ?_
        refine o_v (lv rfl) rfl (r_addI rfl rfl ?_) ?_; omega
        refine vA (lv rfl) rfl rfl ?_
        have key : ∀ t', sumStep ls f g mk t x = t' → sums c ls (sl.map Prod.fst) f g = sumsL ls f g ((sl.map Prod.fst).drop (k + 1)) (mk.do (callOf ls x).1).2 t' := fun t' h => by rw [hpl, ← h]; rfl
        (have hs : sumStep ls f g mk t x = ⟨min (satAdd t.all (costAt ls mk x)) lim, max t.a (costAt ls mk x), t.b⟩ := by unfold sumStep; rw [if_pos ⟨g7_3, c1⟩, if_pos c2, if_neg c3]
         exact hback _ _ _ ⟨k + 1, _, _, _, by omega, rfl, hdo.1, hs ▸ hst, key _ hs, (J_self (has_s rfl (has_s rfl (has_s rfl (has_s rfl (has_s rfl (has_s rfl (has_s rfl (has_s rfl (has_s rfl has_0)))))))))), (hH.sel (by repeat' (first | exact Sel.refl _ | refine Sel.q1 ?_ | refine Sel.q2 ?_ | refine Sel.skip _ ?_)))⟩ (by omega))
      ·refine g_skip ?_
       refine g_seq ?_
       refine g_region (l := [0, 1, 2, 3]) rfl ?_
       refine o_v (lv rfl) rfl (r_fa fa_46_1 rfl) ?_
       refine o_ld (lv rfl) rfl lk_3 rfl ⟨_, _, _, hH.c1, _, rfl, ?_⟩
       refine vM (lv rfl) rfl rfl ?_
       refine o_v (lv rfl) rfl (r_eq rfl rfl) ?_
       refine g_if rfl (fun c3 => ?_) (fun c3 => ?_)
       ·refine g_region (l := [0, 1, 2, 3]) rfl ?_
        refine vM (lv rfl) rfl rfl ?_
        refine vM (lv rfl) rfl rfl ?_
        refine o_v (lv rfl) rfl (r_max2 rfl rfl) ?_
        refine vA (lv rfl) rfl rfl ?_
        refine g_region (l := [0, 1, 2]) rfl ?_
        refine vM (lv rfl) rfl rfl ?_
        refine o_ldN (lv rfl) rfl lk_46 rfl ⟨_, _, _, hH.c1, [_, _, _, _], rfl, rfl, ?_⟩
        refine o_call (lv rfl) rfl en_43 rfl (r09_Do hmk.1 hmk.2.1 (by have := hmk.2.2.1; omega) ⟨hmk.2.2.2.1, by have := hmk.2.2.2.2; omega⟩ _ hco (by exact hH)) ?_
        rintro _ w ⟨pv2, rfl, hH⟩
        refine g_inBlock ?_
        refine g_region (l := [0, 1, 2]) rfl ?_
        refine vM (lv rfl) rfl rfl ?_
        refine o_v (lv rfl) rfl (r_addI rfl rfl ?_) ?_; omega
        refine vA (lv rfl) rfl rfl ?_
        have key : ∀ t', sumStep ls f g mk t x = t' → sums c ls (sl.map Prod.fst) f g = sumsL ls f g ((sl.map Prod.fst).drop (k + 1)) (mk.do (callOf ls x).1).2 t' := fun t' h => by rw [hpl, ← h]; rfl
        (have hs : sumStep ls f g mk t x = ⟨min (satAdd t.all (costAt ls mk x)) lim, t.a, max t.b (costAt ls mk x)⟩ := by unfold sumStep; rw [if_pos ⟨g7_3, c1⟩, if_neg c2, if_pos c3]
         exact hback _ _ _ ⟨k + 1, _, _, _, by omega, rfl, hdo.1, hs ▸ hst, key _ hs, (J_self (has_s rfl (has_s rfl (has_s rfl (has_s rfl (has_s rfl (has_s rfl (has_s rfl (has_s rfl (has_s rfl has_0)))))))))), (hH.sel (by repeat' (first | exact Sel.refl _ | refine Sel.q1 ?_ | refine Sel.q2 ?_ | refine Sel.skip _ ?_)))⟩ (by omega))
       ·refine g_skip ?_
        refine g_region (l := [0, 1, 2]) rfl ?_
        refine vM (lv rfl) rfl rfl ?_
        refine o_ldN (lv rfl) rfl lk_46 rfl ⟨_, _, _, hH.c1, [_, _, _, _], rfl, rfl, ?_⟩
        refine o_call (lv rfl) rfl en_43 rfl (r09_Do hmk.1 hmk.2.1 (by have := hmk.2.2.1; omega) ⟨hmk.2.2.2.1, by have := hmk.2.2.2.2; omega⟩ _ hco (by exact hH)) ?_
        rintro _ w ⟨pv2, rfl, hH⟩
        refine g_inBlock ?_
        refine g_region (l := [0, 1, 2]) rfl ?_
        refine vM (lv rfl) rfl rfl ?_
        refine o_v (lv rfl) rfl (r_addI rfl rfl ?_) ?_; omega
        refine vA (lv rfl) rfl rfl ?_
        have key : ∀ t', sumStep ls f g mk t x = t' → sums c ls (sl.map Prod.fst) f g = sumsL ls f g ((sl.map Prod.fst).drop (k + 1)) (mk.do (callOf ls x).1).2 t' := fun t' h => by rw [hpl, ← h]; rfl
        (have hs : sumStep ls f g mk t x = ⟨min (satAdd t.all (costAt ls mk x)) lim, t.a, t.b⟩ := by unfold sumStep; rw [if_pos ⟨g7_3, c1⟩, if_neg c2, if_neg c3]
         exact hback _ _ _ ⟨k + 1, _, _, _, by omega, rfl, hdo.1, hs ▸ hst, key _ hs, (J_self (has_s rfl (has_s rfl (has_s rfl (has_s rfl (has_s rfl (has_s rfl (has_s rfl (has_s rfl (has_s rfl has_0)))))))))), (hH.sel (by repeat' (first | exact Sel.refl _ | refine Sel.q1 ?_ | refine Sel.q2 ?_ | refine Sel.skip _ ?_)))⟩ (by omega))
     ·refine g_skip ?_
      refine g_region (l := [0, 1, 2]) rfl ?_
      refine vM (lv rfl) rfl rfl ?_
      refine o_ldN (lv rfl) rfl lk_46 rfl ⟨_, _, _, hH.c0, [_, _, _, _], rfl, rfl, ?_⟩
      refine o_call (lv rfl) rfl en_43 rfl (r09_Do hmk.1 hmk.2.1 (by have := hmk.2.2.1; omega) ⟨hmk.2.2.2.1, by have := hmk.2.2.2.2; omega⟩ _ hco (by exact hH.p1)) ?_
      rintro _ w ⟨pv2, rfl, hH⟩
      refine g_inBlock ?_
      refine g_region (l := [0, 1, 2]) rfl ?_
      refine vM (lv rfl) rfl rfl ?_
      refine o_v (lv rfl) rfl (r_addI rfl rfl ?_) ?_; omega
      refine vA (lv rfl) rfl rfl ?_
      have key : ∀ t', sumStep ls f g mk t x = t' → sums c ls (sl.map Prod.fst) f g = sumsL ls f g ((sl.map Prod.fst).drop (k + 1)) (mk.do (callOf ls x).1).2 t' := fun t' h => by rw [hpl, ← h]; rfl
      (have hs : sumStep ls f g mk t x = t := by unfold sumStep; rw [if_neg (fun h => c1 h.2)]
       exact hback _ _ _ ⟨k + 1, _, _, t, by omega, rfl, hdo.1, htk, key _ hs, (J_self (has_s rfl (has_s rfl (has_s rfl (has_s rfl (has_s rfl (has_s rfl (has_s rfl (has_s rfl (has_s rfl has_0)))))))))), (hH.sel (by repeat' (first | exact Sel.refl _ | refine Sel.q1 ?_ | refine Sel.q2 ?_ | refine Sel.skip _ ?_)))⟩ (by omega))
    ·refine o_no rfl rfl rfl rfl ?_
     refine o_no rfl rfl rfl rfl ?_
     refine o_no rfl rfl rfl rfl ?_
     refine o_no rfl rfl rfl rfl ?_
     refine o_no rfl rfl rfl rfl ?_
     refine o_no rfl rfl rfl rfl ?_
     refine o_no rfl rfl rfl rfl ?_
     refine o_v (lv rfl) rfl (r_pickF rfl rfl) ?_
     refine g_false rfl ?_
     refine g_skip ?_
     refine g_region (l := [0, 1, 2]) rfl ?_
     refine vM (lv rfl) rfl rfl ?_
     refine o_ldN (lv rfl) rfl lk_46 rfl ⟨_, _, _, hH.c0, [_, _, _, _], rfl, rfl, ?_⟩
     refine o_call (lv rfl) rfl en_43 rfl (r09_Do hmk.1 hmk.2.1 (by have := hmk.2.2.1; omega) ⟨hmk.2.2.2.1, by have := hmk.2.2.2.2; omega⟩ _ hco (by exact hH.p1)) ?_
     rintro _ w ⟨pv2, rfl, hH⟩
     refine g_inBlock ?_
     refine g_region (l := [0, 1, 2]) rfl ?_
     refine vM (lv rfl) rfl rfl ?_
     refine o_v (lv rfl) rfl (r_addI rfl rfl ?_) ?_; omega
     refine vA (lv rfl) rfl rfl ?_
     have key : ∀ t', sumStep ls f g mk t x = t' → sums c ls (sl.map Prod.fst) f g = sumsL ls f g ((sl.map Prod.fst).drop (k + 1)) (mk.do (callOf ls x).1).2 t' := fun t' h => by rw [hpl, ← h]; rfl
     (have hs : sumStep ls f g mk t x = t := by unfold sumStep; rw [if_neg (fun h => g7_3 h.1)]
      exact hback _ _ _ ⟨k + 1, _, _, t, by omega, rfl, hdo.1, htk, key _ hs, (J_self (has_s rfl (has_s rfl (has_s rfl (has_s rfl (has_s rfl (has_s rfl (has_s rfl (has_s rfl (has_s rfl has_0)))))))))), (hH.sel (by repeat' (first | exact Sel.refl _ | refine Sel.q1 ?_ | refine Sel.q2 ?_ | refine Sel.skip _ ?_)))⟩ (by omega))
   ·refine o_al (lv rfl) rfl ze_46 hH ?_
    intro b16 w hH
    refine ⟨(keeps_cons (fun _ => (by exact hH.old ‹_›)) (keeps_cons (fun _ => (by exact hH.c2)) trivial)), ?_⟩
    refine d_l (j := 5) (by kernel_rfl) ?_
    refine o_call (lv rfl) rfl en_48 rfl (r27_Call (c := c) hP (by have := hls.1; omega) x hH) ?_
    rintro _ w ⟨rfl, hH⟩
    refine ⟨(keeps_in rfl (keeps_in rfl trivial)), ?_⟩
    refine pM 6 (lv rfl) rfl rfl ?_
    refine pE 7 (lv rfl) rfl rfl rfl ?_
    refine pE 8 (lv rfl) rfl rfl rfl ?_
    refine d_l (j := 10) (by kernel_rfl) ?_
    refine o_st (lv rfl) rfl lk_46 rfl (vs := [_, _, _, _]) rfl rfl (by exact hH) rfl rfl (by simp) rfl ?_
    intro w hH; dsimp only [setL, List.set] at hH
    refine ⟨(keeps_in rfl (keeps_in rfl trivial)), ?_⟩
    refine pA 11 (lv rfl) rfl rfl ?_
    refine d_end (by kernel_rfl) ?_
    refine g_seq ?_
    refine g_seq ?_
    refine g_region (l := [0, 1, 2, 3, 4, 5, 6, 7, 8, 9, 10, 11]) rfl ?_
    refine o_v (lv rfl) rfl (r_fa fa_46_0 rfl) ?_
    refine o_ld (lv rfl) rfl lk_3 rfl ⟨_, _, _, hH.c0, _, rfl, ?_⟩
    refine o_v (lv rfl) rfl (r_eq rfl rfl) ?_
    refine vM (lv rfl) rfl rfl ?_
    refine s_ops (fun g7_3 => ?_) (fun g7_3 => ?_)
    ·refine vM (lvg rfl rfl rfl) rfl rfl ?_
     refine vM (lvg rfl rfl rfl) rfl rfl ?_
     refine o_v (lvg rfl rfl rfl) rfl (r_ia el_30 rfl rfl ?_ ?_) ?_; omega; omega
     refine o_v (lvg rfl rfl rfl) rfl (r_fa fa_59_3 rfl) ?_
     refine o_v (lvg rfl rfl rfl) rfl (r_fa fa_57_0 rfl) ?_
     refine o_ld (lvg rfl rfl rfl) rfl lk_55 rfl ⟨_, _, _, hH.old hbp, _, hcpe, ?_⟩
     refine o_v (lvg rfl rfl rfl) rfl (r_eq rfl rfl) ?_
     refine o_v (lv rfl) rfl (r_pickT rfl rfl) ?_
     refine g_if rfl (fun c1 => ?_) (fun c1 => ?_)
     ·refine g_seq ?_
      refine rD mixed hH fun w hH => ?_
      refine pF 0 (lv rfl) rfl fa_46_2 rfl ?_
      refine d_ld (i := 1) [6] (lv rfl) rfl lk_3 rfl (by kernel_rfl) ⟨_, _, _, hH.c0, _, rfl, ?_⟩
      refine pM 2 (lv rfl) rfl rfl ?_
      refine pF 3 (lv rfl) rfl fa_46_1 rfl ?_
      refine d_ld (i := 4) [5, 6] (lv rfl) rfl lk_3 rfl (by kernel_rfl) ⟨_, _, _, hH.c0, _, rfl, ?_⟩
      refine d_l (j := 5) (by kernel_rfl) ?_
      refine o_call (lv rfl) rfl en_50 rfl (r27_rate hmk.2.1 _ (by exact hH.p1)) ?_
      rintro _ w ⟨rfl, hH⟩
      refine ⟨(keeps_in rfl (keeps_cons (fun _ => (by exact hH.c1)) trivial)), ?_⟩
      refine d_l (j := 6) (by kernel_rfl) ?_
      refine o_call (lv rfl) rfl en_49 rfl (r01_Cost (callOf ls x).1.a _ (by omega) (rate_U hmk.2.1 _) hH) ?_
      rintro _ w ⟨rfl, hH⟩
      refine ⟨(keeps_in rfl (keeps_in rfl trivial)), ?_⟩
      refine pA 7 (lv rfl) rfl rfl ?_
      refine d_end (by kernel_rfl) ?_
      refine g_seq ?_
      refine g_region (l := [0, 1, 2, 3, 4]) rfl ?_
      refine vM (lv rfl) rfl rfl ?_
      refine vM (lv rfl) rfl rfl ?_
      refine o_call (lv rfl) rfl en_80 rfl (r01_Add t.all _ htk1 hcu' hH) ?_
      rintro _ w ⟨rfl, hH⟩
      refine o_v (lv rfl) rfl (r_min2 rfl rfl) ?_
      refine vA (lv rfl) rfl rfl ?_
      refine g_seq ?_
      refine g_seq ?_
      refine g_region (l := [0, 1, 2, 3]) rfl ?_
      refine o_v (lv rfl) rfl (r_fa fa_46_1 rfl) ?_
      refine o_ld (lv rfl) rfl lk_3 rfl ⟨_, _, _, hH.c1, _, rfl, ?_⟩
      refine vM (lv rfl) rfl rfl ?_
      refine o_v (lv rfl) rfl (r_eq rfl rfl) ?_
      refine g_if rfl (fun c2 => ?_) (fun c2 => ?_)
      ·refine g_region (l := [0, 1, 2, 3]) rfl ?_
       refine vM (lv rfl) rfl rfl ?_
       refine vM (lv rfl) rfl rfl ?_
       refine o_v (lv rfl) rfl (r_max2 rfl rfl) ?_
       refine vA (lv rfl) rfl rfl ?_
       refine g_seq ?_
       refine g_region (l := [0, 1, 2, 3]) rfl ?_
       refine o_v (lv rfl) rfl (r_fa fa_46_1 rfl) ?_
       refine o_ld (lv rfl) rfl lk_3 rfl ⟨_, _, _, hH.c1, _, rfl, ?_⟩
       refine vM (lv rfl) rfl rfl ?_
       refine o_v (lv rfl) rfl (r_eq rfl rfl) ?_
       refine g_if rfl (fun c3 => ?_) (fun c3 => ?_)
       ·refine g_region (l := [0, 1, 2, 3]) rfl ?_
        refine vM (lv rfl) rfl rfl ?_
        refine vM (lv rfl) rfl rfl ?_
        refine o_v (lv rfl) rfl (r_max2 rfl rfl) ?_
        refine vA (lv rfl) rfl rfl ?_
        refine g_region (l := [0, 1, 2]) rfl ?_
        refine vM (lv rfl) rfl rfl ?_
        refine o_ldN (lv rfl) rfl lk_46 rfl ⟨_, _, _, hH.c1, [_, _, _, _], rfl, rfl, ?_⟩
        refine o_call (lv rfl) rfl en_43 rfl (r09_Do hmk.1 hmk.2.1 (by have := hmk.2.2.1; omega) ⟨hmk.2.2.2.1, by have := hmk.2.2.2.2; omega⟩ _ hco (by exact hH)) ?_
        rintro _ w ⟨pv2, rfl, hH⟩
        refine g_inBlock ?_
        refine g_region (l := [0, 1, 2]) rfl ?_
        refine vM (lv rfl) rfl rfl ?_
        refine o_v (lv rfl) rfl (r_addI rfl rfl ?_) ?_; omega
        refine vA (lv rfl) rfl rfl ?_
        have key : ∀ t', sumStep ls f g mk t x = t' → sums c ls (sl.map Prod.fst) f g = sumsL ls f g ((sl.map Prod.fst).drop (k + 1)) (mk.do (callOf ls x).1).2 t' := fun t' h => by rw [hpl, ← h]; rfl
        (have hs : sumStep ls f g mk t x = ⟨min (satAdd t.all (costAt ls mk x)) lim, max t.a (costAt ls mk x), max t.b (costAt ls mk x)⟩ := by unfold sumStep; rw [if_pos ⟨g7_3, c1⟩, if_pos c2, if_pos c3]
         exact hback _ _ _ ⟨k + 1, _, _, _, by omega, rfl, hdo.1, hs ▸ hst, key _ hs, (J_self (has_s rfl (has_s rfl (has_s rfl (has_s rfl (has_s rfl (has_s rfl (has_s rfl (has_s rfl (has_s rfl has_0)))))))))), (hH.sel (by repeat' (first | exact Sel.refl _ | refine Sel.q1 ?_ | refine Sel.q2 ?_ | refine Sel.skip _ ?_)))⟩ (by omega))
       ·refine g_skip ?_
        refine g_region (l := [0, 1, 2]) rfl ?_
        refine vM (lv rfl) rfl rfl ?_
        refine o_ldN (lv rfl) rfl lk_46 rfl ⟨_, _, _, hH.c1, [_, _, _, _], rfl, rfl, ?_⟩
        refine o_call (lv rfl) rfl en_43 rfl (r09_Do hmk.1 hmk.2.1 (by have := hmk.2.2.1; omega) ⟨hmk.2.2.2.1, by have := hmk.2.2.2.2; omega⟩ _ hco (by exact hH)) ?_
        rintro _ w ⟨pv2, rfl, hH⟩
        refine g_inBlock ?_
        refine g_region (l := [0, 1, 2]) rfl ?_
        refine vM (lv rfl) rfl rfl ?_
        refine o_v (lv rfl) rfl (r_addI rfl rfl ?_) ?_; omega
        refine vA (lv rfl) rfl rfl ?_
        have key : ∀ t', sumStep ls f g mk t x = t' → sums c ls (sl.map Prod.fst) f g = sumsL ls f g ((sl.map Prod.fst).drop (k + 1)) (mk.do (callOf ls x).1).2 t' := fun t' h => by rw [hpl, ← h]; rfl
        (have hs : sumStep ls f g mk t x = ⟨min (satAdd t.all (costAt ls mk x)) lim, max t.a (costAt ls mk x), t.b⟩ := by unfold sumStep; rw [if_pos ⟨g7_3, c1⟩, if_pos c2, if_neg c3]
         exact hback _ _ _ ⟨k + 1, _, _, _, by omega, rfl, hdo.1, hs ▸ hst, key _ hs, (J_self (has_s rfl (has_s rfl (has_s rfl (has_s rfl (has_s rfl (has_s rfl (has_s rfl (has_s rfl (has_s rfl has_0)))))))))), (hH.sel (by repeat' (first | exact Sel.refl _ | refine Sel.q1 ?_ | refine Sel.q2 ?_ | refine Sel.skip _ ?_)))⟩ (by omega))
      ·refine g_skip ?_
       refine g_seq ?_
       refine g_region (l := [0, 1, 2, 3]) rfl ?_
       refine o_v (lv rfl) rfl (r_fa fa_46_1 rfl) ?_
       refine o_ld (lv rfl) rfl lk_3 rfl ⟨_, _, _, hH.c1, _, rfl, ?_⟩
       refine vM (lv rfl) rfl rfl ?_
       refine o_v (lv rfl) rfl (r_eq rfl rfl) ?_
       refine g_if rfl (fun c3 => ?_) (fun c3 => ?_)
       ·refine g_region (l := [0, 1, 2, 3]) rfl ?_
        refine vM (lv rfl) rfl rfl ?_
        refine vM (lv rfl) rfl rfl ?_
        refine o_v (lv rfl) rfl (r_max2 rfl rfl) ?_
        refine vA (lv rfl) rfl rfl ?_
        refine g_region (l := [0, 1, 2]) rfl ?_
        refine vM (lv rfl) rfl rfl ?_
        refine o_ldN (lv rfl) rfl lk_46 rfl ⟨_, _, _, hH.c1, [_, _, _, _], rfl, rfl, ?_⟩
        refine o_call (lv rfl) rfl en_43 rfl (r09_Do hmk.1 hmk.2.1 (by have := hmk.2.2.1; omega) ⟨hmk.2.2.2.1, by have := hmk.2.2.2.2; omega⟩ _ hco (by exact hH)) ?_
        rintro _ w ⟨pv2, rfl, hH⟩
        refine g_inBlock ?_
        refine g_region (l := [0, 1, 2]) rfl ?_
        refine vM (lv rfl) rfl rfl ?_
        refine o_v (lv rfl) rfl (r_addI rfl rfl ?_) ?_; omega
        refine vA (lv rfl) rfl rfl ?_
        have key : ∀ t', sumStep ls f g mk t x = t' → sums c ls (sl.map Prod.fst) f g = sumsL ls f g ((sl.map Prod.fst).drop (k + 1)) (mk.do (callOf ls x).1).2 t' := fun t' h => by rw [hpl, ← h]; rfl
        (have hs : sumStep ls f g mk t x = ⟨min (satAdd t.all (costAt ls mk x)) lim, t.a, max t.b (costAt ls mk x)⟩ := by unfold sumStep; rw [if_pos ⟨g7_3, c1⟩, if_neg c2, if_pos c3]
         exact hback _ _ _ ⟨k + 1, _, _, _, by omega, rfl, hdo.1, hs ▸ hst, key _ hs, (J_self (has_s rfl (has_s rfl (has_s rfl (has_s rfl (has_s rfl (has_s rfl (has_s rfl (has_s rfl (has_s rfl has_0)))))))))), (hH.sel (by repeat' (first | exact Sel.refl _ | refine Sel.q1 ?_ | refine Sel.q2 ?_ | refine Sel.skip _ ?_)))⟩ (by omega))
       ·refine g_skip ?_
        refine g_region (l := [0, 1, 2]) rfl ?_
        refine vM (lv rfl) rfl rfl ?_
        refine o_ldN (lv rfl) rfl lk_46 rfl ⟨_, _, _, hH.c1, [_, _, _, _], rfl, rfl, ?_⟩
        refine o_call (lv rfl) rfl en_43 rfl (r09_Do hmk.1 hmk.2.1 (by have := hmk.2.2.1; omega) ⟨hmk.2.2.2.1, by have := hmk.2.2.2.2; omega⟩ _ hco (by exact hH)) ?_
        rintro _ w ⟨pv2, rfl, hH⟩
        refine g_inBlock ?_
        refine g_region (l := [0, 1, 2]) rfl ?_
        refine vM (lv rfl) rfl rfl ?_
        refine o_v (lv rfl) rfl (r_addI rfl rfl ?_) ?_; omega
        refine vA (lv rfl) rfl rfl ?_
        have key : ∀ t', sumStep ls f g mk t x = t' → sums c ls (sl.map Prod.fst) f g = sumsL ls f g ((sl.map Prod.fst).drop (k + 1)) (mk.do (callOf ls x).1).2 t' := fun t' h => by rw [hpl, ← h]; rfl
        (have hs : sumStep ls f g mk t x = ⟨min (satAdd t.all (costAt ls mk x)) lim, t.a, t.b⟩ := by unfold sumStep; rw [if_pos ⟨g7_3, c1⟩, if_neg c2, if_neg c3]
         exact hback _ _ _ ⟨k + 1, _, _, _, by omega, rfl, hdo.1, hs ▸ hst, key _ hs, (J_self (has_s rfl (has_s rfl (has_s rfl (has_s rfl (has_s rfl (has_s rfl (has_s rfl (has_s rfl (has_s rfl has_0)))))))))), (hH.sel (by repeat' (first | exact Sel.refl _ | refine Sel.q1 ?_ | refine Sel.q2 ?_ | refine Sel.skip _ ?_)))⟩ (by omega))
     ·refine g_skip ?_
      refine g_region (l := [0, 1, 2]) rfl ?_
      refine vM (lv rfl) rfl rfl ?_
      refine o_ldN (lv rfl) rfl lk_46 rfl ⟨_, _, _, hH.c0, [_, _, _, _], rfl, rfl, ?_⟩
      refine o_call (lv rfl) rfl en_43 rfl (r09_Do hmk.1 hmk.2.1 (by have := hmk.2.2.1; omega) ⟨hmk.2.2.2.1, by have := hmk.2.2.2.2; omega⟩ _ hco (by exact hH.p1)) ?_
      rintro _ w ⟨pv2, rfl, hH⟩
      refine g_inBlock ?_
      refine g_region (l := [0, 1, 2]) rfl ?_
      refine vM (lv rfl) rfl rfl ?_
      refine o_v (lv rfl) rfl (r_addI rfl rfl ?_) ?_; omega
      refine vA (lv rfl) rfl rfl ?_
      have key : ∀ t', sumStep ls f g mk t x = t' → sums c ls (sl.map Prod.fst) f g = sumsL ls f g ((sl.map Prod.fst).drop (k + 1)) (mk.do (callOf ls x).1).2 t' := fun t' h => by rw [hpl, ← h]; rfl
      (have hs : sumStep ls f g mk t x = t := by unfold sumStep; rw [if_neg (fun h => c1 h.2)]
       exact hback _ _ _ ⟨k + 1, _, _, t, by omega, rfl, hdo.1, htk, key _ hs, (J_self (has_s rfl (has_s rfl (has_s rfl (has_s rfl (has_s rfl (has_s rfl (has_s rfl (has_s rfl (has_s rfl has_0)))))))))), (hH.sel (by repeat' (first | exact Sel.refl _ | refine Sel.q1 ?_ | refine Sel.q2 ?_ | refine Sel.skip _ ?_)))⟩ (by omega))
    ·refine o_no rfl rfl rfl rfl ?_
     refine o_no rfl rfl rfl rfl ?_
     refine o_no rfl rfl rfl rfl ?_
     refine o_no rfl rfl rfl rfl ?_
     refine o_no rfl rfl rfl rfl ?_
     refine o_no rfl rfl rfl rfl ?_
     refine o_no rfl rfl rfl rfl ?_
     refine o_v (lv rfl) rfl (r_pickF rfl rfl) ?_
     refine g_false rfl ?_
     refine g_skip ?_
     refine g_region (l := [0, 1, 2]) rfl ?_
     refine vM (lv rfl) rfl rfl ?_
     refine o_ldN (lv rfl) rfl lk_46 rfl ⟨_, _, _, hH.c0, [_, _, _, _], rfl, rfl, ?_⟩
     refine o_call (lv rfl) rfl en_43 rfl (r09_Do hmk.1 hmk.2.1 (by have := hmk.2.2.1; omega) ⟨hmk.2.2.2.1, by have := hmk.2.2.2.2; omega⟩ _ hco (by exact hH.p1)) ?_
     rintro _ w ⟨pv2, rfl, hH⟩
     refine g_inBlock ?_
     refine g_region (l := [0, 1, 2]) rfl ?_
     refine vM (lv rfl) rfl rfl ?_
     refine o_v (lv rfl) rfl (r_addI rfl rfl ?_) ?_; omega
     refine vA (lv rfl) rfl rfl ?_
     have key : ∀ t', sumStep ls f g mk t x = t' → sums c ls (sl.map Prod.fst) f g = sumsL ls f g ((sl.map Prod.fst).drop (k + 1)) (mk.do (callOf ls x).1).2 t' := fun t' h => by rw [hpl, ← h]; rfl
     (have hs : sumStep ls f g mk t x = t := by unfold sumStep; rw [if_neg (fun h => g7_3 h.1)]
      exact hback _ _ _ ⟨k + 1, _, _, t, by omega, rfl, hdo.1, htk, key _ hs, (J_self (has_s rfl (has_s rfl (has_s rfl (has_s rfl (has_s rfl (has_s rfl (has_s rfl (has_s rfl (has_s rfl has_0)))))))))), (hH.sel (by repeat' (first | exact Sel.refl _ | refine Sel.q1 ?_ | refine Sel.q2 ?_ | refine Sel.skip _ ?_)))⟩ (by omega))
  ·refine g_exit rfl ?_
   refine g_seq ?_
   refine g_region (l := [0, 1, 2, 3, 4, 5]) rfl ?_
   refine vM (lv rfl) rfl rfl ?_
   refine vM (lv rfl) rfl rfl ?_
   refine vM (lv rfl) rfl rfl ?_
   refine vA (lv rfl) rfl rfl ?_
   refine vA (lv rfl) rfl rfl ?_
   refine vA (lv rfl) rfl rfl ?_
   refine g_rq Tryz.func47 (res_t rfl (res_t rfl (res_t rfl res_0))) ?_
   rw [show sums c ls (sl.map Prod.fst) f g = t from by rw [hpl, List.drop_of_length_le (by simp; omega)]; rfl]
   exact ⟨rfl, (hH.sel (by repeat' (first | exact Sel.refl _ | refine Sel.skip _ ?_)))⟩
theorem r27_names {c : Config} {lsv xv : Value} {ls : List (List Call)} {l : List Point} (hP : RLists lsv ls R.h) (hX : RPoints xv l R.h) (hls : listsOk ls) (hl : l.length ≤ 1000000) (hH : Holds R F w) :
    Ret Tryz.prog 52 [vPlan c lsv, xv] w fun v w' => Holds R (Vec 3 1 encI v (names ls l) :: F) w' := by
  obtain ⟨sl, rfl, hsr, hsp⟩ := hX
  obtain ⟨a, cap, rfl, -⟩ := hsr.len
  rw [List.length_map] at hl
  have h0 : names ls (sl.map Prod.fst) = ((sl.map Prod.fst).drop 0).foldl (nameStep ls) [] := rfl
  refine ret_of_g (n := 49) Tryz.func52 rfl rfl (by simp) ?_
  refine g_seq ?_
  refine g_region (l := [0, 1]) rfl ?_
  refine o_box (lv rfl) rfl (cs := [_, _, _, _, _, _]) rfl rfl hH ?_
  intro b2 w hH
  refine vA (lv rfl) rfl rfl ?_
  refine g_seq ?_
  refine g_region (l := [0]) rfl ?_
  refine vA (lv rfl) rfl rfl ?_
  refine g_seq ?_
  refine g_seq ?_
  refine g_region (l := [0]) rfl ?_
  refine vA (lv rfl) rfl rfl ?_
  refine g_block ?_
  refine g_loop (fun mm e w => ∃ (k : Nat) (e0 : Env) (out : List Int) (ov : Value), k ≤ sl.length ∧ mm = sl.length - k ∧ out.length ≤ k ∧ names ls (sl.map Prod.fst) = ((sl.map Prod.fst).drop k).foldl (nameStep ls) out ∧
      e = J e0 [(1, .slice a sl.length cap), (2, .pointer (some ⟨b2, 0, none⟩)), (5, ov), (6, .int .i64 k)] ∧
      Holds R (Vec 3 1 encI ov out :: cel b2 [.int .i64 c.shards, .int .i64 c.slots, .int .i64 c.workers, .int .i64 c.width, .int .u64 c.unit, lsv] 28 :: F) w) sl.length ⟨0, _, [], _, by omega, by omega, by simp, h0, (J_self (has_s rfl (has_s rfl (has_s rfl (has_s rfl has_0))))), Holds.vnil _ _ _ (hH.sel (by repeat' (first | exact Sel.refl _)))⟩ ?_
  rintro mm _ w ⟨k, e0, out, ov, hk, hm, hol, hpl, rfl, hH⟩ hback
  obtain ⟨oa, ocap, rfl, -⟩ := hH.rd.len
  refine g_seq ?_
  refine g_seq ?_
  refine g_region (l := [0, 1, 2, 3]) rfl ?_
  refine vM (lv rfl) rfl rfl ?_
  refine vM (lv rfl) rfl rfl ?_
  refine o_v (lv rfl) rfl (r_len el_30 rfl) ?_
  refine o_v (lv rfl) rfl (r_lt rfl rfl) ?_
  refine g_if rfl (fun c0 => ?_) (fun c0 => ?_)
  ·have hkl : k < sl.length := by omega
   obtain ⟨⟨x, pv⟩, hx⟩ : ∃ x, sl[k]? = some x := ⟨_, List.getElem?_eq_getElem hkl⟩
   have hxm : (sl.map Prod.fst)[k]? = some x := by rw [List.getElem?_map, hx]; rfl
   have hpr : Rd encP pv x.ret.packets R.h := hsp _ (List.mem_of_getElem? hx)
   obtain ⟨pa, pcap, rfl, hpc⟩ := hpr.len
   obtain ⟨bp, op_, cs, T, rfl, hbp, hcp0⟩ := Rd.el hkPt hsr hx
   have hcp := dt_of hcp0
   have hcpe := hcp0 3 (.int .i64 x.ret.e) rfl
   rw [drop_S hxm, List.foldl_cons] at hpl
   refine g_skip ?_
   refine g_seq ?_
   refine g_block ?_
   refine g_seq ?_
   refine rD mixed hH fun w hH => ?_
   refine d_ldN (i := 0) [5, 10] (lv rfl) rfl lk_28 rfl (by kernel_rfl) ⟨_, _, _, hH.c1, [_, _, _, _, _, _], rfl, rfl, ?_⟩
   refine pM 1 (lv rfl) rfl rfl ?_
   refine pM 2 (lv rfl) rfl rfl ?_
   refine d_p (i := 3) (lv rfl) rfl (fun w => (r_ia el_30 rfl rfl ?_ ?_)) (by kernel_rfl) ?_; omega; omega
   refine d_ldN (i := 4) [5, 10] (lv rfl) rfl lk_59 rfl (by kernel_rfl) ⟨_, _, _, hH.old hbp, _, hcp, rfl, ?_⟩
   refine d_l2 (j := 5) (j2 := 9) (by kernel_rfl) ?_ ?_
   ·refine o_call (lv rfl) rfl en_48 rfl (r27_Call (c := c) hP (by have := hls.1; omega) x hH) ?_
    rintro _ w ⟨rfl, hH⟩
    refine ⟨(keeps_in rfl (keeps_in rfl trivial)), ?_⟩
    refine pM 6 (lv rfl) rfl rfl ?_
    refine pE 7 (lv rfl) rfl rfl rfl ?_
    refine pE 8 (lv rfl) rfl rfl rfl ?_
    refine d_l (j := 9) (by kernel_rfl) ?_
    refine o_al (lv rfl) rfl ze_46 hH ?_
    intro b7 w hH
    refine ⟨(keeps_cons (fun _ => (by exact hH.old ‹_›)) (keeps_cons (fun _ => (by exact hH.c2)) trivial)), ?_⟩
    refine d_l (j := 10) (by kernel_rfl) ?_
    refine o_st (lv rfl) rfl lk_46 rfl (vs := [_, _, _, _]) rfl rfl (by exact hH) rfl rfl (by simp) rfl ?_
    intro w hH; dsimp only [setL, List.set] at hH
    refine ⟨(keeps_in rfl (keeps_in rfl trivial)), ?_⟩
    refine pA 11 (lv rfl) rfl rfl ?_
    refine d_end (by kernel_rfl) ?_
    refine g_seq ?_
    refine g_region (l := [0, 1, 2, 3, 4, 5, 6, 7, 8, 9, 10, 11, 12, 13, 14, 15, 16, 17, 18]) rfl ?_
    refine o_v (lv rfl) rfl (r_fa fa_46_0 rfl) ?_
    refine o_ld (lv rfl) rfl lk_3 rfl ⟨_, _, _, hH.c0, _, rfl, ?_⟩
    refine o_v (lv rfl) rfl (r_eq rfl rfl) ?_
    refine vM (lv rfl) rfl rfl ?_
    refine s_ops (fun g6_3 => ?_) (fun g6_3 => ?_)
    ·refine vM (lvg rfl rfl rfl) rfl rfl ?_
     refine vM (lvg rfl rfl rfl) rfl rfl ?_
     refine o_v (lvg rfl rfl rfl) rfl (r_ia el_30 rfl rfl ?_ ?_) ?_; omega; omega
     refine o_v (lvg rfl rfl rfl) rfl (r_fa fa_59_3 rfl) ?_
     refine o_v (lvg rfl rfl rfl) rfl (r_fa fa_57_0 rfl) ?_
     refine o_ld (lvg rfl rfl rfl) rfl lk_55 rfl ⟨_, _, _, hH.old hbp, _, hcpe, ?_⟩
     refine o_v (lvg rfl rfl rfl) rfl (r_eq rfl rfl) ?_
     refine o_v (lv rfl) rfl (r_pickT rfl rfl) ?_
     refine vM (lv rfl) rfl rfl ?_
     refine s_ops (fun g6_12 => ?_) (fun g6_12 => ?_)
     ·refine vM (lvg rfl rfl rfl) rfl rfl ?_
      refine o_v (lvg rfl rfl rfl) rfl (r_fa fa_46_1 rfl) ?_
      refine o_ld (lvg rfl rfl rfl) rfl lk_3 rfl ⟨_, _, _, hH.c0, _, rfl, ?_⟩
      refine o_call (lvg rfl rfl rfl) rfl en_84 rfl (help_In (R := baseOf w) (F := []) (by exact hH.p1.rd) (by omega) _ (holds_start w)) ?_
      rintro _ w ⟨rfl, hH2⟩
      replace hH := hH.merge hH2
      refine o_v (lvg rfl rfl rfl) rfl (r_notD rfl) ?_
      refine o_v (lv rfl) rfl (r_pickT rfl rfl) ?_
      refine g_if rfl (fun c1 => ?_) (fun c1 => ?_)
      ·refine g_region (l := [0, 1, 2, 3, 4, 5]) rfl ?_
       refine vM (lv rfl) rfl rfl ?_
       refine o_v (lv rfl) rfl (r_fa fa_46_1 rfl) ?_
       refine o_ld (lv rfl) rfl lk_3 rfl ⟨_, _, _, hH.c0, _, rfl, ?_⟩
       refine o_bs (lv rfl) rfl el_26 ze_3 rfl rfl rfl (ps := [_]) rfl rfl rfl (cs := [_]) rfl hH ?_
       intro b46 w hH
       refine o_app (enc := encI) (lv rfl) rfl el_26 ze_3 rfl (fun _ => rfl) (fun _ => rfl) rfl rfl (by exact hH.p2) (rd_of_cel [(callOf ls x).1.flow] (by exact hH.c0) rfl) (by simp; omega) (by simp; omega) ?_
       intro v47 w hH; obtain ⟨a47, k47, rfl, -⟩ := hH.rd.len
       refine vA (lv rfl) rfl rfl ?_
       refine g_inBlock ?_
       refine g_region (l := [0, 1, 2]) rfl ?_
       refine vM (lv rfl) rfl rfl ?_
       refine o_v (lv rfl) rfl (r_addI rfl rfl ?_) ?_; omega
       refine vA (lv rfl) rfl rfl ?_
       (have hs : nameStep ls out x = out ++ [(callOf ls x).1.flow] := by unfold nameStep; rw [if_pos ⟨⟨g6_3, g6_12⟩, by simpa using c1⟩]
        rw [hs] at hpl
        exact hback _ _ _ ⟨k + 1, _, out ++ [(callOf ls x).1.flow], _, by omega, rfl, by simp; omega, hpl, (J_self (has_s rfl (has_s rfl (has_s rfl (has_s rfl has_0))))), (hH.sel (by repeat' (first | exact Sel.refl _ | refine Sel.q0 ?_ | refine Sel.q2 ?_ | refine Sel.skip _ ?_)))⟩ (by omega))
      ·refine g_skip ?_
       refine g_inBlock ?_
       refine g_region (l := [0, 1, 2]) rfl ?_
       refine vM (lv rfl) rfl rfl ?_
       refine o_v (lv rfl) rfl (r_addI rfl rfl ?_) ?_; omega
       refine vA (lv rfl) rfl rfl ?_
       (have hs : nameStep ls out x = out := by unfold nameStep; rw [if_neg (fun h => h.2 (by simpa using c1))]
        rw [hs] at hpl
        exact hback _ _ _ ⟨k + 1, _, out, _, by omega, rfl, by omega, hpl, (J_self (has_s rfl (has_s rfl (has_s rfl (has_s rfl has_0))))), (hH.sel (by repeat' (first | exact Sel.refl _ | refine Sel.q1 ?_ | refine Sel.skip _ ?_)))⟩ (by omega))
     ·refine o_no rfl rfl rfl rfl ?_
      refine o_no rfl rfl rfl rfl ?_
      refine o_no rfl rfl rfl rfl ?_
      refine o_no rfl rfl rfl rfl ?_
      refine o_no rfl rfl rfl rfl ?_
      refine o_v (lv rfl) rfl (r_pickF rfl rfl) ?_
      refine g_false rfl ?_
      refine g_skip ?_
      refine g_inBlock ?_
      refine g_region (l := [0, 1, 2]) rfl ?_
      refine vM (lv rfl) rfl rfl ?_
      refine o_v (lv rfl) rfl (r_addI rfl rfl ?_) ?_; omega
      refine vA (lv rfl) rfl rfl ?_
      (have hs : nameStep ls out x = out := by unfold nameStep; rw [if_neg (fun h => g6_12 h.1.2)]
       rw [hs] at hpl
       exact hback _ _ _ ⟨k + 1, _, out, _, by omega, rfl, by omega, hpl, (J_self (has_s rfl (has_s rfl (has_s rfl (has_s rfl has_0))))), (hH.sel (by repeat' (first | exact Sel.refl _ | refine Sel.q1 ?_ | refine Sel.skip _ ?_)))⟩ (by omega))
    ·refine o_no rfl rfl rfl rfl ?_
     refine o_no rfl rfl rfl rfl ?_
     refine o_no rfl rfl rfl rfl ?_
     refine o_no rfl rfl rfl rfl ?_
     refine o_no rfl rfl rfl rfl ?_
     refine o_no rfl rfl rfl rfl ?_
     refine o_no rfl rfl rfl rfl ?_
     refine o_v (lv rfl) rfl (r_pickF rfl rfl) ?_
     refine vM (lv rfl) rfl rfl ?_
     refine o_no rfl rfl rfl rfl ?_
     refine o_no rfl rfl rfl rfl ?_
     refine o_no rfl rfl rfl rfl ?_
     refine o_no rfl rfl rfl rfl ?_
     refine o_no rfl rfl rfl rfl ?_
     refine o_v (lv rfl) rfl (r_pickF rfl rfl) ?_
     refine g_false rfl ?_
     refine g_skip ?_
     refine g_inBlock ?_
     refine g_region (l := [0, 1, 2]) rfl ?_
     refine vM (lv rfl) rfl rfl ?_
     refine o_v (lv rfl) rfl (r_addI rfl rfl ?_) ?_; omega
     refine vA (lv rfl) rfl rfl ?_
     (have hs : nameStep ls out x = out := by unfold nameStep; rw [if_neg (fun h => g6_3 h.1.1)]
      rw [hs] at hpl
      exact hback _ _ _ ⟨k + 1, _, out, _, by omega, rfl, by omega, hpl, (J_self (has_s rfl (has_s rfl (has_s rfl (has_s rfl has_0))))), (hH.sel (by repeat' (first | exact Sel.refl _ | refine Sel.q1 ?_ | refine Sel.skip _ ?_)))⟩ (by omega))
   ·refine o_al (lv rfl) rfl ze_46 hH ?_
    intro b7 w hH
    refine ⟨(keeps_cons (fun _ => (by exact hH.old ‹_›)) (keeps_cons (fun _ => (by exact hH.c2)) trivial)), ?_⟩
    refine d_l (j := 5) (by kernel_rfl) ?_
    refine o_call (lv rfl) rfl en_48 rfl (r27_Call (c := c) hP (by have := hls.1; omega) x hH) ?_
    rintro _ w ⟨rfl, hH⟩
    refine ⟨(keeps_in rfl (keeps_in rfl trivial)), ?_⟩
    refine pM 6 (lv rfl) rfl rfl ?_
    refine pE 7 (lv rfl) rfl rfl rfl ?_
    refine pE 8 (lv rfl) rfl rfl rfl ?_
    refine d_l (j := 10) (by kernel_rfl) ?_
    refine o_st (lv rfl) rfl lk_46 rfl (vs := [_, _, _, _]) rfl rfl (by exact hH) rfl rfl (by simp) rfl ?_
    intro w hH; dsimp only [setL, List.set] at hH
    refine ⟨(keeps_in rfl (keeps_in rfl trivial)), ?_⟩
    refine pA 11 (lv rfl) rfl rfl ?_
    refine d_end (by kernel_rfl) ?_
    refine g_seq ?_
    refine g_region (l := [0, 1, 2, 3, 4, 5, 6, 7, 8, 9, 10, 11, 12, 13, 14, 15, 16, 17, 18]) rfl ?_
    refine o_v (lv rfl) rfl (r_fa fa_46_0 rfl) ?_
    refine o_ld (lv rfl) rfl lk_3 rfl ⟨_, _, _, hH.c0, _, rfl, ?_⟩
    refine o_v (lv rfl) rfl (r_eq rfl rfl) ?_
    refine vM (lv rfl) rfl rfl ?_
    refine s_ops (fun g6_3 => ?_) (fun g6_3 => ?_)
    ·refine vM (lvg rfl rfl rfl) rfl rfl ?_
     refine vM (lvg rfl rfl rfl) rfl rfl ?_
     refine o_v (lvg rfl rfl rfl) rfl (r_ia el_30 rfl rfl ?_ ?_) ?_; omega; omega
     refine o_v (lvg rfl rfl rfl) rfl (r_fa fa_59_3 rfl) ?_
     refine o_v (lvg rfl rfl rfl) rfl (r_fa fa_57_0 rfl) ?_
     refine o_ld (lvg rfl rfl rfl) rfl lk_55 rfl ⟨_, _, _, hH.old hbp, _, hcpe, ?_⟩
     refine o_v (lvg rfl rfl rfl) rfl (r_eq rfl rfl) ?_
     refine o_v (lv rfl) rfl (r_pickT rfl rfl) ?_
     refine vM (lv rfl) rfl rfl ?_
     refine s_ops (fun g6_12 => ?_) (fun g6_12 => ?_)
     ·refine vM (lvg rfl rfl rfl) rfl rfl ?_
      refine o_v (lvg rfl rfl rfl) rfl (r_fa fa_46_1 rfl) ?_
      refine o_ld (lvg rfl rfl rfl) rfl lk_3 rfl ⟨_, _, _, hH.c0, _, rfl, ?_⟩
      refine o_call (lvg rfl rfl rfl) rfl en_84 rfl (help_In (R := baseOf w) (F := []) (by exact hH.p1.rd) (by omega) _ (holds_start w)) ?_
      rintro _ w ⟨rfl, hH2⟩
      replace hH := hH.merge hH2
      refine o_v (lvg rfl rfl rfl) rfl (r_notD rfl) ?_
      refine o_v (lv rfl) rfl (r_pickT rfl rfl) ?_
      refine g_if rfl (fun c1 => ?_) (fun c1 => ?_)
      ·refine g_region (l := [0, 1, 2, 3, 4, 5]) rfl ?_
       refine vM (lv rfl) rfl rfl ?_
       refine o_v (lv rfl) rfl (r_fa fa_46_1 rfl) ?_
       refine o_ld (lv rfl) rfl lk_3 rfl ⟨_, _, _, hH.c0, _, rfl, ?_⟩
       refine o_bs (lv rfl) rfl el_26 ze_3 rfl rfl rfl (ps := [_]) rfl rfl rfl (cs := [_]) rfl hH ?_
       intro b46 w hH
       refine o_app (enc := encI) (lv rfl) rfl el_26 ze_3 rfl (fun _ => rfl) (fun _ => rfl) rfl rfl (by exact hH.p2) (rd_of_cel [(callOf ls x).1.flow] (by exact hH.c0) rfl) (by simp; omega) (by simp; omega) ?_
       intro v47 w hH; obtain ⟨a47, k47, rfl, -⟩ := hH.rd.len
       refine vA (lv rfl) rfl rfl ?_
       refine g_inBlock ?_
       refine g_region (l := [0, 1, 2]) rfl ?_
       refine vM (lv rfl) rfl rfl ?_
       refine o_v (lv rfl) rfl (r_addI rfl rfl ?_) ?_; omega
       refine vA (lv rfl) rfl rfl ?_
       (have hs : nameStep ls out x = out ++ [(callOf ls x).1.flow] := by unfold nameStep; rw [if_pos ⟨⟨g6_3, g6_12⟩, by simpa using c1⟩]
        rw [hs] at hpl
        exact hback _ _ _ ⟨k + 1, _, out ++ [(callOf ls x).1.flow], _, by omega, rfl, by simp; omega, hpl, (J_self (has_s rfl (has_s rfl (has_s rfl (has_s rfl has_0))))), (hH.sel (by repeat' (first | exact Sel.refl _ | refine Sel.q0 ?_ | refine Sel.q2 ?_ | refine Sel.skip _ ?_)))⟩ (by omega))
      ·refine g_skip ?_
       refine g_inBlock ?_
       refine g_region (l := [0, 1, 2]) rfl ?_
       refine vM (lv rfl) rfl rfl ?_
       refine o_v (lv rfl) rfl (r_addI rfl rfl ?_) ?_; omega
       refine vA (lv rfl) rfl rfl ?_
       (have hs : nameStep ls out x = out := by unfold nameStep; rw [if_neg (fun h => h.2 (by simpa using c1))]
        rw [hs] at hpl
        exact hback _ _ _ ⟨k + 1, _, out, _, by omega, rfl, by omega, hpl, (J_self (has_s rfl (has_s rfl (has_s rfl (has_s rfl has_0))))), (hH.sel (by repeat' (first | exact Sel.refl _ | refine Sel.q1 ?_ | refine Sel.skip _ ?_)))⟩ (by omega))
     ·refine o_no rfl rfl rfl rfl ?_
      refine o_no rfl rfl rfl rfl ?_
      refine o_no rfl rfl rfl rfl ?_
      refine o_no rfl rfl rfl rfl ?_
      refine o_no rfl rfl rfl rfl ?_
      refine o_v (lv rfl) rfl (r_pickF rfl rfl) ?_
      refine g_false rfl ?_
      refine g_skip ?_
      refine g_inBlock ?_
      refine g_region (l := [0, 1, 2]) rfl ?_
      refine vM (lv rfl) rfl rfl ?_
      refine o_v (lv rfl) rfl (r_addI rfl rfl ?_) ?_; omega
      refine vA (lv rfl) rfl rfl ?_
      (have hs : nameStep ls out x = out := by unfold nameStep; rw [if_neg (fun h => g6_12 h.1.2)]
       rw [hs] at hpl
       exact hback _ _ _ ⟨k + 1, _, out, _, by omega, rfl, by omega, hpl, (J_self (has_s rfl (has_s rfl (has_s rfl (has_s rfl has_0))))), (hH.sel (by repeat' (first | exact Sel.refl _ | refine Sel.q1 ?_ | refine Sel.skip _ ?_)))⟩ (by omega))
    ·refine o_no rfl rfl rfl rfl ?_
     refine o_no rfl rfl rfl rfl ?_
     refine o_no rfl rfl rfl rfl ?_
     refine o_no rfl rfl rfl rfl ?_
     refine o_no rfl rfl rfl rfl ?_
     refine o_no rfl rfl rfl rfl ?_
     refine o_no rfl rfl rfl rfl ?_
     refine o_v (lv rfl) rfl (r_pickF rfl rfl) ?_
     refine vM (lv rfl) rfl rfl ?_
     refine o_no rfl rfl rfl rfl ?_
     refine o_no rfl rfl rfl rfl ?_
     refine o_no rfl rfl rfl rfl ?_
     refine o_no rfl rfl rfl rfl ?_
     refine o_no rfl rfl rfl rfl ?_
     refine o_v (lv rfl) rfl (r_pickF rfl rfl) ?_
     refine g_false rfl ?_
     refine g_skip ?_
     refine g_inBlock ?_
     refine g_region (l := [0, 1, 2]) rfl ?_
     refine vM (lv rfl) rfl rfl ?_
     refine o_v (lv rfl) rfl (r_addI rfl rfl ?_) ?_; omega
     refine vA (lv rfl) rfl rfl ?_
     (have hs : nameStep ls out x = out := by unfold nameStep; rw [if_neg (fun h => g6_3 h.1.1)]
      rw [hs] at hpl
      exact hback _ _ _ ⟨k + 1, _, out, _, by omega, rfl, by omega, hpl, (J_self (has_s rfl (has_s rfl (has_s rfl (has_s rfl has_0))))), (hH.sel (by repeat' (first | exact Sel.refl _ | refine Sel.q1 ?_ | refine Sel.skip _ ?_)))⟩ (by omega))
  ·refine g_exit rfl ?_
   refine g_seq ?_
   refine g_region (l := [0, 1]) rfl ?_
   refine vM (lv rfl) rfl rfl ?_
   refine vA (lv rfl) rfl rfl ?_
   refine g_rq Tryz.func52 (res_t rfl res_0) ?_
   rw [show names ls (sl.map Prod.fst) = out from by rw [hpl, List.drop_of_length_le (by simp; omega)]; rfl]
   exact (hH.sel (by repeat' (first | exact Sel.refl _ | refine Sel.q0 ?_ | refine Sel.skip _ ?_)))
end
end Go.Proofs.YtkdbglfdgeldpaaGreat
