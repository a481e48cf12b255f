/- Contracts of package fair: Gap, Kept. Condition: plans and points only read; what is told has come. -/
import Derived.Test.YtkdbglfdgeldpaaGreatRGap
namespace Go.Proofs.YtkdbglfdgeldpaaGreat
open Go.Lt
def fGap (c : Config) (ls : List (List Call)) (l : List Point) (f g : Int) : Int × Int × Bool :=
  if plays c ls l = none then (0, 0, false)
  else if f = g ∨ lim ≤ (bookOf c ls l).2 then (0, 0, false)
  else match gapL (bookOf c ls l).1 f g ls l (gs0 c f g) with
    | none => (0, 0, false)
    | some s => (s.most, dear (bookOf c ls l).1 f + dear (bookOf c ls l).1 g, true)
def FGood (c : Config) (ls : List (List Call)) (l : List Point) (f g : Int) : Prop :=
  plays c ls l ≠ none → f ≠ g → (bookOf c ls l).2 < lim → (∃ s, gapL (bookOf c ls l).1 f g ls l (gs0 c f g) = some s) ∧ 0 ≤ dear (bookOf c ls l).1 f ∧ 0 ≤ dear (bookOf c ls l).1 g ∧ dear (bookOf c ls l).1 f + dear (bookOf c ls l).1 g ≤ 18446744073709551615
theorem plays_cfg {c : Config} {ls : List (List Call)} {l : List Point} {m : Mdl} (h : plays c ls l = some m) : cfgOk c := by
  unfold plays at h
  split at h
  ·assumption
  ·cases h
theorem bookL_ok {c : Config} {ls : List (List Call)} (hls : listsOk ls) : ∀ (l : List Point) (i : Nat) (A : As) (s : Int) (n : Nat), (∀ x ∈ l, x.ret.packets.length ≤ 16) → aOk n A → U s → aOk (n + 101 * l.length) (bookL c.unit ls l i A s).1 ∧ U (bookL c.unit ls l i A s).2
  | [], i, A, s, n, _, hA, hs => ⟨hA, hs⟩
  | x :: l, i, A, s, n, hp, hA, hs => by
    have hst := bookStep_ok (unit := c.unit) hls hA hs i x (by have := hp x (List.mem_cons_self ..); omega)
    have := bookL_ok (c := c) hls l (i + 1) _ _ _ (fun y hy => hp y (List.mem_cons_of_mem _ hy)) hst.1 hst.2
    rw [bookL_S]
    exact ⟨this.1.up (by simp only [List.length_cons]; omega), this.2⟩
theorem bookOf_ok {c : Config} {ls : List (List Call)} {l : List Point} {m : Mdl} (hls : listsOk ls) (h : plays c ls l = some m) : aOk (101 * l.length) (bookOf c ls l).1 ∧ U (bookOf c ls l).2 := by
  have := bookL_ok (c := c) hls l 0 [] 0 0 (plays_len h) (by simp [aOk]) (by unfold U; omega)
  exact ⟨this.1.up (by omega), this.2⟩
section
variable {R : Base} {F : List HP} {w : World}
theorem fair_Gap {c : Config} {lsv xv : Value} {ls : List (List Call)} {l : List Point} (hP : RLists lsv ls R.h) (hX : RPoints xv l R.h) (hls : listsOk ls) (hl : l.length ≤ 1000000) (f g : Int) (hgd : FGood c ls l f g) (hH : Holds R F w) :
    Ret Tryz.prog 14 [vPlan c lsv, xv, .int .i64 f, .int .i64 g] w fun v w' => v = .tuple #[.int .u64 (fGap c ls l f g).1, .int .u64 (fGap c ls l f g).2.1, .bool (fGap c ls l f g).2.2] ∧ Holds R F w' := by
  cases hp0 : plays c ls l with
  | none =>
    rw [show fGap c ls l f g = (0, 0, false) from by unfold fGap; rw [if_pos hp0]]
    refine ret_of_g (n := 44) Tryz.func14 rfl rfl (by simp) ?_
    refine g_seq ?_
    refine g_region (l := [0, 1, 2, 3]) rfl ?_
    refine o_box (lv rfl) rfl (cs := [_, _, _, _, _, _]) rfl rfl hH ?_
    intro b4 w hH
    refine vA (lv rfl) rfl rfl ?_
    refine vA (lv rfl) rfl rfl ?_
    refine vA (lv rfl) rfl rfl ?_
    refine g_seq ?_
    refine g_region (l := [0, 1, 2, 3, 4, 5, 6, 7]) rfl ?_
    refine o_ldN (lv rfl) rfl lk_28 rfl ⟨_, _, _, hH.c0, [_, _, _, _, _, _], rfl, rfl, ?_⟩
    refine vM (lv rfl) rfl rfl ?_
    refine o_call (lv rfl) rfl en_44 rfl (fair_read (c := c) hP hX hls hl hH) ?_
    rintro _ w hv
    rw [hp0] at hv; obtain ⟨rfl, hH⟩ := hv
    refine vM (lv rfl) rfl rfl ?_
    refine o_v (lv rfl) rfl (r_ex rfl rfl) ?_
    refine o_v (lv rfl) rfl (r_ex rfl rfl) ?_
    refine vA (lv rfl) rfl rfl ?_
    refine vA (lv rfl) rfl rfl ?_
    refine g_seq ?_
    refine g_seq ?_
    refine g_region (l := [0, 1, 2, 3, 4, 5, 6, 7, 8, 9, 10, 11, 12, 13]) rfl ?_
    refine vM (lv rfl) rfl rfl ?_
    refine o_v (lv rfl) rfl (r_not rfl) ?_
    refine vM (lv rfl) rfl rfl ?_
    refine s_opsb (fun g2_2 => ?_) (fun g2_2 => ?_)
    ·refine o_no rfl rfl rfl rfl ?_
     refine o_no rfl rfl rfl rfl ?_
     refine o_no rfl rfl rfl rfl ?_
     refine o_v (lv rfl) rfl (r_pickT rfl rfl) ?_
     refine vM (lv rfl) rfl rfl ?_
     refine o_no rfl rfl rfl rfl ?_
     refine o_no rfl rfl rfl rfl ?_
     refine o_no rfl rfl rfl rfl ?_
     refine o_no rfl rfl rfl rfl ?_
     refine o_no rfl rfl rfl rfl ?_
     refine o_v (lv rfl) rfl (r_pickT rfl rfl) ?_
     refine g_true rfl ?_
     refine g_seq ?_
     refine g_region (l := [0, 1, 2]) rfl ?_
     refine vA (lv rfl) rfl rfl ?_
     refine vA (lv rfl) rfl rfl ?_
     refine vA (lv rfl) rfl rfl ?_
     refine g_rq Tryz.func14 (res_t rfl (res_t rfl (res_t rfl res_0))) ?_
     exact ⟨rfl, (hH.sel (by repeat' (first | exact Sel.refl _ | refine Sel.skip _ ?_)))⟩
    ·cases g2_2
  | some m0 =>
    have hbk := bookOf_ok hls hp0
    by_cases hno : f = g ∨ lim ≤ (bookOf c ls l).2
    ·rw [show fGap c ls l f g = (0, 0, false) from by unfold fGap; rw [if_neg (by rw [hp0]; simp), if_pos hno]]
     refine ret_of_g (n := 44) Tryz.func14 rfl rfl (by simp) ?_
     refine g_seq ?_
     refine g_region (l := [0, 1, 2, 3]) rfl ?_
     refine o_box (lv rfl) rfl (cs := [_, _, _, _, _, _]) rfl rfl hH ?_
     intro b4 w hH
     refine vA (lv rfl) rfl rfl ?_
     refine vA (lv rfl) rfl rfl ?_
     refine vA (lv rfl) rfl rfl ?_
     refine g_seq ?_
     refine g_region (l := [0, 1, 2, 3, 4, 5, 6, 7]) rfl ?_
     refine o_ldN (lv rfl) rfl lk_28 rfl ⟨_, _, _, hH.c0, [_, _, _, _, _, _], rfl, rfl, ?_⟩
     refine vM (lv rfl) rfl rfl ?_
     refine o_call (lv rfl) rfl en_44 rfl (fair_read (c := c) hP hX hls hl hH) ?_
     rintro _ w hv
     rw [hp0] at hv; obtain ⟨bk, mb, rfl, hH⟩ := hv
     refine vM (lv rfl) rfl rfl ?_
     refine o_v (lv rfl) rfl (r_ex rfl rfl) ?_
     refine o_v (lv rfl) rfl (r_ex rfl rfl) ?_
     refine vA (lv rfl) rfl rfl ?_
     refine vA (lv rfl) rfl rfl ?_
     refine g_seq ?_
     refine g_seq ?_
     refine g_region (l := [0, 1, 2, 3, 4, 5, 6, 7, 8, 9, 10, 11, 12, 13]) rfl ?_
     refine vM (lv rfl) rfl rfl ?_
     refine o_v (lv rfl) rfl (r_not rfl) ?_
     refine vM (lv rfl) rfl rfl ?_
     refine s_opsb (fun g2_2 => ?_) (fun g2_2 => ?_)
     ·cases g2_2
     ·refine vM (lvg rfl rfl rfl) rfl rfl ?_
      refine vM (lvg rfl rfl rfl) rfl rfl ?_
      refine o_v (lvg rfl rfl rfl) rfl (r_eq rfl rfl) ?_
      refine o_v (lv rfl) rfl (r_pickF rfl rfl) ?_
      refine vM (lv rfl) rfl rfl ?_
      refine s_ops (fun g2_7 => ?_) (fun g2_7 => ?_)
      ·refine o_no rfl rfl rfl rfl ?_
       refine o_no rfl rfl rfl rfl ?_
       refine o_no rfl rfl rfl rfl ?_
       refine o_no rfl rfl rfl rfl ?_
       refine o_no rfl rfl rfl rfl ?_
       refine o_v (lv rfl) rfl (r_pickT rfl rfl) ?_
       refine g_true rfl ?_
       refine g_seq ?_
       refine g_region (l := [0, 1, 2]) rfl ?_
       refine vA (lv rfl) rfl rfl ?_
       refine vA (lv rfl) rfl rfl ?_
       refine vA (lv rfl) rfl rfl ?_
       refine g_rq Tryz.func14 (res_t rfl (res_t rfl (res_t rfl res_0))) ?_
       exact ⟨rfl, (hH.sel (by repeat' (first | exact Sel.refl _ | refine Sel.skip _ ?_)))⟩
      ·refine vM (lvg rfl rfl rfl) rfl rfl ?_
       refine o_v (lvg rfl rfl rfl) rfl (r_nil rfl) ?_
       refine o_v (lvg rfl rfl rfl) rfl (r_fa fa_91_3 rfl) ?_
       refine o_ld (lvg rfl rfl rfl) rfl lk_22 rfl ⟨_, _, _, hH.c0, _, rfl, ?_⟩
       refine o_v (lvg rfl rfl rfl) rfl (r_ge rfl rfl) ?_
       refine o_v (lv rfl) rfl (r_pickF rfl rfl) ?_
       refine g_if rfl (fun c0 => ?_) (fun c0 => ?_)
       ·refine g_seq ?_
        refine g_region (l := [0, 1, 2]) rfl ?_
        refine vA (lv rfl) rfl rfl ?_
        refine vA (lv rfl) rfl rfl ?_
        refine vA (lv rfl) rfl rfl ?_
        refine g_rq Tryz.func14 (res_t rfl (res_t rfl (res_t rfl res_0))) ?_
        exact ⟨rfl, (hH.sel (by repeat' (first | exact Sel.refl _ | refine Sel.skip _ ?_)))⟩
       ·exact absurd hno (fun h => h.elim g2_7 c0)
    ·obtain ⟨⟨rs, hrs⟩, hd1, hd2, hd3⟩ := hgd (by rw [hp0]; simp) (fun h => hno (.inl h)) (by unfold lim at *; omega)
     have hpk : ∀ x ∈ l, x.ret.packets.length ≤ 100 := fun x hx => by have := plays_len hp0 x hx; omega
     rw [show fGap c ls l f g = (rs.most, dear (bookOf c ls l).1 f + dear (bookOf c ls l).1 g, true) from by unfold fGap; rw [if_neg (by rw [hp0]; simp), if_neg hno, hrs]]
     refine ret_of_g (n := 44) Tryz.func14 rfl rfl (by simp) ?_
     refine g_seq ?_
     refine g_region (l := [0, 1, 2, 3]) rfl ?_
     refine o_box (lv rfl) rfl (cs := [_, _, _, _, _, _]) rfl rfl hH ?_
     intro b4 w hH
     refine vA (lv rfl) rfl rfl ?_
     refine vA (lv rfl) rfl rfl ?_
     refine vA (lv rfl) rfl rfl ?_
     refine g_seq ?_
     refine g_region (l := [0, 1, 2, 3, 4, 5, 6, 7]) rfl ?_
     refine o_ldN (lv rfl) rfl lk_28 rfl ⟨_, _, _, hH.c0, [_, _, _, _, _, _], rfl, rfl, ?_⟩
     refine vM (lv rfl) rfl rfl ?_
     refine o_call (lv rfl) rfl en_44 rfl (fair_read (c := c) hP hX hls hl hH) ?_
     rintro _ w hv
     rw [hp0] at hv; obtain ⟨bk, mb, rfl, hH⟩ := hv
     refine vM (lv rfl) rfl rfl ?_
     refine o_v (lv rfl) rfl (r_ex rfl rfl) ?_
     refine o_v (lv rfl) rfl (r_ex rfl rfl) ?_
     refine vA (lv rfl) rfl rfl ?_
     refine vA (lv rfl) rfl rfl ?_
     refine g_seq ?_
     refine g_seq ?_
     refine g_region (l := [0, 1, 2, 3, 4, 5, 6, 7, 8, 9, 10, 11, 12, 13]) rfl ?_
     refine vM (lv rfl) rfl rfl ?_
     refine o_v (lv rfl) rfl (r_not rfl) ?_
     refine vM (lv rfl) rfl rfl ?_
     refine s_opsb (fun g2_2 => ?_) (fun g2_2 => ?_)
     ·cases g2_2
     ·refine vM (lvg rfl rfl rfl) rfl rfl ?_
      refine vM (lvg rfl rfl rfl) rfl rfl ?_
      refine o_v (lvg rfl rfl rfl) rfl (r_eq rfl rfl) ?_
      refine o_v (lv rfl) rfl (r_pickF rfl rfl) ?_
      refine vM (lv rfl) rfl rfl ?_
      refine s_ops (fun g2_7 => ?_) (fun g2_7 => ?_)
      ·exact absurd (.inl g2_7) hno
      ·refine vM (lvg rfl rfl rfl) rfl rfl ?_
       refine o_v (lvg rfl rfl rfl) rfl (r_nil rfl) ?_
       refine o_v (lvg rfl rfl rfl) rfl (r_fa fa_91_3 rfl) ?_
       refine o_ld (lvg rfl rfl rfl) rfl lk_22 rfl ⟨_, _, _, hH.c0, _, rfl, ?_⟩
       refine o_v (lvg rfl rfl rfl) rfl (r_ge rfl rfl) ?_
       refine o_v (lv rfl) rfl (r_pickF rfl rfl) ?_
       refine g_if rfl (fun c0 => ?_) (fun c0 => ?_)
       ·exact absurd (.inr c0) hno
       ·refine g_skip ?_
        refine g_seq ?_
        refine g_region (l := [0, 1, 2, 3, 4, 5, 6, 7, 8, 9, 10, 11, 12, 13]) rfl ?_
        refine vM (lv rfl) rfl rfl ?_
        refine vM (lv rfl) rfl rfl ?_
        refine vM (lv rfl) rfl rfl ?_
        refine o_call (lv rfl) rfl en_45 rfl (fair_gap hP hX hls hl (plays_cfg hp0) hpk hbk.1 (by omega) f g hrs hH) ?_
        rintro _ w ⟨rfl, hH⟩
        refine vM (lv rfl) rfl rfl ?_
        refine vM (lv rfl) rfl rfl ?_
        refine o_call (lv rfl) rfl en_46 rfl (fair_dearest hbk.1 (by omega) _ hH) ?_
        rintro _ w ⟨rfl, hH⟩
        refine vM (lv rfl) rfl rfl ?_
        refine vM (lv rfl) rfl rfl ?_
        refine o_call (lv rfl) rfl en_46 rfl (fair_dearest hbk.1 (by omega) _ hH) ?_
        rintro _ w ⟨rfl, hH⟩
        refine o_v (lv rfl) rfl (r_addU rfl rfl ?_) ?_; omega
        refine vA (lv rfl) rfl rfl ?_
        refine vA (lv rfl) rfl rfl ?_
        refine vA (lv rfl) rfl rfl ?_
        refine g_rq Tryz.func14 (res_t rfl (res_t rfl (res_t rfl res_0))) ?_
        exact ⟨rfl, (hH.sel (by repeat' (first | exact Sel.refl _ | refine Sel.skip _ ?_)))⟩
def keptB (A : As) : Bool := A.all (fun q => !q.2.wrong)
theorem ach_slices {Q : QA} (h : Holds R (All (Q.map ach) :: F) w) : ∀ q ∈ Q, (∃ a n c, q.2.2.1 = .slice a n c) ∧ ∃ a n c, q.2.2.2 = .slice a n c := by
  intro q hq
  obtain ⟨j, hj⟩ := List.getElem?_of_mem hq
  have hjc : (Q.map ach)[j]? = some (ach q) := by rw [List.getElem?_map, hj]; rfl
  have h1 := (h.all_take hjc).open
  obtain ⟨a, c, e1, -⟩ := h1.rd.len
  obtain ⟨a2, c2, e2, -⟩ := h1.p1.rd.len
  exact ⟨⟨_, _, _, e1⟩, ⟨_, _, _, e2⟩⟩
theorem fair_Kept {c : Config} {lsv xv : Value} {ls : List (List Call)} {l : List Point} (hP : RLists lsv ls R.h) (hX : RPoints xv l R.h) (hls : listsOk ls) (hl : l.length ≤ 1000000) (hH : Holds R F w) :
    Ret Tryz.prog 23 [vPlan c lsv, xv] w fun v w' => v = .bool ((plays c ls l).isSome && keptB (bookOf c ls l).1) ∧ Holds R F w' := by
  cases hp0 : plays c ls l with
  | none =>
    refine ret_of_g (n := 28) Tryz.func23 rfl rfl (by simp) ?_
    refine g_seq ?_
    refine g_region (l := [0, 1]) rfl ?_
    refine o_box (lv rfl) rfl (cs := [_, _, _, _, _, _]) rfl rfl hH ?_
    intro b2 w hH
    refine vA (lv rfl) rfl rfl ?_
    refine g_seq ?_
    refine g_region (l := [0, 1, 2, 3, 4, 5, 6, 7]) rfl ?_
    refine o_ldN (lv rfl) rfl lk_28 rfl ⟨_, _, _, hH.c0, [_, _, _, _, _, _], rfl, rfl, ?_⟩
    refine vM (lv rfl) rfl rfl ?_
    refine o_call (lv rfl) rfl en_44 rfl (fair_read (c := c) hP hX hls hl hH) ?_
    rintro _ w hv
    rw [hp0] at hv; obtain ⟨rfl, hH⟩ := hv
    refine vM (lv rfl) rfl rfl ?_
    refine o_v (lv rfl) rfl (r_ex rfl rfl) ?_
    refine o_v (lv rfl) rfl (r_ex rfl rfl) ?_
    refine vA (lv rfl) rfl rfl ?_
    refine vA (lv rfl) rfl rfl ?_
    refine g_seq ?_
    refine g_seq ?_
    refine g_region (l := [0, 1]) rfl ?_
    refine vM (lv rfl) rfl rfl ?_
    refine o_v (lv rfl) rfl (r_not rfl) ?_
    refine g_true rfl ?_
    refine g_seq ?_
    refine g_region (l := [0]) rfl ?_
    refine vA (lv rfl) rfl rfl ?_
    refine g_rq Tryz.func23 (res_t rfl res_0) ?_
    exact ⟨rfl, (hH.sel (by repeat' (first | exact Sel.refl _ | refine Sel.skip _ ?_)))⟩
  | some m0 =>
    generalize hA : (bookOf c ls l).1 = A
    refine ret_of_g (n := 28) Tryz.func23 rfl rfl (by simp) ?_
    refine g_seq ?_
    refine g_region (l := [0, 1]) rfl ?_
    refine o_box (lv rfl) rfl (cs := [_, _, _, _, _, _]) rfl rfl hH ?_
    intro b2 w hH
    refine vA (lv rfl) rfl rfl ?_
    refine g_seq ?_
    refine g_region (l := [0, 1, 2, 3, 4, 5, 6, 7]) rfl ?_
    refine o_ldN (lv rfl) rfl lk_28 rfl ⟨_, _, _, hH.c0, [_, _, _, _, _, _], rfl, rfl, ?_⟩
    refine vM (lv rfl) rfl rfl ?_
    refine o_call (lv rfl) rfl en_44 rfl (fair_read (c := c) hP hX hls hl hH) ?_
    rintro _ w hv
    rw [hp0, hA] at hv; obtain ⟨bk, mb, rfl, hH⟩ := hv
    refine vM (lv rfl) rfl rfl ?_
    refine o_v (lv rfl) rfl (r_ex rfl rfl) ?_
    refine o_v (lv rfl) rfl (r_ex rfl rfl) ?_
    refine vA (lv rfl) rfl rfl ?_
    refine vA (lv rfl) rfl rfl ?_
    refine g_seq ?_
    refine g_seq ?_
    refine g_region (l := [0, 1]) rfl ?_
    refine vM (lv rfl) rfl rfl ?_
    refine o_v (lv rfl) rfl (r_not rfl) ?_
    refine g_false rfl ?_
    refine g_skip ?_
    refine g_seq ?_
    refine g_seq ?_
    obtain ⟨Q, hQ, hn, hH⟩ := AccsC.op hH.p1
    have hsl := ach_slices hH.p1
    refine g_region (l := [0, 1, 2, 3, 4]) rfl ?_
    refine vM (lv rfl) rfl rfl ?_
    refine o_v (lv rfl) rfl (r_nil rfl) ?_
    refine o_v (lv rfl) rfl (r_fa fa_91_2 rfl) ?_
    refine o_ld (lv rfl) rfl lk_89 rfl ⟨_, _, _, hH.c2, _, rfl, ?_⟩
    refine o_rg (lv rfl) rfl mp_89 rfl (by exact hH) ?_
    intro r21 w hH
    refine g_block ?_
    refine g_loop (fun mm e w => ∃ (e0 : Env) (D : List (Int × Value)), D.length ≤ Q.length ∧ mm = Q.length - D.length ∧ (∀ p ∈ D, ∃ q ∈ Q, akv q = p ∧ q.2.1.wrong = false) ∧ e = J e0 [(21, .pointer (some ⟨r21, 0, none⟩))] ∧
        Holds R (RngC mb r21 (Q.map akv) D :: F) w) Q.length ⟨_, [], by simp, by simp, by simp, (J_self (has_s rfl has_0)), (hH.sel (by repeat' (first | exact Sel.refl _ | refine Sel.q0 ?_ | refine Sel.skip _ ?_)))⟩ ?_
    rintro mm _ w ⟨e0, D, hDl, hm, hDw, rfl, hH⟩ hback
    refine g_seq ?_
    refine g_region (l := [0, 1]) rfl ?_
    refine o_nx (lv rfl) rfl rfl (by exact hH) (fun hD => ?_) (fun pn w hpn hnpn hltn hH => ?_)
    ·refine o_v (lv rfl) rfl (r_ex rfl rfl) ?_
     refine g_seq ?_
     refine g_false rfl ?_
     refine g_exit rfl ?_
     refine g_seq ?_
     refine g_region (l := [0]) rfl ?_
     refine vA (lv rfl) rfl rfl ?_
     refine g_rq Tryz.func23 (res_t rfl res_0) ?_
     (refine ⟨bv ?_, (hH.sel (by repeat' (first | exact Sel.refl _ | refine Sel.skip _ ?_)))⟩
      symm
      rw [← hQ]
      simp only [Option.isSome_some, Bool.true_and, keptB, List.all_eq_true]
      intro x hx
      obtain ⟨q, hq, rfl⟩ := List.mem_map.1 hx
      obtain ⟨q2, hq2, he, hw⟩ := hDw (akv q) (hD.mem_iff.2 (List.mem_map.2 ⟨q, hq, rfl⟩))
      obtain ⟨k1, a1, c1, l1⟩ := q
      obtain ⟨k2, a2, c2, l2⟩ := q2
      simp only [akv, vAcc, Prod.mk.injEq, Value.agg.injEq, Array.mk.injEq, List.cons.injEq, Value.bool.injEq] at he
      simp only [aof]
      rw [← he.2.2.2.2.1, hw]; rfl)
    ·obtain ⟨⟨k1, a1, cv1, lv1⟩, hq, rfl⟩ := List.mem_map.1 hpn
     obtain ⟨⟨ca, cn, cc, hcv⟩, la, ln, lc, hlv⟩ := hsl _ hq
     dsimp only at hcv hlv
     subst hcv hlv
     rw [List.length_map] at hltn
     refine o_v (lv rfl) rfl (r_ex rfl rfl) ?_
     refine g_seq ?_
     refine g_true rfl ?_
     refine g_skip ?_
     refine g_block ?_
     refine g_seq ?_
     refine g_region (l := [0, 1, 2, 3]) rfl ?_
     refine o_en (lv rfl) rfl rfl (by exact hH) ?_
     refine o_v (lv rfl) rfl (r_ex rfl rfl) ?_
     refine o_al (lv rfl) rfl ze_106 hH ?_
     intro b8 w hH
     refine o_st (lv rfl) rfl lk_106 rfl (vs := [_, _, _, _]) rfl rfl (by exact hH) rfl rfl (by simp) rfl ?_
     intro w hH; dsimp only [setL, List.set] at hH
     refine g_seq ?_
     refine g_region (l := [0, 1]) rfl ?_
     refine o_v (lv rfl) rfl (r_fa fa_106_3 rfl) ?_
     refine o_ld (lv rfl) rfl lk_4 rfl ⟨_, _, _, hH.c0, _, rfl, ?_⟩
     refine g_cond rfl (fun c2 => ?_) (fun c2 => ?_)
     ·refine g_seq ?_
      refine g_region (l := [0]) rfl ?_
      refine vA (lv rfl) rfl rfl ?_
      refine g_rq Tryz.func23 (res_t rfl res_0) ?_
      (have hqw : a1.wrong = true := c2
       refine ⟨bv ?_, (hH.sel (by repeat' (first | exact Sel.refl _ | refine Sel.skip _ ?_)))⟩
       symm
       rw [← hQ]
       simp only [Option.isSome_some, Bool.true_and, keptB, List.all_eq_false]
       exact ⟨aof _, List.mem_map.2 ⟨_, hq, rfl⟩, by simp [aof, hqw]⟩)
     ·refine g_skip ?_
      refine g_inBlock ?_
      exact hback _ _ _ ⟨_, D ++ [_], by simp; omega, rfl, fun p hp => by
        rcases List.mem_append.1 hp with h | h
        ·exact hDw p h
        ·rw [List.mem_singleton.1 h]; exact ⟨_, hq, rfl, c2⟩, (J_self (has_s rfl has_0)), (hH.sel (by repeat' (first | exact Sel.refl _ | refine Sel.q1 ?_ | refine Sel.skip _ ?_)))⟩ (by simp; omega)
end
end Go.Proofs.YtkdbglfdgeldpaaGreat
