/- Contracts of the reference's flow. Condition: numbers of 64 bits. -/
import Derived.Test.YtkdbglfdgeldpaaGreatFlow
set_option linter.unusedVariables false
namespace Go.Proofs.YtkdbglfdgeldpaaGreat
open Go.Lt

def RFlowC (b : Nat) (x : Int × Flw) : HP := ex fun sv => star (cel b [.int .i64 x.1, .int .i64 x.2.most, .int .u64 x.2.r, sv, .int .u64 x.2.start, .int .u64 x.2.finish] 123) (Vec 54 3 encP sv x.2.l)

section
variable {R : Base} {F : List HP} {w : World}
theorem RFlowC.op {b : Nat} {x : Int × Flw} (h : Holds R (RFlowC b x :: F) w) : ∃ sv, Holds R (cel b [.int .i64 x.1, .int .i64 x.2.most, .int .u64 x.2.r, sv, .int .u64 x.2.start, .int .u64 x.2.finish] 123 :: Vec 54 3 encP sv x.2.l :: F) w := by
  obtain ⟨sv, h⟩ := h.open_ex
  exact ⟨sv, h.open⟩
theorem RFlowC.mk {b : Nat} {x : Int × Flw} {sv : Value} (h : Holds R (cel b [.int .i64 x.1, .int .i64 x.2.most, .int .u64 x.2.r, sv, .int .u64 x.2.start, .int .u64 x.2.finish] 123 :: Vec 54 3 encP sv x.2.l :: F) w) : Holds R (RFlowC b x :: F) w :=
  h.shut.shut_ex (p := fun sv => star (cel b [.int .i64 x.1, .int .i64 x.2.most, .int .u64 x.2.r, sv, .int .u64 x.2.start, .int .u64 x.2.finish] 123) (Vec 54 3 encP sv x.2.l))
theorem RFlowC.up {b : Nat} {x : Int × Flw} : Up (RFlowC b x) := fun h k ⟨sv, hs⟩ s => ⟨sv, hs.up s⟩
theorem RFlowC.blk {b : Nat} {x : Int × Flw} {h : Hp} (hr : RFlowC b x h) : ∃ sv, h b = some (.cells ([.int .i64 x.1, .int .i64 x.2.most, .int .u64 x.2.r, sv, .int .u64 x.2.start, .int .u64 x.2.finish] : List Value).toArray 123 (0, 0)) ∧ ∃ a cap, sv = .slice a x.2.l.length cap := by
  obtain ⟨sv, h1, h2, _, s1, s2, hc, h3, h4, _, s3, _, hv, _⟩ := hr
  obtain ⟨a, cap, hv, _⟩ := hv.len
  exact ⟨sv, s1 _ _ hc, a, cap, hv⟩

theorem r09_NewFlow (id r m : Int) (hH : Holds R F w) :
    Ret Tryz.prog 130 [.int .i64 id, .int .u64 r, .int .i64 m] w fun v w' => ∃ b, v = .pointer (some ⟨b, 0, none⟩) ∧ Holds R (RFlowC b (id, ⟨r, min (max m 1) 8, [], 0, 0⟩) :: F) w' := by
  refine ret_of_g (n := 14) Tryz.func130 rfl rfl (by simp) ?_
  refine g_seq ?_
  refine g_region (l := [0]) rfl ?_
  refine vA (lv rfl) rfl rfl ?_
  refine g_seq ?_
  refine g_region (l := [0, 1, 2, 3, 4, 5, 6, 7]) rfl ?_
  refine vM (lv rfl) rfl rfl ?_
  refine vM (lv rfl) rfl rfl ?_
  refine vM (lv rfl) rfl rfl ?_
  refine o_v (lv rfl) rfl (r_max2 rfl rfl) ?_
  refine o_v (lv rfl) rfl (r_min2 rfl rfl) ?_
  refine o_v (lv rfl) rfl (r_bld (ps := [_, _, _]) (cs := [_, _, _, _, _, _]) pl_123 rfl rfl) ?_
  refine o_box (lv rfl) rfl (cs := [_, _, _, _, _, _]) rfl rfl hH ?_
  intro b13 w hH
  refine vA (lv rfl) rfl rfl ?_
  refine g_rq Tryz.func130 (res_t rfl res_0) ?_
  refine ⟨_, rfl, RFlowC.mk (sv := .slice none 0 0) ?_⟩; exact (hH.vnil _ _ _).p1
theorem r09_FArrive {b : Nat} {id : Int} {f : Flw} (hok : f.ok) (v : Int) (p : Packet) (hH : Holds R (RFlowC b (id, f) :: F) w) :
    Ret Tryz.prog 111 [.pointer (some ⟨b, 0, none⟩), .int .u64 v, vP p] w fun x w' => x = .bool (decide ((f.l.length : Int) ≠ f.most)) ∧
      Holds R (RFlowC b (id, if (f.l.length : Int) = f.most then f else f.arrive v p) :: F) w' := by
  have hok2 := hok; unfold Flw.ok at hok2
  obtain ⟨sv, hH⟩ := RFlowC.op hH
  obtain ⟨a, cap, rfl, hc⟩ := hH.p1.rd.len
  refine ret_of_g (n := 43) Tryz.func111 rfl rfl (by simp) ?_
  refine g_seq ?_
  refine g_region (l := [0, 1]) rfl ?_
  refine o_box (lv rfl) rfl (cs := [_, _, _]) rfl rfl hH ?_
  intro b5 w hH
  refine vA (lv rfl) rfl rfl ?_
  refine g_seq ?_
  refine g_seq ?_
  refine rD mixed hH fun w hH => ?_
  refine pM 0 (lv rfl) rfl rfl ?_
  refine pN 1 (lv rfl) rfl rfl ?_
  refine pF 2 (lv rfl) rfl fa_123_3 rfl ?_
  refine d_ld (i := 3) [] (lv rfl) rfl lk_48 rfl (by kernel_rfl) ⟨_, _, _, hH.c1, _, rfl, ?_⟩
  refine d_p (i := 4) (lv rfl) rfl (fun w => (r_len el_48 rfl)) (by kernel_rfl) ?_
  refine pM 5 (lv rfl) rfl rfl ?_
  refine pN 6 (lv rfl) rfl rfl ?_
  refine pF 7 (lv rfl) rfl fa_123_1 rfl ?_
  refine d_ld (i := 8) [] (lv rfl) rfl lk_3 rfl (by kernel_rfl) ⟨_, _, _, hH.c1, _, rfl, ?_⟩
  refine d_p (i := 9) (lv rfl) rfl (fun w => (r_ge rfl rfl)) (by kernel_rfl) ?_
  refine d_end (by kernel_rfl) ?_
  refine g_if rfl (fun c0 => ?_) (fun c0 => ?_)
  ·refine g_seq ?_
   refine g_region (l := [0]) rfl ?_
   refine vA (lv rfl) rfl rfl ?_
   refine g_rq Tryz.func111 (res_t rfl res_0) ?_
   have c1 : (f.l.length : Int) = f.most := by simp only at c0; omega
   refine ⟨bv (by simp [c1]), ?_⟩; rw [if_pos c1]; exact RFlowC.mk (hH.sel (by repeat' (first | exact Sel.refl _ | refine Sel.q1 ?_ | refine Sel.skip _ ?_)))
  ·refine g_skip ?_
   refine g_seq ?_
   refine g_seq ?_
   refine g_region (l := [0, 1, 2, 3, 4, 5]) rfl ?_
   refine vM (lv rfl) rfl rfl ?_
   refine o_v (lv rfl) rfl (r_nil rfl) ?_
   refine o_v (lv rfl) rfl (r_fa fa_123_3 rfl) ?_
   refine o_ld (lv rfl) rfl lk_48 rfl ⟨_, _, _, hH.c1, _, rfl, ?_⟩
   refine o_v (lv rfl) rfl (r_len el_48 rfl) ?_
   refine o_v (lv rfl) rfl (r_eq rfl rfl) ?_
   refine g_if rfl (fun c1 => ?_) (fun c1 => ?_)
   ·refine g_region (l := [0, 1, 2, 3, 4, 5, 6, 7, 8, 9]) rfl ?_
    refine vM (lv rfl) rfl rfl ?_
    refine vM (lv rfl) rfl rfl ?_
    refine vM (lv rfl) rfl rfl ?_
    refine o_v (lv rfl) rfl (r_nil rfl) ?_
    refine o_v (lv rfl) rfl (r_fa fa_123_5 rfl) ?_
    refine o_ld (lv rfl) rfl lk_22 rfl ⟨_, _, _, hH.c1, _, rfl, ?_⟩
    refine o_v (lv rfl) rfl (r_max2 rfl rfl) ?_
    refine o_v (lv rfl) rfl (r_nil rfl) ?_
    refine o_v (lv rfl) rfl (r_fa fa_123_4 rfl) ?_
    refine o_st (lv rfl) rfl lk_22 rfl (vs := [_]) rfl rfl (by exact hH.p1) rfl rfl (by simp) rfl ?_
    intro w hH; dsimp only [setL, List.set] at hH
    refine g_seq ?_
    refine rD mixed hH fun w hH => ?_
    refine pM 0 (lv rfl) rfl rfl ?_
    refine pM 1 (lv rfl) rfl rfl ?_
    refine pN 2 (lv rfl) rfl rfl ?_
    refine pF 3 (lv rfl) rfl fa_123_3 rfl ?_
    refine d_ld (i := 4) [5, 8, 11] (lv rfl) rfl lk_48 rfl (by kernel_rfl) ⟨_, _, _, hH.c0, _, rfl, ?_⟩
    refine d_ldN (i := 6) [7, 8, 11] (lv rfl) rfl lk_54 rfl (by kernel_rfl) ⟨_, _, _, hH.c1, [_, _, _], rfl, rfl, ?_⟩
    refine d_l2 (j := 5) (j2 := 7) (by kernel_rfl) ?_ ?_
    ·refine o_app (enc := encP) (lv rfl) rfl el_48 ze_54 rfl (fun _ => rfl) (fun _ => rfl) rfl rfl (hH.vnil _ _ _) (by exact hH.p2.rd) (by simp; omega) (by simp; omega) ?_
     intro v37 w hH; obtain ⟨a37, k37, rfl, -⟩ := hH.rd.len
     refine ⟨(keeps_cons (fun _ => (by exact hH.c2)) (keeps_in rfl trivial)), ?_⟩
     refine d_l (j := 7) (by kernel_rfl) ?_
     refine o_bs (lv rfl) rfl el_48 ze_54 rfl rfl rfl (ps := [_]) rfl rfl rfl (cs := [_, _, _]) rfl hH ?_
     intro b39 w hH
     refine ⟨(keeps_in rfl (keeps_cons (fun _ => (by exact hH.c2)) trivial)), ?_⟩
     refine d_l (j := 8) (by kernel_rfl) ?_
     refine o_app (enc := encP) (lv rfl) rfl el_48 ze_54 rfl (fun _ => rfl) (fun _ => rfl) rfl rfl (by exact hH.p1) (rd_of_cel [p] (by exact hH.c0) rfl) (by simp; omega) (by simp; omega) ?_
     intro v40 w hH; obtain ⟨a40, k40, rfl, -⟩ := hH.rd.len
     refine ⟨(keeps_in rfl (keeps_in rfl trivial)), ?_⟩
     refine pN 9 (lv rfl) rfl rfl ?_
     refine pF 10 (lv rfl) rfl fa_123_3 rfl ?_
     refine d_l (j := 11) (by kernel_rfl) ?_
     refine o_st (lv rfl) rfl lk_48 rfl (vs := [_]) rfl rfl (by exact hH.p2) rfl rfl (by simp) rfl ?_
     intro w hH; dsimp only [setL, List.set] at hH
     refine ⟨(keeps_in rfl (keeps_in rfl trivial)), ?_⟩
     refine d_end (by kernel_rfl) ?_
     refine g_seq ?_
     refine g_region (l := [0]) rfl ?_
     refine vA (lv rfl) rfl rfl ?_
     refine g_rq Tryz.func111 (res_t rfl res_0) ?_
     have c2 : ¬ (f.l.length : Int) = f.most := by simp only at c0; omega
     refine ⟨bv (by simp [c2]), ?_⟩; rw [if_neg c2]
     (rw [show f.arrive v p = ⟨f.r, f.most, f.l ++ [p], max v f.finish, f.finish⟩ from by unfold Flw.arrive; rw [if_pos (by simp only at c1; omega)]]; exact RFlowC.mk (hH.sel (by repeat' (first | exact Sel.refl _ | refine Sel.q0 ?_ | refine Sel.skip _ ?_))))
    ·refine o_bs (lv rfl) rfl el_48 ze_54 rfl rfl rfl (ps := [_]) rfl rfl rfl (cs := [_, _, _]) rfl hH ?_
     intro b39 w hH
     refine ⟨(keeps_in rfl (keeps_cons (fun _ => (by exact hH.c1)) trivial)), ?_⟩
     refine d_l (j := 5) (by kernel_rfl) ?_
     refine o_app (enc := encP) (lv rfl) rfl el_48 ze_54 rfl (fun _ => rfl) (fun _ => rfl) rfl rfl (hH.vnil _ _ _) (by exact hH.p3.rd) (by simp; omega) (by simp; omega) ?_
     intro v37 w hH; obtain ⟨a37, k37, rfl, -⟩ := hH.rd.len
     refine ⟨(keeps_cons (fun _ => (by exact hH.c3)) (keeps_in rfl trivial)), ?_⟩
     refine d_l (j := 8) (by kernel_rfl) ?_
     refine o_app (enc := encP) (lv rfl) rfl el_48 ze_54 rfl (fun _ => rfl) (fun _ => rfl) rfl rfl (by exact hH) (rd_of_cel [p] (by exact hH.c1) rfl) (by simp; omega) (by simp; omega) ?_
     intro v40 w hH; obtain ⟨a40, k40, rfl, -⟩ := hH.rd.len
     refine ⟨(keeps_in rfl (keeps_in rfl trivial)), ?_⟩
     refine pN 9 (lv rfl) rfl rfl ?_
     refine pF 10 (lv rfl) rfl fa_123_3 rfl ?_
     refine d_l (j := 11) (by kernel_rfl) ?_
     refine o_st (lv rfl) rfl lk_48 rfl (vs := [_]) rfl rfl (by exact hH.p2) rfl rfl (by simp) rfl ?_
     intro w hH; dsimp only [setL, List.set] at hH
     refine ⟨(keeps_in rfl (keeps_in rfl trivial)), ?_⟩
     refine d_end (by kernel_rfl) ?_
     refine g_seq ?_
     refine g_region (l := [0]) rfl ?_
     refine vA (lv rfl) rfl rfl ?_
     refine g_rq Tryz.func111 (res_t rfl res_0) ?_
     have c2 : ¬ (f.l.length : Int) = f.most := by simp only at c0; omega
     refine ⟨bv (by simp [c2]), ?_⟩; rw [if_neg c2]
     (rw [show f.arrive v p = ⟨f.r, f.most, f.l ++ [p], max v f.finish, f.finish⟩ from by unfold Flw.arrive; rw [if_pos (by simp only at c1; omega)]]; exact RFlowC.mk (hH.sel (by repeat' (first | exact Sel.refl _ | refine Sel.q0 ?_ | refine Sel.skip _ ?_))))
   ·refine g_skip ?_
    refine g_seq ?_
    refine rD mixed hH fun w hH => ?_
    refine pM 0 (lv rfl) rfl rfl ?_
    refine pM 1 (lv rfl) rfl rfl ?_
    refine pN 2 (lv rfl) rfl rfl ?_
    refine pF 3 (lv rfl) rfl fa_123_3 rfl ?_
    refine d_ld (i := 4) [5, 8, 11] (lv rfl) rfl lk_48 rfl (by kernel_rfl) ⟨_, _, _, hH.c1, _, rfl, ?_⟩
    refine d_ldN (i := 6) [7, 8, 11] (lv rfl) rfl lk_54 rfl (by kernel_rfl) ⟨_, _, _, hH.c0, [_, _, _], rfl, rfl, ?_⟩
    refine d_l2 (j := 5) (j2 := 7) (by kernel_rfl) ?_ ?_
    ·refine o_app (enc := encP) (lv rfl) rfl el_48 ze_54 rfl (fun _ => rfl) (fun _ => rfl) rfl rfl (hH.vnil _ _ _) (by exact hH.p2.rd) (by simp; omega) (by simp; omega) ?_
     intro v37 w hH; obtain ⟨a37, k37, rfl, -⟩ := hH.rd.len
     refine ⟨(keeps_cons (fun _ => (by exact hH.c1)) (keeps_in rfl trivial)), ?_⟩
     refine d_l (j := 7) (by kernel_rfl) ?_
     refine o_bs (lv rfl) rfl el_48 ze_54 rfl rfl rfl (ps := [_]) rfl rfl rfl (cs := [_, _, _]) rfl hH ?_
     intro b39 w hH
     refine ⟨(keeps_in rfl (keeps_cons (fun _ => (by exact hH.c3)) trivial)), ?_⟩
     refine d_l (j := 8) (by kernel_rfl) ?_
     refine o_app (enc := encP) (lv rfl) rfl el_48 ze_54 rfl (fun _ => rfl) (fun _ => rfl) rfl rfl (by exact hH.p1) (rd_of_cel [p] (by exact hH.c0) rfl) (by simp; omega) (by simp; omega) ?_
     intro v40 w hH; obtain ⟨a40, k40, rfl, -⟩ := hH.rd.len
     refine ⟨(keeps_in rfl (keeps_in rfl trivial)), ?_⟩
     refine pN 9 (lv rfl) rfl rfl ?_
     refine pF 10 (lv rfl) rfl fa_123_3 rfl ?_
     refine d_l (j := 11) (by kernel_rfl) ?_
     refine o_st (lv rfl) rfl lk_48 rfl (vs := [_]) rfl rfl (by exact hH.p3) rfl rfl (by simp) rfl ?_
     intro w hH; dsimp only [setL, List.set] at hH
     refine ⟨(keeps_in rfl (keeps_in rfl trivial)), ?_⟩
     refine d_end (by kernel_rfl) ?_
     refine g_seq ?_
     refine g_region (l := [0]) rfl ?_
     refine vA (lv rfl) rfl rfl ?_
     refine g_rq Tryz.func111 (res_t rfl res_0) ?_
     have c2 : ¬ (f.l.length : Int) = f.most := by simp only at c0; omega
     refine ⟨bv (by simp [c2]), ?_⟩; rw [if_neg c2]
     (rw [show f.arrive v p = ⟨f.r, f.most, f.l ++ [p], f.start, f.finish⟩ from by unfold Flw.arrive; rw [if_neg (by simp only at c1; omega)]]; exact RFlowC.mk (hH.sel (by repeat' (first | exact Sel.refl _ | refine Sel.q0 ?_ | refine Sel.skip _ ?_))))
    ·refine o_bs (lv rfl) rfl el_48 ze_54 rfl rfl rfl (ps := [_]) rfl rfl rfl (cs := [_, _, _]) rfl hH ?_
     intro b39 w hH
     refine ⟨(keeps_in rfl (keeps_cons (fun _ => (by exact hH.c2)) trivial)), ?_⟩
     refine d_l (j := 5) (by kernel_rfl) ?_
     refine o_app (enc := encP) (lv rfl) rfl el_48 ze_54 rfl (fun _ => rfl) (fun _ => rfl) rfl rfl (hH.vnil _ _ _) (by exact hH.p3.rd) (by simp; omega) (by simp; omega) ?_
     intro v37 w hH; obtain ⟨a37, k37, rfl, -⟩ := hH.rd.len
     refine ⟨(keeps_cons (fun _ => (by exact hH.c2)) (keeps_in rfl trivial)), ?_⟩
     refine d_l (j := 8) (by kernel_rfl) ?_
     refine o_app (enc := encP) (lv rfl) rfl el_48 ze_54 rfl (fun _ => rfl) (fun _ => rfl) rfl rfl (by exact hH) (rd_of_cel [p] (by exact hH.c1) rfl) (by simp; omega) (by simp; omega) ?_
     intro v40 w hH; obtain ⟨a40, k40, rfl, -⟩ := hH.rd.len
     refine ⟨(keeps_in rfl (keeps_in rfl trivial)), ?_⟩
     refine pN 9 (lv rfl) rfl rfl ?_
     refine pF 10 (lv rfl) rfl fa_123_3 rfl ?_
     refine d_l (j := 11) (by kernel_rfl) ?_
     refine o_st (lv rfl) rfl lk_48 rfl (vs := [_]) rfl rfl (by exact hH.p3) rfl rfl (by simp) rfl ?_
     intro w hH; dsimp only [setL, List.set] at hH
     refine ⟨(keeps_in rfl (keeps_in rfl trivial)), ?_⟩
     refine d_end (by kernel_rfl) ?_
     refine g_seq ?_
     refine g_region (l := [0]) rfl ?_
     refine vA (lv rfl) rfl rfl ?_
     refine g_rq Tryz.func111 (res_t rfl res_0) ?_
     have c2 : ¬ (f.l.length : Int) = f.most := by simp only at c0; omega
     refine ⟨bv (by simp [c2]), ?_⟩; rw [if_neg c2]
     (rw [show f.arrive v p = ⟨f.r, f.most, f.l ++ [p], f.start, f.finish⟩ from by unfold Flw.arrive; rw [if_neg (by simp only at c1; omega)]]; exact RFlowC.mk (hH.sel (by repeat' (first | exact Sel.refl _ | refine Sel.q0 ?_ | refine Sel.skip _ ?_))))
theorem r09_FServe {b : Nat} {id : Int} {f : Flw} {p : Packet} {l : List Packet} (hok : f.ok) (hl : f.l = p :: l) (hH : Holds R (RFlowC b (id, f) :: F) w) :
    Ret Tryz.prog 131 [.pointer (some ⟨b, 0, none⟩)] w fun v w' => v = .tuple #[vP p, .int .u64 (f.fin p), .bool true] ∧ Holds R (RFlowC b (id, f.serve p) :: F) w' := by
  have hok2 := hok; unfold Flw.ok at hok2
  have hpk : p.ok := hok2.2.2.2.2.2.2 p (by rw [hl]; simp)
  have hpl := hpk.2.1; unfold I at hpl
  obtain ⟨sv, hH⟩ := RFlowC.op hH
  obtain ⟨a, cap, rfl, hc⟩ := hH.p1.rd.len
  have hlen : f.l.length = l.length + 1 := by rw [hl]; simp
  have hd : f.l.drop 1 = l := by rw [hl]; rfl
  obtain ⟨b1, off, cs, T, rfl, hb1, hx1⟩ := Rd.el (i := 0) (x := p) hkP hH.p1.rd (by rw [hl]; rfl)
  refine ret_of_g (n := 55) Tryz.func131 rfl rfl (by simp) ?_
  refine g_seq ?_
  refine g_region (l := [0, 1, 2]) rfl ?_
  refine o_al (lv rfl) rfl ze_54 hH ?_
  intro b2 w hH
  refine vA (lv rfl) rfl rfl ?_
  refine vA (lv rfl) rfl rfl ?_
  refine g_seq ?_
  refine g_seq ?_
  refine g_region (l := [0, 1, 2, 3, 4, 5]) rfl ?_
  refine vM (lv rfl) rfl rfl ?_
  refine o_v (lv rfl) rfl (r_nil rfl) ?_
  refine o_v (lv rfl) rfl (r_fa fa_123_3 rfl) ?_
  refine o_ld (lv rfl) rfl lk_48 rfl ⟨_, _, _, hH.c1, _, rfl, ?_⟩
  refine o_v (lv rfl) rfl (r_len el_48 rfl) ?_
  refine o_v (lv rfl) rfl (r_eq rfl rfl) ?_
  refine g_if rfl (fun c0 => ?_) (fun c0 => ?_)
  ·simp only at c0; omega
  ·refine g_skip ?_
   refine g_seq ?_
   refine g_region (l := [0, 1, 2, 3, 4, 5, 6, 7]) rfl ?_
   refine vM (lv rfl) rfl rfl ?_
   refine o_v (lv rfl) rfl (r_nil rfl) ?_
   refine o_v (lv rfl) rfl (r_fa fa_123_3 rfl) ?_
   refine o_ld (lv rfl) rfl lk_48 rfl ⟨_, _, _, hH.c1, _, rfl, ?_⟩
   refine o_v (lv rfl) rfl (r_ia el_48 rfl rfl ?_ ?_) ?_; omega; omega
   obtain ⟨cs2, T2, hb2, hx2⟩ := Rd.el' (i := 0) (x := p) hkP hH.p2.rd (by rw [hl]; rfl)
   refine o_v (lv rfl) rfl (r_ldC (vs := [.int .i64 p.flow, .int .i64 p.len, .int .i64 p.mark]) lk_54 rfl (fun j c hj => cell_of hb2 (hx2 j c hj))) ?_
   refine o_al (lv rfl) rfl ze_54 hH ?_
   intro b5 w hH
   refine o_st (lv rfl) rfl lk_54 rfl (vs := [_, _, _]) rfl rfl (by exact hH) rfl rfl (by simp) rfl ?_
   intro w hH; dsimp only [setL, List.set] at hH
   refine g_seq ?_
   refine g_region (l := [0, 1, 2, 3, 4, 5, 6, 7, 8, 9]) rfl ?_
   refine vM (lv rfl) rfl rfl ?_
   refine vM (lv rfl) rfl rfl ?_
   refine o_v (lv rfl) rfl (r_nil rfl) ?_
   refine o_v (lv rfl) rfl (r_fa fa_123_3 rfl) ?_
   refine o_ld (lv rfl) rfl lk_48 rfl ⟨_, _, _, hH.c2, _, rfl, ?_⟩
   refine o_sl 1 f.l.length (lv rfl) rfl el_48 rfl (bnd_s rfl) bnd_n (by omega) hc (fun o' ho' => ?_)
   have hrd := Rd.drop (n := 1) hkP (show Rd encP _ f.l (hp _) from (by exact hH.p3.rd)) (by omega) ho'
   rw [hd] at hrd
   refine o_app (enc := encP) (lv rfl) rfl el_48 ze_54 rfl (fun _ => rfl) (fun _ => rfl) rfl rfl (hH.vnil _ _ _) (hrd) (by simp; omega) (by simp; omega) ?_
   intro v25 w hH; obtain ⟨a25, k25, rfl, -⟩ := hH.rd.len
   refine o_v (lv rfl) rfl (r_nil rfl) ?_
   refine o_v (lv rfl) rfl (r_fa fa_123_3 rfl) ?_
   refine o_st (lv rfl) rfl lk_48 rfl (vs := [_]) rfl rfl (by exact hH.p3) rfl rfl (by simp) rfl ?_
   intro w hH; dsimp only [setL, List.set] at hH
   refine g_seq ?_
   refine rD mixed hH fun w hH => ?_
   refine pM 0 (lv rfl) rfl rfl ?_
   refine pM 1 (lv rfl) rfl rfl ?_
   refine pN 2 (lv rfl) rfl rfl ?_
   refine pF 3 (lv rfl) rfl fa_123_4 rfl ?_
   refine d_ld (i := 4) [12, 15] (lv rfl) rfl lk_22 rfl (by kernel_rfl) ⟨_, _, _, hH.c0, _, rfl, ?_⟩
   refine pF 5 (lv rfl) rfl fa_54_1 rfl ?_
   refine d_ld (i := 6) [11, 12, 15] (lv rfl) rfl lk_3 rfl (by kernel_rfl) ⟨_, _, _, hH.c2, _, rfl, ?_⟩
   refine pM 7 (lv rfl) rfl rfl ?_
   refine pN 8 (lv rfl) rfl rfl ?_
   refine pF 9 (lv rfl) rfl fa_123_2 rfl ?_
   refine d_ld (i := 10) [11, 12, 15] (lv rfl) rfl lk_22 rfl (by kernel_rfl) ⟨_, _, _, hH.c0, _, rfl, ?_⟩
   refine d_l (j := 11) (by kernel_rfl) ?_
   refine o_call (lv rfl) rfl en_49 rfl (r01_Cost p.len f.r hpl hok2.1 hH) ?_
   rintro _ w ⟨rfl, hH⟩
   refine ⟨(keeps_in rfl (keeps_in rfl (keeps_cons (fun _ => (by exact hH.c0)) trivial))), ?_⟩
   refine d_l (j := 12) (by kernel_rfl) ?_
   refine o_call (lv rfl) rfl en_80 rfl (r01_Add f.start (satMul (max p.len 0) f.r) hok2.2.2.2.2.1 (satMul_U (by unfold U; omega) hok2.1) hH) ?_
   rintro _ w ⟨rfl, hH⟩
   refine ⟨(keeps_in rfl (keeps_in rfl (keeps_in rfl trivial))), ?_⟩
   refine pN 13 (lv rfl) rfl rfl ?_
   refine pF 14 (lv rfl) rfl fa_123_5 rfl ?_
   refine d_l (j := 15) (by kernel_rfl) ?_
   refine o_st (lv rfl) rfl lk_22 rfl (vs := [_]) rfl rfl (by exact hH) rfl rfl (by simp) rfl ?_
   intro w hH; dsimp only [setL, List.set] at hH
   refine ⟨(keeps_in rfl (keeps_in rfl (keeps_in rfl trivial))), ?_⟩
   refine d_end (by kernel_rfl) ?_
   refine g_seq ?_
   refine g_region (l := [0, 1, 2, 3, 4, 5, 6, 7]) rfl ?_
   refine vM (lv rfl) rfl rfl ?_
   refine vM (lv rfl) rfl rfl ?_
   refine o_v (lv rfl) rfl (r_nil rfl) ?_
   refine o_v (lv rfl) rfl (r_fa fa_123_5 rfl) ?_
   refine o_ld (lv rfl) rfl lk_22 rfl ⟨_, _, _, hH.c0, _, rfl, ?_⟩
   refine o_v (lv rfl) rfl (r_nil rfl) ?_
   refine o_v (lv rfl) rfl (r_fa fa_123_4 rfl) ?_
   refine o_st (lv rfl) rfl lk_22 rfl (vs := [_]) rfl rfl (by exact hH) rfl rfl (by simp) rfl ?_
   intro w hH; dsimp only [setL, List.set] at hH
   refine g_seq ?_
   refine rD mixed hH fun w hH => ?_
   refine d_ldN (i := 0) [5] (lv rfl) rfl lk_54 rfl (by kernel_rfl) ⟨_, _, _, hH.c2, [_, _, _], rfl, rfl, ?_⟩
   refine pM 1 (lv rfl) rfl rfl ?_
   refine pN 2 (lv rfl) rfl rfl ?_
   refine pF 3 (lv rfl) rfl fa_123_5 rfl ?_
   refine d_ld (i := 4) [] (lv rfl) rfl lk_22 rfl (by kernel_rfl) ⟨_, _, _, hH.c0, _, rfl, ?_⟩
   refine d_l (j := 5) (by kernel_rfl) ?_
   refine o_st (lv rfl) rfl lk_54 rfl (vs := [_, _, _]) rfl rfl (by exact hH.p3) rfl rfl (by simp) rfl ?_
   intro w hH; dsimp only [setL, List.set] at hH
   refine ⟨(keeps_cons (fun _ => (by exact hH.c1)) (keeps_in rfl trivial)), ?_⟩
   refine pA 6 (lv rfl) rfl rfl ?_
   refine pA 7 (lv rfl) rfl rfl ?_
   refine d_end (by kernel_rfl) ?_
   refine g_rq Tryz.func131 (res_cell rfl (run_loadVarN (vs := [_, _, _]) lk_54 (cells_of hH.c0 rfl)) (res_t rfl (res_t rfl res_0))) ?_
   exact ⟨rfl, by rw [show f.serve p = ⟨f.r, f.most, l, f.fin p, f.fin p⟩ from by unfold Flw.serve; rw [hl]; rfl]; exact RFlowC.mk (hH.sel (by repeat' (first | exact Sel.refl _ | refine Sel.q1 ?_ | refine Sel.skip _ ?_)))⟩
end
end Go.Proofs.YtkdbglfdgeldpaaGreat
