/- Contracts of package flow: one flow. Condition: numbers of 64 bits. -/
import Derived.Test.YtkdbglfdgeldpaaGreatBase
set_option linter.unusedVariables false
namespace Go.Proofs.YtkdbglfdgeldpaaGreat
open Go.Lt

structure Flw where
  r : Int
  most : Int
  l : List Packet
  start : Int
  finish : Int
  deriving DecidableEq
def Flw.ok (f : Flw) : Prop := U f.r ∧ 1 ≤ f.most ∧ f.most ≤ 8 ∧ (f.l.length : Int) ≤ f.most ∧ U f.start ∧ U f.finish ∧ ∀ p ∈ f.l, p.ok

def Flw.arrive (f : Flw) (v : Int) (p : Packet) : Flw :=
  { f with start := if f.l.length = 0 then max v f.finish else f.start, l := f.l ++ [p] }
def Flw.fin (f : Flw) (p : Packet) : Int := satAdd f.start (satMul (max p.len 0) f.r)
def Flw.serve (f : Flw) (p : Packet) : Flw := { f with start := f.fin p, finish := f.fin p, l := f.l.drop 1 }

def FlowC (b : Nat) (f : Flw) : HP := ex fun sv => star (cel b [.int .u64 f.r, .int .i64 f.most, sv, .int .u64 f.start, .int .u64 f.finish] 192) (Vec 54 3 encP sv f.l)

section
variable {R : Base} {F : List HP} {w : World}
theorem FlowC.op {b : Nat} {f : Flw} (h : Holds R (FlowC b f :: F) w) : ∃ sv, Holds R (cel b [.int .u64 f.r, .int .i64 f.most, sv, .int .u64 f.start, .int .u64 f.finish] 192 :: Vec 54 3 encP sv f.l :: F) w := by
  obtain ⟨sv, h⟩ := h.open_ex
  exact ⟨sv, h.open⟩
theorem FlowC.mk {b : Nat} {f : Flw} {sv : Value} (h : Holds R (cel b [.int .u64 f.r, .int .i64 f.most, sv, .int .u64 f.start, .int .u64 f.finish] 192 :: Vec 54 3 encP sv f.l :: F) w) : Holds R (FlowC b f :: F) w :=
  h.shut.shut_ex (p := fun sv => star (cel b [.int .u64 f.r, .int .i64 f.most, sv, .int .u64 f.start, .int .u64 f.finish] 192) (Vec 54 3 encP sv f.l))
end
section
variable {R : Base} {F : List HP} {w : World}
theorem flow_New (r m : Int) (hH : Holds R F w) :
    Ret Tryz.prog 136 [.int .u64 r, .int .i64 m] w fun v w' => ∃ b, v = .pointer (some ⟨b, 0, none⟩) ∧ Holds R (FlowC b ⟨r, min (max m 1) 8, [], 0, 0⟩ :: F) w' := by
  refine ret_of_g (n := 11) Tryz.func136 rfl rfl (by simp) ?_
  refine g_seq ?_
  refine g_region (l := [0]) rfl ?_
  refine vA (lv rfl) rfl rfl ?_
  refine g_seq ?_
  refine g_region (l := [0, 1, 2, 3, 4, 5, 6]) rfl ?_
  refine vM (lv rfl) rfl rfl ?_
  refine vM (lv rfl) rfl rfl ?_
  refine o_v (lv rfl) rfl (r_max2 rfl rfl) ?_
  refine o_v (lv rfl) rfl (r_min2 rfl rfl) ?_
  refine o_v (lv rfl) rfl (r_bld (ps := [_, _]) (cs := [_, _, _, _, _]) pl_192 rfl rfl) ?_
  refine o_box (lv rfl) rfl (cs := [_, _, _, _, _]) rfl rfl hH ?_
  intro b10 w hH
  refine vA (lv rfl) rfl rfl ?_
  refine g_rq Tryz.func136 (res_t rfl res_0) ?_
  refine ⟨_, rfl, FlowC.mk (sv := .slice none 0 0) ?_⟩; exact (hH.vnil _ _ _).p1
theorem flow_Len {b : Nat} {f : Flw} (hH : Holds R (FlowC b f :: F) w) :
    Ret Tryz.prog 137 [.pointer (some ⟨b, 0, none⟩)] w fun v w' => v = .int .i64 f.l.length ∧ Holds R (FlowC b f :: F) w' := by
  obtain ⟨sv, hH⟩ := FlowC.op hH
  obtain ⟨a, cap, rfl, hc⟩ := hH.p1.rd.len
  refine ret_of_g (n := 8) Tryz.func137 rfl rfl (by simp) ?_
  refine g_seq ?_
  refine g_region (l := [0]) rfl ?_
  refine vA (lv rfl) rfl rfl ?_
  refine g_seq ?_
  refine g_region (l := [0, 1, 2, 3, 4, 5]) rfl ?_
  refine vM (lv rfl) rfl rfl ?_
  refine o_v (lv rfl) rfl (r_nil rfl) ?_
  refine o_v (lv rfl) rfl (r_fa fa_192_2 rfl) ?_
  refine o_ld (lv rfl) rfl lk_48 rfl ⟨_, _, _, hH.c0, _, rfl, ?_⟩
  refine o_v (lv rfl) rfl (r_len el_48 rfl) ?_
  refine vA (lv rfl) rfl rfl ?_
  refine g_rq Tryz.func137 (res_t rfl res_0) ?_
  exact ⟨rfl, FlowC.mk hH⟩
theorem flow_Arrive {b : Nat} {f : Flw} (hok : f.ok) (v : Int) (p : Packet) (hH : Holds R (FlowC b f :: F) w) :
    Ret Tryz.prog 138 [.pointer (some ⟨b, 0, none⟩), .int .u64 v, vP p] w fun x w' => x = .bool (decide ((f.l.length : Int) ≠ f.most)) ∧
      Holds R (FlowC b (if (f.l.length : Int) = f.most then f else f.arrive v p) :: F) w' := by
  have hok2 := hok; unfold Flw.ok at hok2
  obtain ⟨sv, hH⟩ := FlowC.op hH
  obtain ⟨a, cap, rfl, hc⟩ := hH.p1.rd.len
  refine ret_of_g (n := 39) Tryz.func138 rfl rfl (by simp) ?_
  refine g_seq ?_
  refine g_region (l := [0, 1]) rfl ?_
  refine o_box (lv rfl) rfl (cs := [_, _, _]) rfl rfl hH ?_
  intro b5 w hH
  refine vA (lv rfl) rfl rfl ?_
  refine g_seq ?_
  refine g_seq ?_
  refine g_region (l := [0, 1, 2, 3, 4]) rfl ?_
  refine vM (lv rfl) rfl rfl ?_
  refine o_v (lv rfl) rfl (r_nil rfl) ?_
  refine o_v (lv rfl) rfl (r_fa fa_192_2 rfl) ?_
  refine o_ld (lv rfl) rfl lk_48 rfl ⟨_, _, _, hH.c1, _, rfl, ?_⟩
  refine o_v (lv rfl) rfl (r_len el_48 rfl) ?_
  refine g_block ?_
  refine g_seq ?_
  refine g_region (l := [0, 1, 2, 3, 4, 5]) rfl ?_
  refine vM (lv rfl) rfl rfl ?_
  refine o_v (lv rfl) rfl (r_nil rfl) ?_
  refine o_v (lv rfl) rfl (r_fa fa_192_1 rfl) ?_
  refine o_ld (lv rfl) rfl lk_3 rfl ⟨_, _, _, hH.c1, _, rfl, ?_⟩
  refine o_v (lv rfl) rfl (r_eq rfl rfl) ?_
  refine vA (lv rfl) rfl rfl ?_
  refine g_if rfl (fun c0 => ?_) (fun c0 => ?_)
  ·refine g_seq ?_
   refine g_region (l := [0]) rfl ?_
   refine vA (lv rfl) rfl rfl ?_
   refine g_rq Tryz.func138 (res_t rfl res_0) ?_
   refine ⟨bv (by simp [c0]), ?_⟩; rw [if_pos c0]; exact FlowC.mk (hH.sel (by repeat' (first | exact Sel.refl _ | refine Sel.q1 ?_ | refine Sel.skip _ ?_)))
  ·refine g_seq ?_
   refine g_region (l := [0, 1]) rfl ?_
   refine o_v (lv rfl) rfl (r_eq rfl rfl) ?_
   refine vA (lv rfl) rfl rfl ?_
   refine g_if rfl (fun c1 => ?_) (fun c1 => ?_)
   ·refine g_region (l := [0, 1, 2, 3, 4, 5, 6, 7, 8, 9]) rfl ?_
    refine vM (lv rfl) rfl rfl ?_
    refine vM (lv rfl) rfl rfl ?_
    refine vM (lv rfl) rfl rfl ?_
    refine o_v (lv rfl) rfl (r_nil rfl) ?_
    refine o_v (lv rfl) rfl (r_fa fa_192_4 rfl) ?_
    refine o_ld (lv rfl) rfl lk_22 rfl ⟨_, _, _, hH.c1, _, rfl, ?_⟩
    refine o_v (lv rfl) rfl (r_max2 rfl rfl) ?_
    refine o_v (lv rfl) rfl (r_nil rfl) ?_
    refine o_v (lv rfl) rfl (r_fa fa_192_3 rfl) ?_
    refine o_st (lv rfl) rfl lk_22 rfl (vs := [_]) rfl rfl (by exact hH.p1) rfl rfl (by simp) rfl ?_
    intro w hH; dsimp only [setL, List.set] at hH
    refine g_inBlock ?_
    refine g_seq ?_
    refine rD mixed hH fun w hH => ?_
    refine pM 0 (lv rfl) rfl rfl ?_
    refine pM 1 (lv rfl) rfl rfl ?_
    refine pN 2 (lv rfl) rfl rfl ?_
    refine pF 3 (lv rfl) rfl fa_192_2 rfl ?_
    refine d_ld (i := 4) [7, 10] (lv rfl) rfl lk_48 rfl (by kernel_rfl) ⟨_, _, _, hH.c0, _, rfl, ?_⟩
    refine d_ldN (i := 5) [6, 7, 10] (lv rfl) rfl lk_54 rfl (by kernel_rfl) ⟨_, _, _, hH.c1, [_, _, _], rfl, rfl, ?_⟩
    refine d_l (j := 6) (by kernel_rfl) ?_
    refine o_bs (lv rfl) rfl el_48 ze_54 rfl rfl rfl (ps := [_]) rfl rfl rfl (cs := [_, _, _]) rfl hH ?_
    intro b35 w hH
    refine ⟨(keeps_in rfl (keeps_cons (fun _ => (by exact hH.c1)) trivial)), ?_⟩
    refine d_l (j := 7) (by kernel_rfl) ?_
    refine o_app (enc := encP) (lv rfl) rfl el_48 ze_54 rfl (fun _ => rfl) (fun _ => rfl) rfl rfl (by exact hH.p3) (rd_of_cel [p] (by exact hH.c0) rfl) (by simp; omega) (by simp; omega) ?_
    intro v36 w hH; obtain ⟨a36, k36, rfl, -⟩ := hH.rd.len
    refine ⟨(keeps_in rfl (keeps_in rfl trivial)), ?_⟩
    refine pN 8 (lv rfl) rfl rfl ?_
    refine pF 9 (lv rfl) rfl fa_192_2 rfl ?_
    refine d_l (j := 10) (by kernel_rfl) ?_
    refine o_st (lv rfl) rfl lk_48 rfl (vs := [_]) rfl rfl (by exact hH.p2) rfl rfl (by simp) rfl ?_
    intro w hH; dsimp only [setL, List.set] at hH
    refine ⟨(keeps_in rfl (keeps_in rfl trivial)), ?_⟩
    refine d_end (by kernel_rfl) ?_
    refine g_seq ?_
    refine g_region (l := [0]) rfl ?_
    refine vA (lv rfl) rfl rfl ?_
    refine g_rq Tryz.func138 (res_t rfl res_0) ?_
    refine ⟨bv (by simp [c0]), ?_⟩; rw [if_neg c0, show f.arrive v p = ⟨f.r, f.most, f.l ++ [p], max v f.finish, f.finish⟩ from by unfold Flw.arrive; rw [if_pos (by omega)]]; exact FlowC.mk (hH.sel (by repeat' (first | exact Sel.refl _ | refine Sel.q0 ?_ | refine Sel.skip _ ?_)))
   ·refine g_skip ?_
    refine g_inBlock ?_
    refine g_seq ?_
    refine rD mixed hH fun w hH => ?_
    refine pM 0 (lv rfl) rfl rfl ?_
    refine pM 1 (lv rfl) rfl rfl ?_
    refine pN 2 (lv rfl) rfl rfl ?_
    refine pF 3 (lv rfl) rfl fa_192_2 rfl ?_
    refine d_ld (i := 4) [7, 10] (lv rfl) rfl lk_48 rfl (by kernel_rfl) ⟨_, _, _, hH.c1, _, rfl, ?_⟩
    refine d_ldN (i := 5) [6, 7, 10] (lv rfl) rfl lk_54 rfl (by kernel_rfl) ⟨_, _, _, hH.c0, [_, _, _], rfl, rfl, ?_⟩
    refine d_l (j := 6) (by kernel_rfl) ?_
    refine o_bs (lv rfl) rfl el_48 ze_54 rfl rfl rfl (ps := [_]) rfl rfl rfl (cs := [_, _, _]) rfl hH ?_
    intro b35 w hH
    refine ⟨(keeps_in rfl (keeps_cons (fun _ => (by exact hH.c2)) trivial)), ?_⟩
    refine d_l (j := 7) (by kernel_rfl) ?_
    refine o_app (enc := encP) (lv rfl) rfl el_48 ze_54 rfl (fun _ => rfl) (fun _ => rfl) rfl rfl (by exact hH.p3) (rd_of_cel [p] (by exact hH.c0) rfl) (by simp; omega) (by simp; omega) ?_
    intro v36 w hH; obtain ⟨a36, k36, rfl, -⟩ := hH.rd.len
    refine ⟨(keeps_in rfl (keeps_in rfl trivial)), ?_⟩
    refine pN 8 (lv rfl) rfl rfl ?_
    refine pF 9 (lv rfl) rfl fa_192_2 rfl ?_
    refine d_l (j := 10) (by kernel_rfl) ?_
    refine o_st (lv rfl) rfl lk_48 rfl (vs := [_]) rfl rfl (by exact hH.p3) rfl rfl (by simp) rfl ?_
    intro w hH; dsimp only [setL, List.set] at hH
    refine ⟨(keeps_in rfl (keeps_in rfl trivial)), ?_⟩
    refine d_end (by kernel_rfl) ?_
    refine g_seq ?_
    refine g_region (l := [0]) rfl ?_
    refine vA (lv rfl) rfl rfl ?_
    refine g_rq Tryz.func138 (res_t rfl res_0) ?_
    refine ⟨bv (by simp [c0]), ?_⟩; rw [if_neg c0, show f.arrive v p = ⟨f.r, f.most, f.l ++ [p], f.start, f.finish⟩ from by unfold Flw.arrive; rw [if_neg (by omega)]]; exact FlowC.mk (hH.sel (by repeat' (first | exact Sel.refl _ | refine Sel.q0 ?_ | refine Sel.skip _ ?_)))
theorem flow_Start {b : Nat} {f : Flw} (hH : Holds R (FlowC b f :: F) w) :
    Ret Tryz.prog 125 [.pointer (some ⟨b, 0, none⟩)] w fun v w' => v = .tuple #[.int .u64 (if f.l.length = 0 then 0 else f.start), .bool (decide (f.l.length ≠ 0))] ∧ Holds R (FlowC b f :: F) w' := by
  obtain ⟨sv, hH⟩ := FlowC.op hH
  obtain ⟨a, cap, rfl, hc⟩ := hH.p1.rd.len
  refine ret_of_g (n := 14) Tryz.func125 rfl rfl (by simp) ?_
  refine g_seq ?_
  refine g_region (l := [0, 1]) rfl ?_
  refine vA (lv rfl) rfl rfl ?_
  refine vA (lv rfl) rfl rfl ?_
  refine g_seq ?_
  refine g_seq ?_
  refine g_region (l := [0, 1, 2, 3, 4, 5]) rfl ?_
  refine vM (lv rfl) rfl rfl ?_
  refine o_v (lv rfl) rfl (r_nil rfl) ?_
  refine o_v (lv rfl) rfl (r_fa fa_192_2 rfl) ?_
  refine o_ld (lv rfl) rfl lk_48 rfl ⟨_, _, _, hH.c0, _, rfl, ?_⟩
  refine o_v (lv rfl) rfl (r_len el_48 rfl) ?_
  refine o_v (lv rfl) rfl (r_eq rfl rfl) ?_
  refine g_if rfl (fun c0 => ?_) (fun c0 => ?_)
  ·refine g_seq ?_
   refine g_region (l := [0, 1]) rfl ?_
   refine vA (lv rfl) rfl rfl ?_
   refine vA (lv rfl) rfl rfl ?_
   refine g_rq Tryz.func125 (res_t rfl (res_t rfl res_0)) ?_
   have hz : f.l.length = 0 := by omega
   exact ⟨by simp [retv, hz], FlowC.mk hH⟩
  ·refine g_skip ?_
   refine g_seq ?_
   refine g_region (l := [0, 1, 2, 3, 4, 5]) rfl ?_
   refine vM (lv rfl) rfl rfl ?_
   refine o_v (lv rfl) rfl (r_nil rfl) ?_
   refine o_v (lv rfl) rfl (r_fa fa_192_3 rfl) ?_
   refine o_ld (lv rfl) rfl lk_22 rfl ⟨_, _, _, hH.c0, _, rfl, ?_⟩
   refine vA (lv rfl) rfl rfl ?_
   refine vA (lv rfl) rfl rfl ?_
   refine g_rq Tryz.func125 (res_t rfl (res_t rfl res_0)) ?_
   have hz : f.l.length ≠ 0 := by omega
   exact ⟨by simp [retv, hz], FlowC.mk hH⟩
theorem flow_Head0 {b : Nat} {f : Flw} (hl : f.l = []) (hH : Holds R (FlowC b f :: F) w) :
    Ret Tryz.prog 161 [.pointer (some ⟨b, 0, none⟩)] w fun v w' => v = .tuple #[vP ⟨0, 0, 0⟩, .bool false] ∧ Holds R (FlowC b f :: F) w' := by
  obtain ⟨sv, hH⟩ := FlowC.op hH
  obtain ⟨a, cap, rfl, hc⟩ := hH.p1.rd.len
  refine ret_of_g (n := 17) Tryz.func161 rfl rfl (by simp) ?_
  refine g_seq ?_
  refine g_region (l := [0, 1]) rfl ?_
  refine o_al (lv rfl) rfl ze_54 hH ?_
  intro b2 w hH
  refine vA (lv rfl) rfl rfl ?_
  refine g_seq ?_
  refine g_seq ?_
  refine g_region (l := [0, 1, 2, 3, 4, 5]) rfl ?_
  refine vM (lv rfl) rfl rfl ?_
  refine o_v (lv rfl) rfl (r_nil rfl) ?_
  refine o_v (lv rfl) rfl (r_fa fa_192_2 rfl) ?_
  refine o_ld (lv rfl) rfl lk_48 rfl ⟨_, _, _, hH.c1, _, rfl, ?_⟩
  refine o_v (lv rfl) rfl (r_len el_48 rfl) ?_
  refine o_v (lv rfl) rfl (r_eq rfl rfl) ?_
  refine g_if rfl (fun c0 => ?_) (fun c0 => ?_)
  ·refine g_seq ?_
   refine g_region (l := [0, 1, 2]) rfl ?_
   refine o_v (lv rfl) rfl (r_bld (ps := []) (cs := [_, _, _]) pl_54 rfl rfl) ?_
   refine o_st (lv rfl) rfl lk_54 rfl (vs := [_, _, _]) rfl rfl (by exact hH) rfl rfl (by simp) rfl ?_
   intro w hH; dsimp only [setL, List.set] at hH
   refine vA (lv rfl) rfl rfl ?_
   refine g_rq Tryz.func161 (res_cell rfl (run_loadVarN (vs := [_, _, _]) lk_54 (cells_of hH.c0 rfl)) (res_t rfl res_0)) ?_
   exact ⟨rfl, FlowC.mk (hH.sel (by repeat' (first | exact Sel.refl _ | refine Sel.q1 ?_ | refine Sel.skip _ ?_)))⟩
  ·exact absurd (by rw [hl]; rfl) c0
theorem flow_Head1 {b : Nat} {f : Flw} {p : Packet} {l : List Packet} (hl : f.l = p :: l) (hH : Holds R (FlowC b f :: F) w) :
    Ret Tryz.prog 161 [.pointer (some ⟨b, 0, none⟩)] w fun v w' => v = .tuple #[vP p, .bool true] ∧ Holds R (FlowC b f :: F) w' := by
  obtain ⟨sv, hH⟩ := FlowC.op hH
  obtain ⟨a, cap, rfl, hc⟩ := hH.p1.rd.len
  have hlen : 0 < f.l.length := by rw [hl]; simp
  refine ret_of_g (n := 17) Tryz.func161 rfl rfl (by simp) ?_
  refine g_seq ?_
  refine g_region (l := [0, 1]) rfl ?_
  refine o_al (lv rfl) rfl ze_54 hH ?_
  intro b2 w hH
  refine vA (lv rfl) rfl rfl ?_
  refine g_seq ?_
  refine g_seq ?_
  refine g_region (l := [0, 1, 2, 3, 4, 5]) rfl ?_
  refine vM (lv rfl) rfl rfl ?_
  refine o_v (lv rfl) rfl (r_nil rfl) ?_
  refine o_v (lv rfl) rfl (r_fa fa_192_2 rfl) ?_
  refine o_ld (lv rfl) rfl lk_48 rfl ⟨_, _, _, hH.c1, _, rfl, ?_⟩
  refine o_v (lv rfl) rfl (r_len el_48 rfl) ?_
  refine o_v (lv rfl) rfl (r_eq rfl rfl) ?_
  refine g_if rfl (fun c0 => ?_) (fun c0 => ?_)
  ·omega
  ·refine g_skip ?_
   refine g_seq ?_
   obtain ⟨b1, off, cs, T, rfl, hb1, hx1⟩ := Rd.el (i := 0) (x := p) hkP hH.p2.rd (by rw [hl]; rfl)
   refine g_region (l := [0, 1, 2, 3, 4, 5, 6, 7]) rfl ?_
   refine vM (lv rfl) rfl rfl ?_
   refine o_v (lv rfl) rfl (r_nil rfl) ?_
   refine o_v (lv rfl) rfl (r_fa fa_192_2 rfl) ?_
   refine o_ld (lv rfl) rfl lk_48 rfl ⟨_, _, _, hH.c1, _, rfl, ?_⟩
   refine o_v (lv rfl) rfl (r_ia el_48 rfl rfl ?_ ?_) ?_; omega; omega
   refine o_v (lv rfl) rfl (r_ldC (vs := [.int .i64 p.flow, .int .i64 p.len, .int .i64 p.mark]) lk_54 rfl (fun j c hj => cell_of hb1 (hx1 j c hj))) ?_
   refine o_st (lv rfl) rfl lk_54 rfl (vs := [_, _, _]) rfl rfl (by exact hH) rfl rfl (by simp) rfl ?_
   intro w hH; dsimp only [setL, List.set] at hH
   refine vA (lv rfl) rfl rfl ?_
   refine g_rq Tryz.func161 (res_cell rfl (run_loadVarN (vs := [_, _, _]) lk_54 (cells_of hH.c0 rfl)) (res_t rfl res_0)) ?_
   exact ⟨rfl, FlowC.mk (hH.sel (by repeat' (first | exact Sel.refl _ | refine Sel.q1 ?_ | refine Sel.skip _ ?_)))⟩
theorem flow_charge {b : Nat} {f : Flw} {p : Packet} {l : List Packet} (hok : f.ok) (hl : f.l = p :: l) (hH : Holds R (FlowC b f :: F) w) :
    Ret Tryz.prog 162 [.pointer (some ⟨b, 0, none⟩)] w fun v w' => Holds R (FlowC b { f with finish := f.fin p } :: F) w' := by
  have hok2 := hok; unfold Flw.ok at hok2
  have hp : p.ok := hok2.2.2.2.2.2.2 p (by rw [hl]; simp)
  have hpl := hp.2.1; unfold I at hpl
  obtain ⟨sv, hH⟩ := FlowC.op hH
  obtain ⟨a, cap, rfl, hc⟩ := hH.p1.rd.len
  have hlen : 0 < f.l.length := by rw [hl]; simp
  refine ret_of_g (n := 22) Tryz.func162 rfl rfl (by simp) ?_
  refine rD mixed hH fun w hH => ?_
  obtain ⟨b1, off, cs, T, rfl, hb1, hx1⟩ := Rd.el (i := 0) (x := p) hkP hH.p1.rd (by rw [hl]; rfl)
  refine pM 0 (lv rfl) rfl rfl ?_
  refine pM 1 (lv rfl) rfl rfl ?_
  refine pN 2 (lv rfl) rfl rfl ?_
  refine pF 3 (lv rfl) rfl fa_192_3 rfl ?_
  refine d_ld (i := 4) [17, 20] (lv rfl) rfl lk_22 rfl (by kernel_rfl) ⟨_, _, _, hH.c0, _, rfl, ?_⟩
  refine pM 5 (lv rfl) rfl rfl ?_
  refine pN 6 (lv rfl) rfl rfl ?_
  refine pF 7 (lv rfl) rfl fa_192_2 rfl ?_
  refine d_ld (i := 8) [16, 17, 20] (lv rfl) rfl lk_48 rfl (by kernel_rfl) ⟨_, _, _, hH.c0, _, rfl, ?_⟩
  refine d_p (i := 9) (lv rfl) rfl (fun w => (r_ia el_48 rfl rfl ?_ ?_)) (by kernel_rfl) ?_; omega; omega
  refine pF 10 (lv rfl) rfl fa_54_1 rfl ?_
  refine d_q (i := 11) (fun w => w.heap[b1]? = some (.cells cs.toArray T.1 T.2)) [16, 17, 20] (lv rfl) rfl (fun w hb => r_ldc lk_3 rfl (cell_of hb (hx1 1 _ rfl))) hb1 (by kernel_rfl) ?_
  refine pM 12 (lv rfl) rfl rfl ?_
  refine pN 13 (lv rfl) rfl rfl ?_
  refine pF 14 (lv rfl) rfl fa_192_0 rfl ?_
  refine d_ld (i := 15) [16, 17, 20] (lv rfl) rfl lk_22 rfl (by kernel_rfl) ⟨_, _, _, hH.c0, _, rfl, ?_⟩
  refine d_l (j := 16) (by kernel_rfl) ?_
  refine o_call (lv rfl) rfl en_114 rfl (tag_Cost p.len f.r hpl hok2.1 hH) ?_
  rintro _ w ⟨rfl, hH⟩
  refine ⟨(keeps_in rfl (keeps_in rfl (keeps_in rfl (keeps_cons (fun _ => (by exact hH.c0)) trivial)))), ?_⟩
  refine d_l (j := 17) (by kernel_rfl) ?_
  refine o_call (lv rfl) rfl en_115 rfl (tag_Add f.start (satMul (max p.len 0) f.r) hok2.2.2.2.2.1 (satMul_U (by unfold U; omega) hok2.1) hH) ?_
  rintro _ w ⟨rfl, hH⟩
  refine ⟨(keeps_in rfl (keeps_in rfl (keeps_in rfl (keeps_in rfl trivial)))), ?_⟩
  refine pN 18 (lv rfl) rfl rfl ?_
  refine pF 19 (lv rfl) rfl fa_192_4 rfl ?_
  refine d_l (j := 20) (by kernel_rfl) ?_
  refine o_st (lv rfl) rfl lk_22 rfl (vs := [_]) rfl rfl (by exact hH) rfl rfl (by simp) rfl ?_
  intro w hH; dsimp only [setL, List.set] at hH
  refine ⟨(keeps_in rfl (keeps_in rfl (keeps_in rfl (keeps_in rfl trivial)))), ?_⟩
  refine d_end (by kernel_rfl) ?_
  refine g_eq Tryz.func162 res_0 ?_
  exact FlowC.mk (hH.sel (by repeat' (first | exact Sel.refl _)))
theorem clone_P {sv : Value} {l : List Packet} (hr : Rd encP sv l R.h) (hl : l.length ≤ 2147483648) (hH : Holds R F w) :
    Ret Tryz.prog 174 [sv] w fun v w' => Holds R (Vec 54 3 encP v l :: F) w' := by
  rcases hr with ⟨rfl, rfl⟩ | hr
  ·refine ret_of_g (n := 8) Tryz.func174 rfl rfl (by simp) ?_
   refine g_seq ?_
   refine g_region (l := [0]) rfl ?_
   refine vA (lv rfl) rfl rfl ?_
   refine g_seq ?_
   refine g_seq ?_
   refine g_region (l := [0, 1]) rfl ?_
   refine vM (lv rfl) rfl rfl ?_
   refine o_v (lv rfl) rfl (r_eqsn sl_48 rfl rfl) ?_
   refine g_true rfl ?_
   refine g_seq ?_
   refine g_region (l := [0]) rfl ?_
   refine vA (lv rfl) rfl rfl ?_
   refine g_rq Tryz.func174 (res_t rfl res_0) ?_
   exact hH.vnil _ _ _
  ·have hr0 : Rd encP sv l R.h := .inr hr
   obtain ⟨b, off, cap, cs, T, rfl, hb, hc, hx⟩ := hr
   refine ret_of_g (n := 8) Tryz.func174 rfl rfl (by simp) ?_
   refine g_seq ?_
   refine g_region (l := [0]) rfl ?_
   refine vA (lv rfl) rfl rfl ?_
   refine g_seq ?_
   refine g_seq ?_
   refine g_region (l := [0, 1]) rfl ?_
   refine vM (lv rfl) rfl rfl ?_
   refine o_v (lv rfl) rfl (r_eqsn sl_48 rfl rfl) ?_
   refine g_false rfl ?_
   refine g_skip ?_
   refine g_seq ?_
   refine g_region (l := [0, 1, 2, 3]) rfl ?_
   refine o_bs0 (lv rfl) rfl el_48 hH ?_
   intro b5 w hH
   refine vM (lv rfl) rfl rfl ?_; replace hH := vec_of_cel (k := 3) (enc := encP) (l := []) rfl hH
   refine o_app (enc := encP) (lv rfl) rfl el_48 ze_54 rfl (fun _ => rfl) (fun _ => rfl) rfl rfl (by exact hH) (Rd.up _ _ hr0 hH.ro) (by simp; omega) (by simp; omega) ?_
   intro v7 w hH; obtain ⟨a7, k7, rfl, -⟩ := hH.rd.len
   refine vA (lv rfl) rfl rfl ?_
   refine g_rq Tryz.func174 (res_t rfl res_0) ?_
   exact hH
theorem flow_drop {b : Nat} {f : Flw} {p : Packet} {l : List Packet} (hok : f.ok) (hl : f.l = p :: l) (hH : Holds R (FlowC b f :: F) w) :
    Ret Tryz.prog 163 [.pointer (some ⟨b, 0, none⟩)] w fun v w' => Holds R (FlowC b { f with l := l } :: F) w' := by
  have hok2 := hok; unfold Flw.ok at hok2
  obtain ⟨sv, hH⟩ := FlowC.op hH
  obtain ⟨a, cap, rfl, hc⟩ := hH.p1.rd.len
  have hlen : f.l.length = l.length + 1 := by rw [hl]; simp
  obtain ⟨b1, off, cs, T, rfl, hb1, hx1⟩ := Rd.el (i := 0) (x := p) hkP hH.p1.rd (by rw [hl]; rfl)
  have hd : f.l.drop 1 = l := by rw [hl]; rfl
  refine ret_of_g (n := 11) Tryz.func163 rfl rfl (by simp) ?_
  refine g_region (l := [0, 1, 2, 3, 4, 5, 6, 7, 8, 9]) rfl ?_
  refine vM (lv rfl) rfl rfl ?_
  refine vM (lv rfl) rfl rfl ?_
  refine o_v (lv rfl) rfl (r_nil rfl) ?_
  refine o_v (lv rfl) rfl (r_fa fa_192_2 rfl) ?_
  refine o_ld (lv rfl) rfl lk_48 rfl ⟨_, _, _, hH.c0, _, rfl, ?_⟩
  refine o_sl 1 f.l.length (lv rfl) rfl el_48 rfl (bnd_s rfl) bnd_n (by omega) hc (fun o' ho' => ?_)
  have hrd := Rd.drop (n := 1) hkP hH.p1.rd (by omega) ho'
  rw [hd] at hrd
  refine o_call (lv rfl) rfl en_174 rfl (clone_P (R := baseOf w) hrd (by omega) (holds_start w)) ?_
  rintro _ w hH2
  replace hH := hH.merge hH2; clear hH2 hrd; obtain ⟨a8, k8, rfl, -⟩ := hH.rd.len
  refine o_v (lv rfl) rfl (r_nil rfl) ?_
  refine o_v (lv rfl) rfl (r_fa fa_192_2 rfl) ?_
  refine o_st (lv rfl) rfl lk_48 rfl (vs := [_]) rfl rfl (by exact hH.p1) rfl rfl (by simp) rfl ?_
  intro w hH; dsimp only [setL, List.set] at hH
  refine g_eq Tryz.func163 res_0 ?_
  exact FlowC.mk (hH.sel (by repeat' (first | exact Sel.refl _ | refine Sel.q0 ?_ | refine Sel.skip _ ?_)))
theorem flow_turn {b : Nat} {f : Flw} (hH : Holds R (FlowC b f :: F) w) :
    Ret Tryz.prog 164 [.pointer (some ⟨b, 0, none⟩)] w fun v w' => Holds R (FlowC b { f with start := f.finish } :: F) w' := by
  obtain ⟨sv, hH⟩ := FlowC.op hH
  refine ret_of_g (n := 9) Tryz.func164 rfl rfl (by simp) ?_
  refine g_region (l := [0, 1, 2, 3, 4, 5, 6, 7]) rfl ?_
  refine vM (lv rfl) rfl rfl ?_
  refine vM (lv rfl) rfl rfl ?_
  refine o_v (lv rfl) rfl (r_nil rfl) ?_
  refine o_v (lv rfl) rfl (r_fa fa_192_4 rfl) ?_
  refine o_ld (lv rfl) rfl lk_22 rfl ⟨_, _, _, hH.c0, _, rfl, ?_⟩
  refine o_v (lv rfl) rfl (r_nil rfl) ?_
  refine o_v (lv rfl) rfl (r_fa fa_192_3 rfl) ?_
  refine o_st (lv rfl) rfl lk_22 rfl (vs := [_]) rfl rfl (by exact hH) rfl rfl (by simp) rfl ?_
  intro w hH; dsimp only [setL, List.set] at hH
  refine g_eq Tryz.func164 res_0 ?_
  exact FlowC.mk (hH.sel (by repeat' (first | exact Sel.refl _)))
theorem flow_Serve0 {b : Nat} {f : Flw} (hl : f.l = []) (hH : Holds R (FlowC b f :: F) w) :
    Ret Tryz.prog 140 [.pointer (some ⟨b, 0, none⟩)] w fun v w' => v = .tuple #[vP ⟨0, 0, 0⟩, .int .u64 0, .bool false] ∧ Holds R (FlowC b f :: F) w' := by
  refine ret_of_g (n := 35) Tryz.func140 rfl rfl (by simp) ?_
  refine g_seq ?_
  refine g_region (l := [0, 1, 2]) rfl ?_
  refine o_al (lv rfl) rfl ze_54 hH ?_
  intro b2 w hH
  refine vA (lv rfl) rfl rfl ?_
  refine vA (lv rfl) rfl rfl ?_
  refine g_seq ?_
  refine g_region (l := [0, 1, 2, 3, 4, 5, 6, 7]) rfl ?_
  refine vM (lv rfl) rfl rfl ?_
  refine o_call (lv rfl) rfl en_161 rfl (flow_Head0 hl hH.p1) ?_
  rintro _ w ⟨rfl, hH⟩
  refine vM (lv rfl) rfl rfl ?_
  refine o_v (lv rfl) rfl (r_ex rfl rfl) ?_
  refine o_v (lv rfl) rfl (r_ex rfl rfl) ?_
  refine o_al (lv rfl) rfl ze_54 hH ?_
  intro b5 w hH
  refine o_st (lv rfl) rfl lk_54 rfl (vs := [_, _, _]) rfl rfl (by exact hH) rfl rfl (by simp) rfl ?_
  intro w hH; dsimp only [setL, List.set] at hH
  refine vA (lv rfl) rfl rfl ?_
  refine g_seq ?_
  refine g_seq ?_
  refine g_region (l := [0, 1]) rfl ?_
  refine vM (lv rfl) rfl rfl ?_
  refine o_v (lv rfl) rfl (r_not rfl) ?_
  refine g_true rfl ?_
  refine g_seq ?_
  refine g_region (l := [0, 1, 2, 3]) rfl ?_
  refine o_v (lv rfl) rfl (r_bld (ps := []) (cs := [_, _, _]) pl_54 rfl rfl) ?_
  refine o_st (lv rfl) rfl lk_54 rfl (vs := [_, _, _]) rfl rfl (by exact hH.p2) rfl rfl (by simp) rfl ?_
  intro w hH; dsimp only [setL, List.set] at hH
  refine vA (lv rfl) rfl rfl ?_
  refine vA (lv rfl) rfl rfl ?_
  refine g_rq Tryz.func140 (res_cell rfl (run_loadVarN (vs := [_, _, _]) lk_54 (cells_of hH.c0 rfl)) (res_t rfl (res_t rfl res_0))) ?_
  exact ⟨rfl, (hH.sel (by repeat' (first | exact Sel.refl _ | refine Sel.q2 ?_ | refine Sel.skip _ ?_)))⟩
theorem Flw.fin_U {f : Flw} {p : Packet} (hok : f.ok) : U (f.fin p) := by
  unfold Flw.ok at hok
  by_cases h : p.len ≤ 18446744073709551615
  ·exact satAdd_U hok.2.2.2.2.1 (satMul_U (by unfold U; omega) hok.1)
  ·have h1 := hok.2.2.2.2.1
   have h2 : 0 ≤ satMul (max p.len 0) f.r := by
     have := Int.mul_nonneg (show 0 ≤ max p.len 0 by omega) hok.1.1
     unfold satMul top; omega
   unfold U at h1
   unfold Flw.fin U satAdd top; omega
theorem flow_Serve1 {b : Nat} {f : Flw} {p : Packet} {l : List Packet} (hok : f.ok) (hl : f.l = p :: l) (hH : Holds R (FlowC b f :: F) w) :
    Ret Tryz.prog 140 [.pointer (some ⟨b, 0, none⟩)] w fun v w' => v = .tuple #[vP p, .int .u64 (f.fin p), .bool true] ∧ Holds R (FlowC b (f.serve p) :: F) w' := by
  have hok1 : Flw.ok { f with finish := f.fin p } := ⟨hok.1, hok.2.1, hok.2.2.1, hok.2.2.2.1, hok.2.2.2.2.1, Flw.fin_U hok, hok.2.2.2.2.2.2⟩
  refine ret_of_g (n := 35) Tryz.func140 rfl rfl (by simp) ?_
  refine g_seq ?_
  refine g_region (l := [0, 1, 2]) rfl ?_
  refine o_al (lv rfl) rfl ze_54 hH ?_
  intro b2 w hH
  refine vA (lv rfl) rfl rfl ?_
  refine vA (lv rfl) rfl rfl ?_
  refine g_seq ?_
  refine g_region (l := [0, 1, 2, 3, 4, 5, 6, 7]) rfl ?_
  refine vM (lv rfl) rfl rfl ?_
  refine o_call (lv rfl) rfl en_161 rfl (flow_Head1 hl hH.p1) ?_
  rintro _ w ⟨rfl, hH⟩
  refine vM (lv rfl) rfl rfl ?_
  refine o_v (lv rfl) rfl (r_ex rfl rfl) ?_
  refine o_v (lv rfl) rfl (r_ex rfl rfl) ?_
  refine o_al (lv rfl) rfl ze_54 hH ?_
  intro b5 w hH
  refine o_st (lv rfl) rfl lk_54 rfl (vs := [_, _, _]) rfl rfl (by exact hH) rfl rfl (by simp) rfl ?_
  intro w hH; dsimp only [setL, List.set] at hH
  refine vA (lv rfl) rfl rfl ?_
  refine g_seq ?_
  refine g_seq ?_
  refine g_region (l := [0, 1]) rfl ?_
  refine vM (lv rfl) rfl rfl ?_
  refine o_v (lv rfl) rfl (r_not rfl) ?_
  refine g_false rfl ?_
  refine g_skip ?_
  refine g_seq ?_
  refine g_seq ?_
  refine g_region (l := [0, 1, 2, 3, 4, 5, 6, 7]) rfl ?_
  refine vM (lv rfl) rfl rfl ?_
  refine o_v (lv rfl) rfl (r_mkf (a := [_]) (b := []) rfl rfl) ?_
  refine vM (lv rfl) rfl rfl ?_
  refine o_v (lv rfl) rfl (r_mkf (a := [_]) (b := []) rfl rfl) ?_
  refine vM (lv rfl) rfl rfl ?_
  refine o_v (lv rfl) rfl (r_mkf (a := [_]) (b := []) rfl rfl) ?_
  refine o_v (lv rfl) rfl (r_blda (ps := [_, _, _]) (pl := [_, _, _]) (cs := [_, _, _]) pa_209 rfl rfl rfl) ?_
  refine vM (lv rfl) rfl rfl ?_
  refine g_block ?_
  refine g_unroll ?_
  refine g_seq ?_
  refine g_region (l := [0]) rfl ?_
  refine o_v (lv rfl) rfl (r_lt rfl rfl) ?_
  refine g_seq ?_
  refine g_true rfl ?_
  refine g_skip ?_
  refine g_seq ?_
  refine g_block ?_
  refine g_seq ?_
  refine g_region (l := [0, 1]) rfl ?_
  refine o_v (lv rfl) rfl (r_ix ar_209 lk_1 rfl rfl ?_ ?_ rfl) ?_; omega; omega
  refine vA (lv rfl) rfl rfl ?_
  refine g_region (l := [0, 1]) rfl ?_
  refine vM (lv rfl) rfl rfl ?_
  refine o_callv (first := [_]) (cap := []) (lv rfl) rfl rfl en_162 rfl rfl (flow_charge hok hl (by exact hH.p1)) ?_; intro _ w hH
  refine g_inBlock ?_
  refine g_region (l := [0, 1]) rfl ?_
  refine o_v (lv rfl) rfl (r_addI rfl rfl ?_) ?_; omega
  refine vM (lv rfl) rfl rfl ?_
  refine g_inLoop ?_
  refine g_seq ?_
  refine g_region (l := [0]) rfl ?_
  refine o_v (lv rfl) rfl (r_lt rfl rfl) ?_
  refine g_seq ?_
  refine g_true rfl ?_
  refine g_skip ?_
  refine g_seq ?_
  refine g_block ?_
  refine g_seq ?_
  refine g_region (l := [0, 1]) rfl ?_
  refine o_v (lv rfl) rfl (r_ix ar_209 lk_1 rfl rfl ?_ ?_ rfl) ?_; omega; omega
  refine vA (lv rfl) rfl rfl ?_
  refine g_region (l := [0, 1]) rfl ?_
  refine vM (lv rfl) rfl rfl ?_
  refine o_callv (first := [_]) (cap := []) (lv rfl) rfl rfl en_163 rfl rfl (flow_drop (p := p) (l := l) hok1 hl (by exact hH)) ?_; intro _ w hH
  refine g_inBlock ?_
  refine g_region (l := [0, 1]) rfl ?_
  refine o_v (lv rfl) rfl (r_addI rfl rfl ?_) ?_; omega
  refine vM (lv rfl) rfl rfl ?_
  refine g_inLoop ?_
  refine g_seq ?_
  refine g_region (l := [0]) rfl ?_
  refine o_v (lv rfl) rfl (r_lt rfl rfl) ?_
  refine g_seq ?_
  refine g_true rfl ?_
  refine g_skip ?_
  refine g_seq ?_
  refine g_block ?_
  refine g_seq ?_
  refine g_region (l := [0, 1]) rfl ?_
  refine o_v (lv rfl) rfl (r_ix ar_209 lk_1 rfl rfl ?_ ?_ rfl) ?_; omega; omega
  refine vA (lv rfl) rfl rfl ?_
  refine g_region (l := [0, 1]) rfl ?_
  refine vM (lv rfl) rfl rfl ?_
  refine o_callv (first := [_]) (cap := []) (lv rfl) rfl rfl en_164 rfl rfl (flow_turn (by exact hH)) ?_; intro _ w hH
  refine g_inBlock ?_
  refine g_region (l := [0, 1]) rfl ?_
  refine o_v (lv rfl) rfl (r_addI rfl rfl ?_) ?_; omega
  refine vM (lv rfl) rfl rfl ?_
  refine g_inLoop ?_
  refine g_seq ?_
  refine g_region (l := [0]) rfl ?_
  refine o_v (lv rfl) rfl (r_lt rfl rfl) ?_
  refine g_seq ?_
  refine g_false rfl ?_
  refine g_exit rfl ?_
  refine g_seq ?_
  refine rD mixed hH fun w hH => ?_
  obtain ⟨sv, hH⟩ := FlowC.op hH
  refine d_ldN (i := 0) [5] (lv rfl) rfl lk_54 rfl (by kernel_rfl) ⟨_, _, _, hH.c2, [_, _, _], rfl, rfl, ?_⟩
  refine pM 1 (lv rfl) rfl rfl ?_
  refine pN 2 (lv rfl) rfl rfl ?_
  refine pF 3 (lv rfl) rfl fa_192_4 rfl ?_
  refine d_ld (i := 4) [] (lv rfl) rfl lk_22 rfl (by kernel_rfl) ⟨_, _, _, hH.c0, _, rfl, ?_⟩
  refine d_l (j := 5) (by kernel_rfl) ?_
  refine o_st (lv rfl) rfl lk_54 rfl (vs := [_, _, _]) rfl rfl (by exact hH.p3) rfl rfl (by simp) rfl ?_
  intro w hH; dsimp only [setL, List.set] at hH
  refine ⟨(keeps_cons (fun _ => (by exact hH.c1)) (keeps_in rfl trivial)), ?_⟩
  refine pA 6 (lv rfl) rfl rfl ?_
  refine pA 7 (lv rfl) rfl rfl ?_
  refine d_end (by kernel_rfl) ?_
  refine g_rq Tryz.func140 (res_cell rfl (run_loadVarN (vs := [_, _, _]) lk_54 (cells_of hH.c0 rfl)) (res_t rfl (res_t rfl res_0))) ?_
  exact ⟨rfl, by rw [show f.serve p = ⟨f.r, f.most, l, f.fin p, f.fin p⟩ from by unfold Flw.serve; rw [hl]; rfl]; exact FlowC.mk (hH.sel (by repeat' (first | exact Sel.refl _ | refine Sel.q1 ?_ | refine Sel.skip _ ?_)))⟩
end
end Go.Proofs.YtkdbglfdgeldpaaGreat
