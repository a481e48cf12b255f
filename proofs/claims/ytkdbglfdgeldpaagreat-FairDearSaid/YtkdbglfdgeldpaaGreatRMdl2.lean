/- Contracts of the reference's model: its calls. Condition: numbers of 64 bits. -/
import Derived.Test.YtkdbglfdgeldpaaGreatRMdl
namespace Go.Proofs.YtkdbglfdgeldpaaGreat
open Go.Lt
section
variable {R : Base} {F : List HP} {w : World}
theorem r09_one {b : Nat} {m : Mdl} (hok : m.s.ok) (hs : 0 ≤ m.served ∧ m.served ≤ 4611686018427387904) (hH : Holds R (RMdlC b m :: F) w) :
    Ret Tryz.prog 76 [.pointer (some ⟨b, 0, none⟩)] w fun v w' => ∃ pv, v = vR m.one.1 pv ∧ Holds R (Vec 54 3 encP pv m.one.1.packets :: RMdlC b m.one.2 :: F) w' := by
  obtain ⟨sb, hH⟩ := RMdlC.op hH
  rcases hsv : m.s.serve with ⟨o, s'⟩
  cases o with
  | none =>
    have e1 : m.one = (code 10, { m with s := s' }) := by unfold Mdl.one; rw [hsv]
    rw [e1]
    refine ret_of_g (n := 26) Tryz.func76 rfl rfl (by simp) ?_
    refine g_seq ?_
    refine g_region (l := [0]) rfl ?_
    refine o_al (lv rfl) rfl ze_57 hH ?_
    intro b2 w hH
    refine g_seq ?_
    refine g_region (l := [0, 1, 2, 3, 4, 5, 6, 7, 8, 9, 10]) rfl ?_
    refine vM (lv rfl) rfl rfl ?_
    refine o_v (lv rfl) rfl (r_nil rfl) ?_
    refine o_v (lv rfl) rfl (r_fa fa_70_1 rfl) ?_
    refine o_ld (lv rfl) rfl lk_68 rfl ⟨_, _, _, hH.c1, _, rfl, ?_⟩
    refine o_call (lv rfl) rfl en_112 rfl (r09_Serve hok hH.p2) ?_
    rintro _ w ⟨rfl, hH⟩
    rw [hsv] at hH ⊢
    refine vM (lv rfl) rfl rfl ?_
    refine o_v (lv rfl) rfl (r_ex rfl rfl) ?_
    refine o_v (lv rfl) rfl (r_ex rfl rfl) ?_
    refine o_al (lv rfl) rfl ze_54 hH ?_
    intro b3 w hH
    refine o_st (lv rfl) rfl lk_54 rfl (vs := [_, _, _]) rfl rfl (by exact hH) rfl rfl (by simp) rfl ?_
    intro w hH; dsimp only [setL, List.set] at hH
    refine vA (lv rfl) rfl rfl ?_
    refine g_seq ?_
    refine g_seq ?_
    refine g_region (l := [0, 1]) rfl ?_
    refine vM (lv rfl) rfl rfl ?_
    refine o_v (lv rfl) rfl (r_not rfl) ?_
    refine g_true rfl ?_
    refine g_seq ?_
    refine g_region (l := [0, 1]) rfl ?_
    refine o_call (lv rfl) rfl en_72 rfl (r09_code 10 hH) ?_
    rintro _ w ⟨rfl, hH⟩
    refine o_st (lv rfl) rfl lk_57 rfl (vs := [_, _, _, _]) rfl rfl (by exact hH.p2) rfl rfl (by simp) rfl ?_
    intro w hH; dsimp only [setL, List.set] at hH
    refine g_rq Tryz.func76 (res_cell rfl (run_loadVarN (vs := [_, _, _, _]) lk_57 (cells_of hH.c0 rfl)) res_0) ?_
    exact ⟨_, rfl, Holds.vnil _ _ _ (RMdlC.mk (m := { m with s := s' }) (hH.sel (by repeat' (first | exact Sel.refl _ | refine Sel.q2 ?_ | refine Sel.q3 ?_ | refine Sel.skip _ ?_))))⟩
  | some p =>
    have e1 : m.one = (⟨0, [p], 0, 0⟩, { m with s := s', served := m.served + 1 }) := by unfold Mdl.one; rw [hsv]
    rw [e1]
    refine ret_of_g (n := 26) Tryz.func76 rfl rfl (by simp) ?_
    refine g_seq ?_
    refine g_region (l := [0]) rfl ?_
    refine o_al (lv rfl) rfl ze_57 hH ?_
    intro b2 w hH
    refine g_seq ?_
    refine g_region (l := [0, 1, 2, 3, 4, 5, 6, 7, 8, 9, 10]) rfl ?_
    refine vM (lv rfl) rfl rfl ?_
    refine o_v (lv rfl) rfl (r_nil rfl) ?_
    refine o_v (lv rfl) rfl (r_fa fa_70_1 rfl) ?_
    refine o_ld (lv rfl) rfl lk_68 rfl ⟨_, _, _, hH.c1, _, rfl, ?_⟩
    refine o_call (lv rfl) rfl en_112 rfl (r09_Serve hok hH.p2) ?_
    rintro _ w ⟨rfl, hH⟩
    rw [hsv] at hH ⊢
    refine vM (lv rfl) rfl rfl ?_
    refine o_v (lv rfl) rfl (r_ex rfl rfl) ?_
    refine o_v (lv rfl) rfl (r_ex rfl rfl) ?_
    refine o_al (lv rfl) rfl ze_54 hH ?_
    intro b3 w hH
    refine o_st (lv rfl) rfl lk_54 rfl (vs := [_, _, _]) rfl rfl (by exact hH) rfl rfl (by simp) rfl ?_
    intro w hH; dsimp only [setL, List.set] at hH
    refine vA (lv rfl) rfl rfl ?_
    refine g_seq ?_
    refine g_seq ?_
    refine g_region (l := [0, 1]) rfl ?_
    refine vM (lv rfl) rfl rfl ?_
    refine o_v (lv rfl) rfl (r_not rfl) ?_
    refine g_false rfl ?_
    refine g_skip ?_
    refine g_seq ?_
    refine g_region (l := [0, 1, 2, 3, 4, 5, 6, 7]) rfl ?_
    refine vM (lv rfl) rfl rfl ?_
    refine o_v (lv rfl) rfl (r_nil rfl) ?_
    refine o_v (lv rfl) rfl (r_fa fa_70_2 rfl) ?_
    refine o_ld (lv rfl) rfl lk_3 rfl ⟨_, _, _, hH.c3, _, rfl, ?_⟩
    refine o_v (lv rfl) rfl (r_addI rfl rfl ?_) ?_; omega
    refine o_v (lv rfl) rfl (r_nil rfl) ?_
    refine o_v (lv rfl) rfl (r_fa fa_70_2 rfl) ?_
    refine o_st (lv rfl) rfl lk_3 rfl (vs := [_]) rfl rfl (by exact hH.p3) rfl rfl (by simp) rfl ?_
    intro w hH; dsimp only [setL, List.set] at hH
    refine g_seq ?_
    refine g_region (l := [0, 1, 2, 3]) rfl ?_
    refine o_ldN (lv rfl) rfl lk_54 rfl ⟨_, _, _, hH.c1, [_, _, _], rfl, rfl, ?_⟩
    refine o_bs (lv rfl) rfl el_48 ze_54 rfl rfl rfl (ps := [_]) rfl rfl rfl (cs := [_, _, _]) rfl hH ?_
    intro b24 w hH
    refine o_v (lv rfl) rfl (r_bld (ps := [_]) (cs := [_, _, _, _]) pl_57 rfl rfl) ?_
    refine o_st (lv rfl) rfl lk_57 rfl (vs := [_, _, _, _]) rfl rfl (by exact hH.p4) rfl rfl (by simp) rfl ?_
    intro w hH; dsimp only [setL, List.set] at hH
    refine g_rq Tryz.func76 (res_cell rfl (run_loadVarN (vs := [_, _, _, _]) lk_57 (cells_of hH.c0 rfl)) res_0) ?_
    exact ⟨_, rfl, vec_of_cel (enc := encP) (l := [p]) rfl (Holds.p1 (RMdlC.mk (m := { m with s := s', served := m.served + 1 }) (hH.sel (by repeat' (first | exact Sel.refl _ | refine Sel.q1 ?_ | refine Sel.q2 ?_ | refine Sel.q3 ?_ | refine Sel.skip _ ?_)))))⟩
theorem r09_at_some {m : Mdl} {c : Int} : (m.s.at c).isSome = true ↔ 0 ≤ atI (m.s.at c) := by
  cases m.s.at c with
  | none => simp [atI]
  | some k => simp [atI]
theorem r09_Len {b : Nat} {m : Mdl} (hok : m.s.ok) (id : Int) (hH : Holds R (RMdlC b m :: F) w) :
    Ret Tryz.prog 30 [.pointer (some ⟨b, 0, none⟩), .int .i64 id] w fun v w' => v = .int .i64 (m.s.lenAt id) ∧ Holds R (RMdlC b m :: F) w' := by
  obtain ⟨sb, hH⟩ := RMdlC.op hH
  have hlen := hok.2.2.2
  cases hat : m.s.at id with
  | none =>
    have e1 : m.s.lenAt id = -1 := by unfold Sq.lenAt; rw [hat]
    rw [e1]
    refine ret_of_g (n := 28) Tryz.func30 rfl rfl (by simp) ?_
    refine g_seq ?_
    refine g_region (l := [0]) rfl ?_
    refine vA (lv rfl) rfl rfl ?_
    refine g_seq ?_
    refine g_region (l := [0, 1, 2, 3, 4, 5, 6]) rfl ?_
    refine vM (lv rfl) rfl rfl ?_
    refine o_v (lv rfl) rfl (r_nil rfl) ?_
    refine o_v (lv rfl) rfl (r_fa fa_70_1 rfl) ?_
    refine o_ld (lv rfl) rfl lk_68 rfl ⟨_, _, _, hH.c0, _, rfl, ?_⟩
    refine vM (lv rfl) rfl rfl ?_
    refine o_call (lv rfl) rfl en_63 rfl (r09_At hok id hH.p1) ?_
    rintro _ w ⟨rfl, hH⟩
    rw [hat]
    refine vA (lv rfl) rfl rfl ?_
    refine g_seq ?_
    refine g_seq ?_
    refine g_region (l := [0, 1]) rfl ?_
    refine vM (lv rfl) rfl rfl ?_
    refine o_v (lv rfl) rfl (r_lt rfl rfl) ?_
    refine g_if rfl (fun c0 => ?_) (fun c0 => ?_)
    ·refine g_seq ?_
     refine g_region (l := [0]) rfl ?_
     refine vA (lv rfl) rfl rfl ?_
     refine g_rq Tryz.func30 (res_t rfl res_0) ?_
     exact ⟨rfl, RMdlC.mk (hH.sel (by repeat' (first | exact Sel.refl _ | refine Sel.q1 ?_)))⟩
    ·simp [atI] at c0
  | some k =>
    obtain ⟨x, hx, hxi⟩ := Sq.at_spec hat
    have hkl := (List.getElem?_eq_some_iff.1 hx).1
    have e1 : m.s.lenAt id = x.2.l.length := by unfold Sq.lenAt; rw [hat]; simp only [hx]
    rw [e1]
    refine ret_of_g (n := 28) Tryz.func30 rfl rfl (by simp) ?_
    refine g_seq ?_
    refine g_region (l := [0]) rfl ?_
    refine vA (lv rfl) rfl rfl ?_
    refine g_seq ?_
    refine g_region (l := [0, 1, 2, 3, 4, 5, 6]) rfl ?_
    refine vM (lv rfl) rfl rfl ?_
    refine o_v (lv rfl) rfl (r_nil rfl) ?_
    refine o_v (lv rfl) rfl (r_fa fa_70_1 rfl) ?_
    refine o_ld (lv rfl) rfl lk_68 rfl ⟨_, _, _, hH.c0, _, rfl, ?_⟩
    refine vM (lv rfl) rfl rfl ?_
    refine o_call (lv rfl) rfl en_63 rfl (r09_At hok id hH.p1) ?_
    rintro _ w ⟨rfl, hH⟩
    rw [hat]; show OPS _ _ _ _ _ (updO _ _ (.int .i64 (k : Int))) _
    refine vA (lv rfl) rfl rfl ?_
    refine g_seq ?_
    refine g_seq ?_
    refine g_region (l := [0, 1]) rfl ?_
    refine vM (lv rfl) rfl rfl ?_
    refine o_v (lv rfl) rfl (r_lt rfl rfl) ?_
    refine g_if rfl (fun c0 => ?_) (fun c0 => ?_)
    ·omega
    ·obtain ⟨fv, ps, hl, hH⟩ := RSfqC.op hH
     obtain ⟨a, cap, rfl, hc⟩ := hH.p1.rd.len
     obtain ⟨b1, hb1, a1, cap1, hblk⟩ := rflow_at hl hH.p2 hx
     obtain ⟨bp, op_, cs0, T0, rfl, -, -⟩ := Rd.el (i := k) hkPtr hH.p1.rd hb1
     obtain ⟨cs, T, hbp, hcp⟩ := pel hH.p1 hb1
     refine g_skip ?_
     refine g_seq ?_
     refine g_region (l := [0, 1, 2, 3, 4, 5, 6, 7, 8, 9, 10, 11, 12, 13, 14]) rfl ?_
     refine vM (lv rfl) rfl rfl ?_
     refine o_v (lv rfl) rfl (r_nil rfl) ?_
     refine o_v (lv rfl) rfl (r_fa fa_70_1 rfl) ?_
     refine o_ld (lv rfl) rfl lk_68 rfl ⟨_, _, _, hH.c3, _, rfl, ?_⟩
     refine o_v (lv rfl) rfl (r_nil rfl) ?_
     refine o_v (lv rfl) rfl (r_fa fa_67_0 rfl) ?_
     refine o_ld (lv rfl) rfl lk_65 rfl ⟨_, _, _, hH.c0, _, rfl, ?_⟩
     refine vM (lv rfl) rfl rfl ?_
     refine o_v (lv rfl) rfl (r_ia el_65 rfl rfl ?_ ?_) ?_; omega; omega
     refine o_ld (lv rfl) rfl lk_124 rfl ⟨_, _, _, hbp, _, hcp, ?_⟩
     refine o_v (lv rfl) rfl (r_nil rfl) ?_
     refine o_v (lv rfl) rfl (r_fa fa_123_3 rfl) ?_
     refine o_ld (lv rfl) rfl lk_48 rfl ⟨_, _, _, hblk, _, rfl, ?_⟩
     refine o_v (lv rfl) rfl (r_len el_48 rfl) ?_
     refine vA (lv rfl) rfl rfl ?_
     refine g_rq Tryz.func30 (res_t rfl res_0) ?_
     exact ⟨rfl, RMdlC.mk (Holds.p1 (RSfqC.mk hl (hH.sel (by repeat' (first | exact Sel.refl _)))))⟩
theorem r27_rate {b : Nat} {m : Mdl} (hok : m.s.ok) (id : Int) (hH : Holds R (RMdlC b m :: F) w) :
    Ret Tryz.prog 50 [.pointer (some ⟨b, 0, none⟩), .int .i64 id] w fun v w' => v = .int .u64 (m.s.rate id) ∧ Holds R (RMdlC b m :: F) w' := by
  obtain ⟨sb, hH⟩ := RMdlC.op hH
  have hlen := hok.2.2.2
  cases hat : m.s.at id with
  | none =>
    have e1 : m.s.rate id = 0 := by unfold Sq.rate; rw [hat]
    rw [e1]
    refine ret_of_g (n := 27) Tryz.func50 rfl rfl (by simp) ?_
    refine g_seq ?_
    refine g_region (l := [0]) rfl ?_
    refine vA (lv rfl) rfl rfl ?_
    refine g_seq ?_
    refine g_region (l := [0, 1, 2, 3, 4, 5, 6]) rfl ?_
    refine vM (lv rfl) rfl rfl ?_
    refine o_v (lv rfl) rfl (r_nil rfl) ?_
    refine o_v (lv rfl) rfl (r_fa fa_70_1 rfl) ?_
    refine o_ld (lv rfl) rfl lk_68 rfl ⟨_, _, _, hH.c0, _, rfl, ?_⟩
    refine vM (lv rfl) rfl rfl ?_
    refine o_call (lv rfl) rfl en_63 rfl (r09_At hok id hH.p1) ?_
    rintro _ w ⟨rfl, hH⟩
    rw [hat]
    refine vA (lv rfl) rfl rfl ?_
    refine g_seq ?_
    refine g_seq ?_
    refine g_region (l := [0, 1]) rfl ?_
    refine vM (lv rfl) rfl rfl ?_
    refine o_v (lv rfl) rfl (r_lt rfl rfl) ?_
    refine g_if rfl (fun c0 => ?_) (fun c0 => ?_)
    ·refine g_seq ?_
     refine g_region (l := [0]) rfl ?_
     refine vA (lv rfl) rfl rfl ?_
     refine g_rq Tryz.func50 (res_t rfl res_0) ?_
     exact ⟨rfl, RMdlC.mk (hH.sel (by repeat' (first | exact Sel.refl _ | refine Sel.q1 ?_)))⟩
    ·simp [atI] at c0
  | some k =>
    obtain ⟨x, hx, hxi⟩ := Sq.at_spec hat
    have hkl := (List.getElem?_eq_some_iff.1 hx).1
    have e1 : m.s.rate id = x.2.r := by unfold Sq.rate; rw [hat]; simp only [hx]
    rw [e1]
    refine ret_of_g (n := 27) Tryz.func50 rfl rfl (by simp) ?_
    refine g_seq ?_
    refine g_region (l := [0]) rfl ?_
    refine vA (lv rfl) rfl rfl ?_
    refine g_seq ?_
    refine g_region (l := [0, 1, 2, 3, 4, 5, 6]) rfl ?_
    refine vM (lv rfl) rfl rfl ?_
    refine o_v (lv rfl) rfl (r_nil rfl) ?_
    refine o_v (lv rfl) rfl (r_fa fa_70_1 rfl) ?_
    refine o_ld (lv rfl) rfl lk_68 rfl ⟨_, _, _, hH.c0, _, rfl, ?_⟩
    refine vM (lv rfl) rfl rfl ?_
    refine o_call (lv rfl) rfl en_63 rfl (r09_At hok id hH.p1) ?_
    rintro _ w ⟨rfl, hH⟩
    rw [hat]; show OPS _ _ _ _ _ (updO _ _ (.int .i64 (k : Int))) _
    refine vA (lv rfl) rfl rfl ?_
    refine g_seq ?_
    refine g_seq ?_
    refine g_region (l := [0, 1]) rfl ?_
    refine vM (lv rfl) rfl rfl ?_
    refine o_v (lv rfl) rfl (r_lt rfl rfl) ?_
    refine g_if rfl (fun c0 => ?_) (fun c0 => ?_)
    ·omega
    ·obtain ⟨fv, ps, hl, hH⟩ := RSfqC.op hH
     obtain ⟨a, cap, rfl, hc⟩ := hH.p1.rd.len
     obtain ⟨b1, hb1, a1, cap1, hblk⟩ := rflow_at hl hH.p2 hx
     obtain ⟨bp, op_, cs0, T0, rfl, -, -⟩ := Rd.el (i := k) hkPtr hH.p1.rd hb1
     obtain ⟨cs, T, hbp, hcp⟩ := pel hH.p1 hb1
     refine g_skip ?_
     refine g_seq ?_
     refine g_region (l := [0, 1, 2, 3, 4, 5, 6, 7, 8, 9, 10, 11, 12, 13]) rfl ?_
     refine vM (lv rfl) rfl rfl ?_
     refine o_v (lv rfl) rfl (r_nil rfl) ?_
     refine o_v (lv rfl) rfl (r_fa fa_70_1 rfl) ?_
     refine o_ld (lv rfl) rfl lk_68 rfl ⟨_, _, _, hH.c3, _, rfl, ?_⟩
     refine o_v (lv rfl) rfl (r_nil rfl) ?_
     refine o_v (lv rfl) rfl (r_fa fa_67_0 rfl) ?_
     refine o_ld (lv rfl) rfl lk_65 rfl ⟨_, _, _, hH.c0, _, rfl, ?_⟩
     refine vM (lv rfl) rfl rfl ?_
     refine o_v (lv rfl) rfl (r_ia el_65 rfl rfl ?_ ?_) ?_; omega; omega
     refine o_ld (lv rfl) rfl lk_124 rfl ⟨_, _, _, hbp, _, hcp, ?_⟩
     refine o_v (lv rfl) rfl (r_nil rfl) ?_
     refine o_v (lv rfl) rfl (r_fa fa_123_2 rfl) ?_
     refine o_ld (lv rfl) rfl lk_22 rfl ⟨_, _, _, hblk, _, rfl, ?_⟩
     refine vA (lv rfl) rfl rfl ?_
     refine g_rq Tryz.func50 (res_t rfl res_0) ?_
     exact ⟨rfl, RMdlC.mk (Holds.p1 (RSfqC.mk hl (hH.sel (by repeat' (first | exact Sel.refl _)))))⟩
end
end Go.Proofs.YtkdbglfdgeldpaaGreat
