/- Contracts of package sfq. Condition: numbers of 64 bits. -/
import Derived.Test.YtkdbglfdgeldpaaGreatSrt
namespace Go.Proofs.YtkdbglfdgeldpaaGreat
open Go.Lt

abbrev Qs := List (Nat × Int × Flw)
def qkv (q : Nat × Int × Flw) : Int × Value := (q.2.1, .pointer (some ⟨q.1, 0, none⟩))
def qfl (q : Nat × Int × Flw) : HP := FlowC q.1 q.2.2
def qx (Q : Qs) : Fs := Q.map (·.2)
def SfqC (b : Nat) (s : Sq) : HP := ex fun q : Nat × Qs => is ((qx q.2).Perm s.F)
  (All [cel b [.map (some q.1), .int .u64 s.v, .int .u64 s.most] 160, MapC q.1 (q.2.map qkv), All (q.2.map qfl)])
section
variable {R : Base} {F : List HP} {w : World}
theorem SfqC.op {b : Nat} {s : Sq} (h : Holds R (SfqC b s :: F) w) : ∃ mb Q, (qx Q).Perm s.F ∧ ((Q.map qkv).map Prod.fst).Nodup ∧
    Holds R (cel b [.map (some mb), .int .u64 s.v, .int .u64 s.most] 160 :: MapC mb (Q.map qkv) :: All (Q.map qfl) :: F) w := by
  obtain ⟨⟨mb, Q⟩, h⟩ := h.open_ex
  obtain ⟨hl, h⟩ := h.open_is
  replace h := h.all_open
  exact ⟨mb, Q, hl, h.p1.mnodup, h⟩
theorem SfqC.mk {b mb : Nat} {s : Sq} {Q : Qs} (hl : (qx Q).Perm s.F)
    (h : Holds R (cel b [.map (some mb), .int .u64 s.v, .int .u64 s.most] 160 :: MapC mb (Q.map qkv) :: All (Q.map qfl) :: F) w) : Holds R (SfqC b s :: F) w :=
  (Holds.shut_is hl (Holds.all_shut (A := [cel b [.map (some mb), .int .u64 s.v, .int .u64 s.most] 160, MapC mb (Q.map qkv), All (Q.map qfl)]) h)).shut_ex (p := fun q : Nat × Qs => is ((qx q.2).Perm s.F)
    (All [cel b [.map (some q.1), .int .u64 s.v, .int .u64 s.most] 160, MapC q.1 (q.2.map qkv), All (q.2.map qfl)])) (x := (mb, Q))
theorem sfq_New (hH : Holds R F w) :
    Ret Tryz.prog 86 [] w fun v w' => ∃ b, v = .pointer (some ⟨b, 0, none⟩) ∧ Holds R (SfqC b ⟨[], 0, 0⟩ :: F) w' := by
  refine ret_of_g (n := 4) Tryz.func86 rfl rfl (by simp) ?_
  refine g_seq ?_
  refine g_region (l := [0]) rfl ?_
  refine vA (lv rfl) rfl rfl ?_
  refine g_seq ?_
  refine g_region (l := [0, 1, 2, 3]) rfl ?_
  refine o_mm (lv rfl) rfl hH ?_
  intro b1 w hH
  refine o_v (lv rfl) rfl (r_bld (ps := [_]) (cs := [_, _, _]) pl_160 rfl rfl) ?_
  refine o_box (lv rfl) rfl (cs := [_, _, _]) rfl rfl hH ?_
  intro b3 w hH
  refine vA (lv rfl) rfl rfl ?_
  refine g_rq Tryz.func86 (res_t rfl res_0) ?_
  exact ⟨_, rfl, SfqC.mk (s := ⟨[], 0, 0⟩) (Q := []) (List.Perm.refl _) (Holds.p2 (Holds.p2 (Holds.all_nil (hH.sel (by repeat' (first | exact Sel.refl _))))))⟩

/-- No flow: no entry. -/
theorem q_none {s : Sq} {Q : Qs} (hpm : (qx Q).Perm s.F) {id : Int} (h : s.at id = none) : ∀ p ∈ Q.map qkv, p.1 ≠ id := by
  intro p hq
  obtain ⟨q, hq2, rfl⟩ := List.mem_map.1 hq
  exact at_none_ne h q.2 (hpm.subset (List.mem_map_of_mem hq2))
/-- Flow i has an entry. -/
theorem q_some {s : Sq} {Q : Qs} (hpm : (qx Q).Perm s.F) {i : Nat} {x : Int × Flw} (hx : s.F[i]? = some x) : ∃ (j b : Nat), Q[j]? = some (b, x) := by
  obtain ⟨j, hj⟩ := perm_get hpm hx
  unfold qx at hj
  rw [List.getElem?_map] at hj
  cases hq : Q[j]? with
  | none => rw [hq] at hj; cases hj
  | some q => rw [hq] at hj; cases hj; exact ⟨j, q.1, by rw [hq]⟩
theorem q_get {Q : Qs} (hn : ((Q.map qkv).map Prod.fst).Nodup) {j b : Nat} {x : Int × Flw} (hj : Q[j]? = some (b, x)) : mget (Q.map qkv) x.1 = some (.pointer (some ⟨b, 0, none⟩)) :=
  mget_mem hn (List.mem_map.2 ⟨(b, x), List.mem_of_getElem? hj, rfl⟩)
theorem q_kv {Q : Qs} {j b : Nat} {x : Int × Flw} (hj : Q[j]? = some (b, x)) : (Q.map qkv)[j]? = some (x.1, .pointer (some ⟨b, 0, none⟩)) := by rw [List.getElem?_map, hj]; rfl
theorem q_fl {Q : Qs} {j b : Nat} {x : Int × Flw} (hj : Q[j]? = some (b, x)) : (Q.map qfl)[j]? = some (FlowC b x.2) := by rw [List.getElem?_map, hj]; rfl
theorem q_cut {s : Sq} {Q : Qs} (hpm : (qx Q).Perm s.F) {i j b : Nat} {x : Int × Flw} (hx : s.F[i]? = some x) (hj : Q[j]? = some (b, x)) : (qx (Q.eraseIdx j)).Perm (s.cut i).F := by
  unfold qx
  rw [Go.ChangeMaps.map_eraseIdx]
  exact perm_erase hpm (by unfold qx; rw [List.getElem?_map, hj]; rfl) hx
theorem q_put {s : Sq} {Q : Qs} (hpm : (qx Q).Perm s.F) {i j b : Nat} {x : Int × Flw} (hx : s.F[i]? = some x) (hj : Q[j]? = some (b, x)) (f : Flw) : (qx (Q.set j (b, x.1, f))).Perm (s.F.set i (x.1, f)) := by
  unfold qx
  rw [List.map_set]
  exact perm_set hpm (by unfold qx; rw [List.getElem?_map, hj]; rfl) hx _
theorem q_kvset {Q : Qs} {j b : Nat} {x : Int × Flw} (hj : Q[j]? = some (b, x)) (f : Flw) : (Q.set j (b, x.1, f)).map qkv = Q.map qkv := by
  rw [List.map_set]
  apply List.ext_getElem?
  intro m
  rw [List.getElem?_set]
  split
  ·rename_i h; subst h
   have := (List.getElem?_eq_some_iff.1 hj).1
   rw [q_kv hj]; simp [this, qkv]
  ·rfl
theorem q_give {Q : Qs} {j b : Nat} {x : Int × Flw} (hj : Q[j]? = some (b, x)) (f : Flw) (h : Holds R (FlowC b f :: All ((Q.map qfl).eraseIdx j) :: F) w) : Holds R (All ((Q.set j (b, x.1, f)).map qfl) :: F) w := by
  rw [List.map_set]
  exact h.all_give (by have := (List.getElem?_eq_some_iff.1 hj).1; simpa using this)
theorem q_add {s : Sq} {Q : Qs} (hpm : (qx Q).Perm s.F) (b : Nat) (id r m : Int) : (qx (Q ++ [(b, id, newFlw r m)])).Perm (s.add id r m).F := by
  unfold qx Sq.add
  rw [List.map_append]
  simp only [List.map_cons, List.map_nil]
  refine List.perm_append_comm.trans ?_
  simp only [List.singleton_append]
  refine (List.Perm.cons _ hpm).trans ?_
  conv => lhs; rw [← List.takeWhile_append_dropWhile (p := fun x : Int × Flw => decide (x.1 < id)) (l := s.F)]
  exact List.perm_middle.symm

theorem Sq.flw_ok' {s : Sq} (hok : s.ok) {i : Nat} {x : Int × Flw} (hx : s.F[i]? = some x) : Nm x.1 ∧ x.2.ok := hok.1 x (List.mem_of_getElem? hx)
theorem sfq_Add {b : Nat} {s : Sq} (id r m : Int) (hno : s.at id = none) (hH : Holds R (SfqC b s :: F) w) :
    Ret Tryz.prog 120 [.pointer (some ⟨b, 0, none⟩), .int .i64 id, .int .u64 r, .int .i64 m] w fun v w' => v = .bool true ∧ Holds R (SfqC b (s.add id r m) :: F) w' := by
  obtain ⟨mb, Q, hpm, hn, hH⟩ := SfqC.op hH
  refine ret_of_g (n := 24) Tryz.func120 rfl rfl (by simp) ?_
  refine g_seq ?_
  refine g_region (l := [0]) rfl ?_
  refine vA (lv rfl) rfl rfl ?_
  refine g_seq ?_
  refine g_seq ?_
  refine g_region (l := [0, 1, 2, 3, 4, 5, 6]) rfl ?_
  refine vM (lv rfl) rfl rfl ?_
  refine o_v (lv rfl) rfl (r_nil rfl) ?_
  refine o_v (lv rfl) rfl (r_fa fa_160_0 rfl) ?_
  refine o_ld (lv rfl) rfl lk_158 rfl ⟨_, _, _, hH.c0, _, rfl, ?_⟩
  refine vM (lv rfl) rfl rfl ?_
  refine o_v (lv rfl) rfl (r_lkv mp_158 rfl rfl (by exact hH.p1.mrd) (mget_none (q_none hpm hno))) ?_
  refine o_v (lv rfl) rfl (r_nepn pp_169 rfl rfl) ?_
  refine g_false rfl ?_
  refine g_skip ?_
  refine g_seq ?_
  refine rD mixed hH fun w hH => ?_
  refine pM 0 (lv rfl) rfl rfl ?_
  refine pN 1 (lv rfl) rfl rfl ?_
  refine pF 2 (lv rfl) rfl fa_160_0 rfl ?_
  refine d_ld (i := 3) [8] (lv rfl) rfl lk_158 rfl (by kernel_rfl) ⟨_, _, _, hH.c0, _, rfl, ?_⟩
  refine pM 4 (lv rfl) rfl rfl ?_
  refine pM 5 (lv rfl) rfl rfl ?_
  refine pM 6 (lv rfl) rfl rfl ?_
  refine d_l (j := 7) (by kernel_rfl) ?_
  refine o_call (lv rfl) rfl en_136 rfl (flow_New r m hH) ?_
  rintro _ w ⟨b23, rfl, hH⟩
  refine ⟨(keeps_cons (fun _ => (by exact hH.c1)) trivial), ?_⟩
  refine d_l (j := 8) (by kernel_rfl) ?_
  refine o_mu (lv rfl) rfl mp_158 rfl rfl rfl (by exact hH.p2) ?_
  intro w hH
  refine ⟨(keeps_in rfl trivial), ?_⟩
  refine d_end (by kernel_rfl) ?_
  refine g_seq ?_
  refine g_region (l := [0]) rfl ?_
  refine vA (lv rfl) rfl rfl ?_
  refine g_rq Tryz.func120 (res_t rfl res_0) ?_
  rw [mput_new (q_none hpm hno)] at hH
  refine ⟨rfl, SfqC.mk (mb := mb) (s := s.add id r m) (Q := Q ++ [(b23, id, newFlw r m)]) (q_add hpm _ _ _ _) ?_⟩
  rw [List.map_append, List.map_append]
  refine Holds.p2 (Holds.p2 (Holds.all_perm (A := qfl (b23, id, newFlw r m) :: Q.map qfl) (Holds.all_cons ?_) (by simpa using (List.perm_append_comm (l₁ := [qfl (b23, id, newFlw r m)])))))
  show Holds _ (FlowC b23 (newFlw r m) :: All (Q.map qfl) :: _) _
  exact (hH.sel (by repeat' (first | exact Sel.refl _ | refine Sel.q1 ?_ | refine Sel.q2 ?_)))
theorem sfq_Remove {b : Nat} {s : Sq} (id : Int) (hH : Holds R (SfqC b s :: F) w) :
    Ret Tryz.prog 121 [.pointer (some ⟨b, 0, none⟩), .int .i64 id] w fun v w' => v = .int .i64 (s.removeE id) ∧ Holds R (SfqC b (s.removeS id) :: F) w' := by
  obtain ⟨mb, Q, hpm, hn, hH⟩ := SfqC.op hH
  cases hat : s.at id with
  | none =>
    have e1 : s.removeE id = 5 := by unfold Sq.removeE; rw [hat]
    have e2 : s.removeS id = s := by unfold Sq.removeS; rw [hat]
    rw [e1, e2]
    refine ret_of_g (n := 24) Tryz.func121 rfl rfl (by simp) ?_
    refine g_seq ?_
    refine g_region (l := [0]) rfl ?_
    refine vA (lv rfl) rfl rfl ?_
    refine g_seq ?_
    refine g_seq ?_
    refine g_region (l := [0, 1, 2, 3, 4, 5, 6]) rfl ?_
    refine vM (lv rfl) rfl rfl ?_
    refine o_v (lv rfl) rfl (r_nil rfl) ?_
    refine o_v (lv rfl) rfl (r_fa fa_160_0 rfl) ?_
    refine o_ld (lv rfl) rfl lk_158 rfl ⟨_, _, _, hH.c0, _, rfl, ?_⟩
    refine vM (lv rfl) rfl rfl ?_
    refine o_v (lv rfl) rfl (r_lkv mp_158 rfl rfl (by exact hH.p1.mrd) (mget_none (q_none hpm hat))) ?_
    refine vA (lv rfl) rfl rfl ?_
    refine g_block ?_
    refine g_seq ?_
    refine g_region (l := [0, 1, 2]) rfl ?_
    refine vM (lv rfl) rfl rfl ?_
    refine o_v (lv rfl) rfl (r_eqpn pp_169 rfl rfl) ?_
    refine vA (lv rfl) rfl rfl ?_
    refine g_true rfl ?_
    refine g_seq ?_
    refine g_region (l := [0]) rfl ?_
    refine vA (lv rfl) rfl rfl ?_
    refine g_rq Tryz.func121 (res_t rfl res_0) ?_
    exact ⟨rfl, SfqC.mk hpm (hH.sel (by repeat' (first | exact Sel.refl _)))⟩
  | some k =>
    obtain ⟨x, hx, rfl⟩ := Sq.at_spec hat
    have e1 : s.removeE x.1 = if x.2.l.length ≠ 0 then 8 else 0 := by unfold Sq.removeE; rw [hat]; simp only [hx]
    have e2 : s.removeS x.1 = if x.2.l.length ≠ 0 then s else s.cut k := by unfold Sq.removeS; rw [hat]; simp only [hx]
    rw [e1, e2]
    obtain ⟨j, bf, hj⟩ := q_some hpm hx
    replace hH := hH.p2.all_take (q_fl hj)
    refine ret_of_g (n := 24) Tryz.func121 rfl rfl (by simp) ?_
    refine g_seq ?_
    refine g_region (l := [0]) rfl ?_
    refine vA (lv rfl) rfl rfl ?_
    refine g_seq ?_
    refine g_seq ?_
    refine g_region (l := [0, 1, 2, 3, 4, 5, 6]) rfl ?_
    refine vM (lv rfl) rfl rfl ?_
    refine o_v (lv rfl) rfl (r_nil rfl) ?_
    refine o_v (lv rfl) rfl (r_fa fa_160_0 rfl) ?_
    refine o_ld (lv rfl) rfl lk_158 rfl ⟨_, _, _, hH.c2, _, rfl, ?_⟩
    refine vM (lv rfl) rfl rfl ?_
    refine o_v (lv rfl) rfl (r_lkv mp_158 rfl rfl (by exact hH.p3.mrd) (q_get hn hj)) ?_
    refine vA (lv rfl) rfl rfl ?_
    refine g_block ?_
    refine g_seq ?_
    refine g_region (l := [0, 1, 2]) rfl ?_
    refine vM (lv rfl) rfl rfl ?_
    refine o_v (lv rfl) rfl (r_eqpn pp_169 rfl rfl) ?_
    refine vA (lv rfl) rfl rfl ?_
    refine g_false rfl ?_
    refine g_seq ?_
    refine g_region (l := [0, 1, 2, 3]) rfl ?_
    refine vM (lv rfl) rfl rfl ?_
    refine o_call (lv rfl) rfl en_137 rfl (flow_Len hH) ?_
    rintro _ w ⟨rfl, hH⟩
    refine o_v (lv rfl) rfl (r_gt rfl rfl) ?_
    refine vA (lv rfl) rfl rfl ?_
    refine g_if rfl (fun c1 => ?_) (fun c1 => ?_)
    ·refine g_seq ?_
     refine g_region (l := [0]) rfl ?_
     refine vA (lv rfl) rfl rfl ?_
     refine g_rq Tryz.func121 (res_t rfl res_0) ?_
     first
     | (have hne : x.2.l.length ≠ 0 := by omega
        rw [if_pos hne, if_pos hne]; exact ⟨rfl, SfqC.mk hpm (Holds.p2 (Holds.p2 (Holds.all_perm (Holds.all_cons (hH.sel (by repeat' (first | exact Sel.refl _)))) (perm_take (q_fl hj)).symm)))⟩)
     | (have hne : ¬ x.2.l.length ≠ 0 := by omega
        rw [if_neg hne, if_neg hne]
        rw [mdel_at hn (q_kv hj), ← Go.ChangeMaps.map_eraseIdx] at hH
        rw [← Go.ChangeMaps.map_eraseIdx] at hH
        exact ⟨rfl, SfqC.mk (s := s.cut k) (q_cut hpm hx hj) (hH.sel (by repeat' (first | exact Sel.refl _)))⟩)
    ·refine g_skip ?_
     refine g_inBlock ?_
     refine g_seq ?_
     refine g_region (l := [0, 1, 2, 3, 4, 5]) rfl ?_
     refine vM (lv rfl) rfl rfl ?_
     refine o_v (lv rfl) rfl (r_nil rfl) ?_
     refine o_v (lv rfl) rfl (r_fa fa_160_0 rfl) ?_
     refine o_ld (lv rfl) rfl lk_158 rfl ⟨_, _, _, hH.c2, _, rfl, ?_⟩
     refine vM (lv rfl) rfl rfl ?_
     refine o_del (lv rfl) rfl mp_158 rfl rfl (by exact hH.p3) ?_
     intro w hH
     refine g_seq ?_
     refine g_region (l := [0]) rfl ?_
     refine vA (lv rfl) rfl rfl ?_
     refine g_rq Tryz.func121 (res_t rfl res_0) ?_
     first
     | (have hne : x.2.l.length ≠ 0 := by omega
        rw [if_pos hne, if_pos hne]; exact ⟨rfl, SfqC.mk hpm (Holds.p2 (Holds.p2 (Holds.all_perm (Holds.all_cons (hH.sel (by repeat' (first | exact Sel.refl _)))) (perm_take (q_fl hj)).symm)))⟩)
     | (have hne : ¬ x.2.l.length ≠ 0 := by omega
        rw [if_neg hne, if_neg hne]
        rw [mdel_at hn (q_kv hj), ← Go.ChangeMaps.map_eraseIdx] at hH
        rw [← Go.ChangeMaps.map_eraseIdx] at hH
        exact ⟨rfl, SfqC.mk (s := s.cut k) (q_cut hpm hx hj) (hH.sel (by repeat' (first | exact Sel.refl _ | refine Sel.q0 ?_ | refine Sel.q1 ?_ | refine Sel.q3 ?_ | refine Sel.skip _ ?_)))⟩)
theorem sfq_Arrive {b : Nat} {s : Sq} (hok : s.ok) (p : Packet) (hH : Holds R (SfqC b s :: F) w) :
    Ret Tryz.prog 122 [.pointer (some ⟨b, 0, none⟩), vP p] w fun v w' => v = .int .i64 (s.arrive p).1 ∧ Holds R (SfqC b (s.arrive p).2 :: F) w' := by
  obtain ⟨mb, Q, hpm, hn, hH⟩ := SfqC.op hH
  cases hat : s.at p.flow with
  | none =>
    have e1 : s.arrive p = (5, s) := by unfold Sq.arrive; rw [hat]
    rw [e1]
    refine ret_of_g (n := 25) Tryz.func122 rfl rfl (by simp) ?_
    refine g_seq ?_
    refine g_region (l := [0, 1]) rfl ?_
    refine o_box (lv rfl) rfl (cs := [_, _, _]) rfl rfl hH ?_
    intro b3 w hH
    refine vA (lv rfl) rfl rfl ?_
    refine g_seq ?_
    refine g_seq ?_
    refine rD mixed hH fun w hH => ?_
    refine pM 0 (lv rfl) rfl rfl ?_
    refine pN 1 (lv rfl) rfl rfl ?_
    refine pF 2 (lv rfl) rfl fa_160_0 rfl ?_
    refine d_ld (i := 3) [] (lv rfl) rfl lk_158 rfl (by kernel_rfl) ⟨_, _, _, hH.c1, _, rfl, ?_⟩
    refine pF 4 (lv rfl) rfl fa_54_0 rfl ?_
    refine d_ld (i := 5) [] (lv rfl) rfl lk_3 rfl (by kernel_rfl) ⟨_, _, _, hH.c0, _, rfl, ?_⟩
    refine d_q (i := 6) (fun w => MapR _ _ (Go.Lt.hp w)) [] (lv rfl) rfl (fun w hS => r_lkv mp_158 rfl rfl hS (mget_none (q_none hpm hat))) (by exact hH.p2.mrd) (by kernel_rfl) ?_
    refine pA 7 (lv rfl) rfl rfl ?_
    refine d_end (by kernel_rfl) ?_
    refine g_block ?_
    refine g_seq ?_
    refine g_region (l := [0, 1, 2]) rfl ?_
    refine vM (lv rfl) rfl rfl ?_
    refine o_v (lv rfl) rfl (r_eqpn pp_169 rfl rfl) ?_
    refine vA (lv rfl) rfl rfl ?_
    refine g_true rfl ?_
    refine g_seq ?_
    refine g_region (l := [0]) rfl ?_
    refine vA (lv rfl) rfl rfl ?_
    refine g_rq Tryz.func122 (res_t rfl res_0) ?_
    exact ⟨rfl, SfqC.mk hpm (hH.sel (by repeat' (first | exact Sel.refl _ | refine Sel.q1 ?_ | refine Sel.skip _ ?_)))⟩
  | some k =>
    obtain ⟨x, hx, hxi⟩ := Sq.at_spec hat
    have e1 : s.arrive p = if (x.2.l.length : Int) = x.2.most then (9, s) else (0, s.put k (x.1, x.2.arrive s.v p)) := by unfold Sq.arrive; rw [hat]; simp only [hx]
    rw [e1]
    obtain ⟨j, bf, hj⟩ := q_some hpm hx
    replace hH := hH.p2.all_take (q_fl hj)
    refine ret_of_g (n := 25) Tryz.func122 rfl rfl (by simp) ?_
    refine g_seq ?_
    refine g_region (l := [0, 1]) rfl ?_
    refine o_box (lv rfl) rfl (cs := [_, _, _]) rfl rfl hH ?_
    intro b3 w hH
    refine vA (lv rfl) rfl rfl ?_
    refine g_seq ?_
    refine g_seq ?_
    refine rD mixed hH fun w hH => ?_
    refine pM 0 (lv rfl) rfl rfl ?_
    refine pN 1 (lv rfl) rfl rfl ?_
    refine pF 2 (lv rfl) rfl fa_160_0 rfl ?_
    refine d_ld (i := 3) [] (lv rfl) rfl lk_158 rfl (by kernel_rfl) ⟨_, _, _, hH.c3, _, rfl, ?_⟩
    refine pF 4 (lv rfl) rfl fa_54_0 rfl ?_
    refine d_ld (i := 5) [] (lv rfl) rfl lk_3 rfl (by kernel_rfl) ⟨_, _, _, hH.c0, _, rfl, ?_⟩
    refine d_q (i := 6) (fun w => MapR _ _ (Go.Lt.hp w)) [] (lv rfl) rfl (fun w hS => r_lkv mp_158 rfl rfl hS (hxi ▸ q_get hn hj)) (by exact hH.p4.mrd) (by kernel_rfl) ?_
    refine pA 7 (lv rfl) rfl rfl ?_
    refine d_end (by kernel_rfl) ?_
    refine g_block ?_
    refine g_seq ?_
    refine g_region (l := [0, 1, 2]) rfl ?_
    refine vM (lv rfl) rfl rfl ?_
    refine o_v (lv rfl) rfl (r_eqpn pp_169 rfl rfl) ?_
    refine vA (lv rfl) rfl rfl ?_
    refine g_false rfl ?_
    refine g_seq ?_
    refine rD mixed hH fun w hH => ?_
    refine pM 0 (lv rfl) rfl rfl ?_
    refine pM 1 (lv rfl) rfl rfl ?_
    refine pN 2 (lv rfl) rfl rfl ?_
    refine pF 3 (lv rfl) rfl fa_160_1 rfl ?_
    refine d_ld (i := 4) [6] (lv rfl) rfl lk_22 rfl (by kernel_rfl) ⟨_, _, _, hH.c3, _, rfl, ?_⟩
    refine d_ldN (i := 5) [6] (lv rfl) rfl lk_54 rfl (by kernel_rfl) ⟨_, _, _, hH.c0, [_, _, _], rfl, rfl, ?_⟩
    refine d_l (j := 6) (by kernel_rfl) ?_
    refine o_call (lv rfl) rfl en_138 rfl (flow_Arrive (Sq.flw_ok' hok hx).2 s.v p (by exact hH.p1)) ?_
    rintro _ w ⟨rfl, hH⟩
    refine ⟨(keeps_in rfl (keeps_in rfl trivial)), ?_⟩
    refine d_p (i := 7) (lv rfl) rfl (fun w => (r_notD rfl)) (by kernel_rfl) ?_
    refine pA 8 (lv rfl) rfl rfl ?_
    refine d_end (by kernel_rfl) ?_
    refine g_if rfl (fun c1 => ?_) (fun c1 => ?_)
    ·refine g_seq ?_
     refine g_region (l := [0]) rfl ?_
     refine vA (lv rfl) rfl rfl ?_
     refine g_rq Tryz.func122 (res_t rfl res_0) ?_
     first
     | (have hne : (x.2.l.length : Int) = x.2.most := by simpa using c1
        rw [if_pos hne] at hH ⊢
        exact ⟨rfl, SfqC.mk hpm (Holds.p2 (Holds.p2 (Holds.all_perm (Holds.all_cons (hH.sel (by repeat' (first | exact Sel.refl _ | refine Sel.q0 ?_ | refine Sel.q1 ?_ | refine Sel.skip _ ?_)))) (perm_take (q_fl hj)).symm)))⟩)
     | (have hne : ¬ (x.2.l.length : Int) = x.2.most := by simpa using c1
        rw [if_neg hne] at hH ⊢
        refine ⟨rfl, SfqC.mk (mb := mb) (s := s.put k (x.1, x.2.arrive s.v p)) (q_put hpm hx hj _) ?_⟩
        rw [q_kvset hj]
        exact Holds.p2 (Holds.p2 (q_give hj _ (hH.sel (by repeat' (first | exact Sel.refl _))))))
    ·refine g_skip ?_
     refine g_inBlock ?_
     refine g_seq ?_
     refine g_region (l := [0]) rfl ?_
     refine vA (lv rfl) rfl rfl ?_
     refine g_rq Tryz.func122 (res_t rfl res_0) ?_
     first
     | (have hne : (x.2.l.length : Int) = x.2.most := by simpa using c1
        rw [if_pos hne] at hH ⊢
        exact ⟨rfl, SfqC.mk hpm (Holds.p2 (Holds.p2 (Holds.all_perm (Holds.all_cons (hH.sel (by repeat' (first | exact Sel.refl _)))) (perm_take (q_fl hj)).symm)))⟩)
     | (have hne : ¬ (x.2.l.length : Int) = x.2.most := by simpa using c1
        rw [if_neg hne] at hH ⊢
        refine ⟨rfl, SfqC.mk (mb := mb) (s := s.put k (x.1, x.2.arrive s.v p)) (q_put hpm hx hj _) ?_⟩
        rw [q_kvset hj]
        exact Holds.p2 (Holds.p2 (q_give hj _ (hH.sel (by repeat' (first | exact Sel.refl _ | refine Sel.q0 ?_ | refine Sel.q1 ?_ | refine Sel.skip _ ?_))))))
end
end Go.Proofs.YtkdbglfdgeldpaaGreat
