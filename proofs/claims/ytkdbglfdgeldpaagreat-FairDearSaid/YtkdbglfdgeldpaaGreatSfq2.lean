/- Contracts of package sfq: who is served. Condition: numbers of 64 bits. -/
import Derived.Test.YtkdbglfdgeldpaaGreatSfq
namespace Go.Proofs.YtkdbglfdgeldpaaGreat
open Go.Lt

def encE (e : Int × Int) : List Value := [.int .u64 e.1, .int .i64 e.2]
theorem hkE (x : Int × Int) : (encE x).length = 2 := rfl
def vE (e : Int × Int) : Value := .agg #[.int .u64 e.1, .int .i64 e.2]
def fE : Value := .func (.func 105) #[] #[]
def stF (x : Int × Flw) : Int × Int := (x.2.start, x.1)
def ents (F : Fs) : List (Int × Int) := (F.filter fun x => x.2.l.length ≠ 0).map stF
section
variable {R : Base} {F : List HP} {w : World}
def ordI (a b : Int × Int) : Int := if aheadP a.1 a.2 b.1 b.2 then -1 else if a = b then 0 else 1
theorem entry_order (a b : Int × Int) (hH : Holds R F w) :
    Ret Tryz.prog 105 [vE a, vE b] w fun v w' => v = .int .i64 (ordI a b) ∧ Holds R F w' := by
  refine ret_of_g (n := 13) Tryz.func105 rfl rfl (by simp) ?_
  refine g_seq ?_
  refine g_region (l := [0, 1, 2]) rfl ?_
  refine o_box (lv rfl) rfl (cs := [_, _]) rfl rfl hH ?_
  intro b2 w hH
  refine o_box (lv rfl) rfl (cs := [_, _]) rfl rfl hH ?_
  intro b3 w hH
  refine vA (lv rfl) rfl rfl ?_
  refine g_seq ?_
  refine g_block ?_
  refine g_seq ?_
  refine g_region (l := [0, 1, 2, 3]) rfl ?_
  refine o_ldN (lv rfl) rfl lk_164 rfl ⟨_, _, _, hH.c1, [_, _], rfl, rfl, ?_⟩
  refine o_ldN (lv rfl) rfl lk_164 rfl ⟨_, _, _, hH.c0, [_, _], rfl, rfl, ?_⟩
  refine o_call (lv rfl) rfl en_128 rfl (tag_Ahead a.1 a.2 b.1 b.2 hH) ?_
  rintro _ w ⟨rfl, hH⟩
  refine vA (lv rfl) rfl rfl ?_
  refine g_if rfl (fun c0 => ?_) (fun c0 => ?_)
  ·refine g_seq ?_
   refine g_region (l := [0]) rfl ?_
   refine vA (lv rfl) rfl rfl ?_
   refine g_rq Tryz.func105 (res_t rfl res_0) ?_
   first
   | (rw [show ordI a b = -1 from by unfold ordI; rw [if_pos c0]]; exact ⟨rfl, (hH.sel (by repeat' (first | exact Sel.refl _ | refine Sel.skip _ ?_)))⟩)
   | (rw [show ordI a b = 0 from by unfold ordI; rw [if_neg c0, if_pos (by simpa [Prod.ext_iff] using c1)]]; exact ⟨rfl, (hH.sel (by repeat' (first | exact Sel.refl _)))⟩)
   | (rw [show ordI a b = 1 from by unfold ordI; rw [if_neg c0, if_neg (by simpa [Prod.ext_iff] using c1)]]; exact ⟨rfl, (hH.sel (by repeat' (first | exact Sel.refl _)))⟩)
  ·refine g_seq ?_
   refine g_region (l := [0, 1, 2, 3]) rfl ?_
   refine o_ldN (lv rfl) rfl lk_164 rfl ⟨_, _, _, hH.c1, [_, _], rfl, rfl, ?_⟩
   refine o_ldN (lv rfl) rfl lk_164 rfl ⟨_, _, _, hH.c0, [_, _], rfl, rfl, ?_⟩
   refine o_v (lv rfl) rfl (r_eqst fi_164 rfl rfl rfl rfl) ?_
   refine vA (lv rfl) rfl rfl ?_
   refine g_if rfl (fun c1 => ?_) (fun c1 => ?_)
   ·refine g_seq ?_
    refine g_region (l := [0]) rfl ?_
    refine vA (lv rfl) rfl rfl ?_
    refine g_rq Tryz.func105 (res_t rfl res_0) ?_
    first
    | (rw [show ordI a b = -1 from by unfold ordI; rw [if_pos c0]]; exact ⟨rfl, (hH.sel (by repeat' (first | exact Sel.refl _)))⟩)
    | (rw [show ordI a b = 0 from by unfold ordI; rw [if_neg c0, if_pos (by simpa [Prod.ext_iff] using c1)]]; exact ⟨rfl, (hH.sel (by repeat' (first | exact Sel.refl _ | refine Sel.skip _ ?_)))⟩)
    | (rw [show ordI a b = 1 from by unfold ordI; rw [if_neg c0, if_neg (by simpa [Prod.ext_iff] using c1)]]; exact ⟨rfl, (hH.sel (by repeat' (first | exact Sel.refl _)))⟩)
   ·refine g_skip ?_
    refine g_inBlock ?_
    refine g_seq ?_
    refine g_region (l := [0]) rfl ?_
    refine vA (lv rfl) rfl rfl ?_
    refine g_rq Tryz.func105 (res_t rfl res_0) ?_
    first
    | (rw [show ordI a b = -1 from by unfold ordI; rw [if_pos c0]]; exact ⟨rfl, (hH.sel (by repeat' (first | exact Sel.refl _)))⟩)
    | (rw [show ordI a b = 0 from by unfold ordI; rw [if_neg c0, if_pos (by simpa [Prod.ext_iff] using c1)]]; exact ⟨rfl, (hH.sel (by repeat' (first | exact Sel.refl _)))⟩)
    | (rw [show ordI a b = 1 from by unfold ordI; rw [if_neg c0, if_neg (by simpa [Prod.ext_iff] using c1)]]; exact ⟨rfl, (hH.sel (by repeat' (first | exact Sel.refl _ | refine Sel.skip _ ?_)))⟩)
theorem Rd.elN {α : Type} {enc : α → List Value} {k : Nat} (hk : ∀ x, (enc x).length = k) {b off m cap : Nat} {l : List α} {h : Hp} (hr : Rd enc (.slice (some ⟨b, off, none⟩) m cap) l h) {i : Nat} {x : α} (hi : l[i]? = some x) :
    ∃ (cs : List Value) (T : Nat × Nat × Nat), h b = some (.cells cs.toArray T.1 T.2) ∧ (cs.drop (off + i * k)).take (enc x).length = enc x := by
  obtain ⟨cs, T, h1, h2⟩ := Rd.el' hk hr hi
  exact ⟨cs, T, h1, dt_of h2⟩
def isMin (E : List (Int × Int)) (m : Int × Int) : Prop := m ∈ E ∧ ∀ e ∈ E, e = m ∨ aheadP m.1 m.2 e.1 e.2
theorem isMin_snoc {E : List (Int × Int)} {m x : Int × Int} (h : isMin E m) : isMin (E ++ [x]) (if ordI x m < 0 then x else m) := by
  unfold ordI
  by_cases ha : aheadP x.1 x.2 m.1 m.2
  ·rw [if_pos ha, if_pos (by omega)]
   refine ⟨by simp, fun e he => ?_⟩
   rcases List.mem_append.1 he with he | he
   ·right
    rcases h.2 e he with rfl | h2
    ·exact ha
    ·unfold aheadP at *; omega
   ·exact .inl (List.mem_singleton.1 he)
  ·rw [if_neg ha]
   have hx : x = m ∨ aheadP m.1 m.2 x.1 x.2 := by
     by_cases he : x = m
     ·exact .inl he
     ·right
      have : ¬ (x.1 = m.1 ∧ x.2 = m.2) := fun h => he (Prod.ext h.1 h.2)
      unfold aheadP at *; omega
   have hn : ¬ (if x = m then (0 : Int) else 1) < 0 := by split <;> omega
   rw [if_neg hn]
   refine ⟨List.mem_append.2 (.inl h.1), fun e he => ?_⟩
   rcases List.mem_append.1 he with he | he
   ·exact h.2 e he
   ·rw [List.mem_singleton.1 he]; exact hx
theorem slices_MinFunc {x : Value} {E : List (Int × Int)} (hne : E ≠ []) (hlen : E.length ≤ 2147483648) (hH : Holds R (Vec 164 2 encE x E :: F) w) :
    Ret Tryz.prog 139 [x, fE] w fun v w' => ∃ m, v = vE m ∧ isMin E m ∧ Holds R (Vec 164 2 encE x E :: F) w' := by
  obtain ⟨a, cap, rfl, hc⟩ := hH.rd.len
  have hpos : 0 < E.length := List.length_pos_iff.2 hne
  obtain ⟨e0, he0⟩ : ∃ e0, E[0]? = some e0 := ⟨_, List.getElem?_eq_getElem hpos⟩
  obtain ⟨bp, op_, cs0, T0, rfl, -, -⟩ := Rd.el (i := 0) hkE hH.rd he0
  refine ret_of_g (n := 33) Tryz.func139 rfl rfl (by simp) ?_
  refine g_seq ?_
  refine g_region (l := [0]) rfl ?_
  refine o_al (lv rfl) rfl ze_164 hH ?_
  intro b4 w hH
  refine g_seq ?_
  refine g_seq ?_
  refine g_region (l := [0, 1, 2]) rfl ?_
  refine vM (lv rfl) rfl rfl ?_
  refine o_v (lv rfl) rfl (r_len el_161 rfl) ?_
  refine o_v (lv rfl) rfl (r_lt rfl rfl) ?_
  refine g_if rfl (fun c0 => ?_) (fun c0 => ?_)
  ·omega
  ·refine g_skip ?_
   refine g_seq ?_
   obtain ⟨cs, T, hbp, hcp⟩ := Rd.elN hkE hH.p1.rd he0
   refine g_region (l := [0, 1, 2, 3, 4]) rfl ?_
   refine vM (lv rfl) rfl rfl ?_
   refine o_v (lv rfl) rfl (r_ia el_161 rfl rfl ?_ ?_) ?_; omega; omega
   refine o_ldN (lv rfl) rfl lk_164 rfl ⟨_, _, _, hbp, _, hcp, rfl, ?_⟩
   refine o_al (lv rfl) rfl ze_164 hH ?_
   intro b5 w hH
   refine o_st (lv rfl) rfl lk_164 rfl (vs := [_, _]) rfl rfl (by exact hH) rfl rfl (by simp) rfl ?_
   intro w hH; dsimp only [setL, List.set] at hH
   refine g_seq ?_
   refine g_seq ?_
   refine g_region (l := [0]) rfl ?_
   refine vA (lv rfl) rfl rfl ?_
   refine g_block ?_
   refine g_loop (fun mm e w => ∃ (k : Nat) (e1 : Env) (m : Int × Int), 1 ≤ k ∧ k ≤ E.length ∧ mm = E.length - k ∧ isMin (E.take k) m ∧ e = J e1 [(0, .slice (some ⟨bp, op_, none⟩) E.length cap), (1, fE), (4, .pointer (some ⟨b4, 0, none⟩)), (5, .pointer (some ⟨b5, 0, none⟩)), (6, .int .i64 k)] ∧
       Holds R (cel b5 [.int .u64 m.1, .int .i64 m.2] 164 :: cel b4 [.int .u64 0, .int .i64 0] 164 :: Vec 164 2 encE (.slice (some ⟨bp, op_, none⟩) E.length cap) E :: F) w) (E.length - 1) ⟨1, _, e0, by omega, by omega, by omega, ?_, (J_self (has_s rfl (has_s rfl (has_s rfl (has_s rfl (has_s rfl has_0)))))), hH⟩ ?_
   ·rw [List.take_add_one]; simp only [List.take_zero, List.nil_append, he0, Option.toList_some]; exact ⟨by simp, by simp⟩
   rintro mm _ w ⟨k, e1, m, hk1, hk, hm, hmin, rfl, hH⟩ hback
   refine g_seq ?_
   refine g_seq ?_
   refine g_region (l := [0, 1, 2, 3]) rfl ?_
   refine vM (lv rfl) rfl rfl ?_
   refine vM (lv rfl) rfl rfl ?_
   refine o_v (lv rfl) rfl (r_len el_161 rfl) ?_
   refine o_v (lv rfl) rfl (r_lt rfl rfl) ?_
   refine g_if rfl (fun c1 => ?_) (fun c1 => ?_)
   ·have hkl : k < E.length := by omega
    obtain ⟨y, hy⟩ : ∃ y, E[k]? = some y := ⟨_, List.getElem?_eq_getElem hkl⟩
    obtain ⟨cs, T, hbp, hcp⟩ := Rd.elN hkE hH.p2.rd hy
    refine g_skip ?_
    refine g_seq ?_
    refine g_block ?_
    refine g_seq ?_
    refine g_regionD mixed ?_
    rintro w1 rfl; replace hH := hH.drew (n := w.drawn + 1); replace hbp := drewf (n := w.drawn + 1) hbp; generalize hw1 : { w with drawn := w.drawn + 1 } = w at hH ⊢; rw [hw1] at hbp; clear hw1
    refine pM 0 (lv rfl) rfl rfl ?_
    refine pM 1 (lv rfl) rfl rfl ?_
    refine pM 2 (lv rfl) rfl rfl ?_
    refine d_p (i := 3) (lv rfl) rfl (fun w => (r_ia el_161 rfl rfl ?_ ?_)) (by kernel_rfl) ?_; omega; omega
    refine d_ldN (i := 4) [6] (lv rfl) rfl lk_164 rfl (by kernel_rfl) ⟨_, _, _, hbp, _, hcp, rfl, ?_⟩
    refine d_ldN (i := 5) [6] (lv rfl) rfl lk_164 rfl (by kernel_rfl) ⟨_, _, _, hH.c0, [_, _], rfl, rfl, ?_⟩
    refine d_l (j := 6) (by kernel_rfl) ?_
    refine o_callv (lv rfl) rfl (first := []) (cap := []) rfl en_105 rfl rfl (entry_order y m hH) ?_
    rintro _ w ⟨rfl, hH⟩
    refine ⟨(keeps_in rfl (keeps_in rfl trivial)), ?_⟩
    refine d_p (i := 7) (lv rfl) rfl (fun w => (r_lt rfl rfl)) (by kernel_rfl) ?_
    refine d_end (by kernel_rfl) ?_
    refine g_if rfl (fun c2 => ?_) (fun c2 => ?_)
    ·obtain ⟨cs, T, hbp, hcp⟩ := Rd.elN hkE hH.p2.rd hy
     refine g_region (l := [0, 1, 2, 3, 4]) rfl ?_
     refine vM (lv rfl) rfl rfl ?_
     refine vM (lv rfl) rfl rfl ?_
     refine o_v (lv rfl) rfl (r_ia el_161 rfl rfl ?_ ?_) ?_; omega; omega
     refine o_ldN (lv rfl) rfl lk_164 rfl ⟨_, _, _, hbp, _, hcp, rfl, ?_⟩
     refine o_st (lv rfl) rfl lk_164 rfl (vs := [_, _]) rfl rfl (by exact hH) rfl rfl (by simp) rfl ?_
     intro w hH; dsimp only [setL, List.set] at hH
     refine g_inBlock ?_
     refine g_region (l := [0, 1, 2]) rfl ?_
     refine vM (lv rfl) rfl rfl ?_
     refine o_v (lv rfl) rfl (r_addI rfl rfl ?_) ?_; omega
     refine vA (lv rfl) rfl rfl ?_
     have hm2 := isMin_snoc (x := y) hmin
     rw [show E.take k ++ [y] = E.take (k + 1) from by rw [List.take_add_one, hy]; rfl] at hm2
     (rw [if_pos c2] at hm2
      exact hback _ _ _ ⟨k + 1, _, y, by omega, by omega, rfl, hm2, (J_self (has_s rfl (has_s rfl (has_s rfl (has_s rfl (has_s rfl has_0)))))), hH⟩ (by omega))
    ·refine g_skip ?_
     refine g_inBlock ?_
     refine g_region (l := [0, 1, 2]) rfl ?_
     refine vM (lv rfl) rfl rfl ?_
     refine o_v (lv rfl) rfl (r_addI rfl rfl ?_) ?_; omega
     refine vA (lv rfl) rfl rfl ?_
     have hm2 := isMin_snoc (x := y) hmin
     rw [show E.take k ++ [y] = E.take (k + 1) from by rw [List.take_add_one, hy]; rfl] at hm2
     (rw [if_neg c2] at hm2
      exact hback _ _ _ ⟨k + 1, _, m, by omega, by omega, rfl, hm2, (J_self (has_s rfl (has_s rfl (has_s rfl (has_s rfl (has_s rfl has_0)))))), hH⟩ (by omega))
   ·refine g_exit rfl ?_
    refine g_seq ?_
    refine g_region (l := [0, 1]) rfl ?_
    refine o_ldN (lv rfl) rfl lk_164 rfl ⟨_, _, _, hH.c0, [_, _], rfl, rfl, ?_⟩
    refine o_st (lv rfl) rfl lk_164 rfl (vs := [_, _]) rfl rfl (by exact hH.p1) rfl rfl (by simp) rfl ?_
    intro w hH; dsimp only [setL, List.set] at hH
    refine g_rq Tryz.func139 (res_cell rfl (run_loadVarN (vs := [_, _]) lk_164 (cells_of hH.c0 rfl)) res_0) ?_
    rw [show E.take k = E from List.take_of_length_le (by omega)] at hmin
    exact ⟨m, rfl, hmin, (hH.sel (by repeat' (first | exact Sel.refl _ | refine Sel.q2 ?_ | refine Sel.skip _ ?_)))⟩
theorem perm_lift {α : Type} {f : α → Int × Value} {Q D : List α} (hn : ((Q.map f).map Prod.fst).Nodup) (hs : ∀ q ∈ D, q ∈ Q) (hpm : (D.map f).Perm (Q.map f)) : D.Perm Q := by
  have key : ∀ {A : List α}, ((A.map f).map Prod.fst).Nodup → A.Nodup := fun {A} h => by
    rw [List.map_map, List.Nodup, List.pairwise_map] at h
    exact h.imp fun h e => h (by rw [e])
  have hn2 : ((D.map f).map Prod.fst).Nodup := (hpm.map Prod.fst).nodup_iff.2 hn
  refine (List.perm_ext_iff_of_nodup (key hn2) (key hn)).2 fun q => ⟨hs q, fun hq => ?_⟩
  have : f q ∈ D.map f := hpm.symm.subset (List.mem_map_of_mem hq)
  obtain ⟨q', hq', he⟩ := List.mem_map.1 this
  have : q' = q := by
    have h1 := hs q' hq'
    clear hpm hn2 hs
    induction Q with
    | nil => cases hq
    | cons a Q ih =>
      simp only [List.map_cons, List.nodup_cons] at hn
      rcases List.mem_cons.1 hq with rfl | hq2
      ·rcases List.mem_cons.1 h1 with rfl | h2
       ·rfl
       ·exact absurd (List.mem_map.2 ⟨f q', List.mem_map_of_mem h2, by rw [he]⟩) hn.1
      ·rcases List.mem_cons.1 h1 with rfl | h2
       ·exact absurd (List.mem_map.2 ⟨f q, List.mem_map_of_mem hq2, by rw [he]⟩) hn.1
       ·exact ih hn.2 hq2 h2
  rw [← this]; exact hq'
theorem q_put_back {Q : Qs} {j : Nat} {q : Nat × Int × Flw} (hj : Q[j]? = some q) (h : Holds R (FlowC q.1 q.2.2 :: All ((Q.map qfl).eraseIdx j) :: F) w) : Holds R (All (Q.map qfl) :: F) w :=
  Holds.all_perm (Holds.all_cons h) (perm_take (q_fl (b := q.1) (x := q.2) hj)).symm
theorem ents_snoc (D : Fs) (x : Int × Flw) : ents (D ++ [x]) = if x.2.l.length ≠ 0 then ents D ++ [stF x] else ents D := by
  unfold ents
  rw [List.filter_append, List.map_append]
  split
  ·rename_i h
   simp only [List.filter_cons, List.filter_nil, ne_eq, h, not_false_eq_true, decide_true, if_true, List.map_cons, List.map_nil]
  ·rename_i h
   simp only [ne_eq, Decidable.not_not] at h
   simp only [List.filter_cons, List.filter_nil, ne_eq, h, not_true_eq_false, decide_false, Bool.false_eq_true, if_false, List.map_nil, List.append_nil]
theorem sfq_entries {b : Nat} {s : Sq} (hlen : s.F.length ≤ 2147483648) (hH : Holds R (SfqC b s :: F) w) :
    Ret Tryz.prog 103 [.pointer (some ⟨b, 0, none⟩)] w fun v w' => ∃ E, E.Perm (ents s.F) ∧ Holds R (Vec 164 2 encE v E :: SfqC b s :: F) w' := by
  obtain ⟨mb, Q, hpm, hn, hH⟩ := SfqC.op hH
  have hQl : Q.length = s.F.length := by have := hpm.length_eq; simpa [qx] using this
  refine ret_of_g (n := 31) Tryz.func103 rfl rfl (by simp) ?_
  refine g_seq ?_
  refine g_region (l := [0]) rfl ?_
  refine vA (lv rfl) rfl rfl ?_
  refine g_seq ?_
  refine g_region (l := [0]) rfl ?_
  refine vA (lv rfl) rfl rfl ?_
  refine g_seq ?_
  refine g_seq ?_
  refine g_region (l := [0, 1, 2, 3, 4]) rfl ?_
  refine vM (lv rfl) rfl rfl ?_
  refine o_v (lv rfl) rfl (r_nil rfl) ?_
  refine o_v (lv rfl) rfl (r_fa fa_160_0 rfl) ?_
  refine o_ld (lv rfl) rfl lk_158 rfl ⟨_, _, _, hH.c0, _, rfl, ?_⟩
  refine o_rg (lv rfl) rfl mp_158 rfl (by exact hH.p1) ?_
  intro r12 w hH
  refine g_block ?_
  refine g_loop (fun mm e w => ∃ (D : Qs) (e0 : Env) (lv : Value), (∀ q ∈ D, q ∈ Q) ∧ D.length ≤ Q.length ∧ mm = Q.length - D.length ∧ e = J e0 [(0, .pointer (some ⟨b, 0, none⟩)), (3, lv), (12, .pointer (some ⟨r12, 0, none⟩))] ∧
      Holds R (RngC mb r12 (Q.map qkv) (D.map qkv) :: Vec 164 2 encE lv (ents (qx D)) :: cel b [.map (some mb), .int .u64 s.v, .int .u64 s.most] 160 :: All (Q.map qfl) :: F) w) Q.length ⟨[], _, _, by simp, by simp, by simp, (J_self (has_s rfl (has_s rfl (has_s rfl has_0)))), Holds.p1 (Holds.vnil _ _ _ (hH.sel (by repeat' (first | exact Sel.refl _))))⟩ ?_
  rintro mm _ w ⟨D, e0, lv, hD1, hD2, hm, rfl, hH⟩ hback
  obtain ⟨av, capv, rfl, -⟩ := hH.p1.rd.len
  refine g_seq ?_
  refine g_region (l := [0, 1]) rfl ?_
  refine o_nx (lv rfl) rfl rfl (by exact hH) (fun hD => ?_) (fun pn w hpn hnpn hltn hH => ?_)
  ·refine o_v (lv rfl) rfl (r_ex rfl rfl) ?_
   refine g_seq ?_
   refine g_false rfl ?_
   refine g_exit rfl ?_
   refine g_seq ?_
   refine g_region (l := [0, 1]) rfl ?_
   refine vM (lv rfl) rfl rfl ?_
   refine vA (lv rfl) rfl rfl ?_
   refine g_rq Tryz.func103 (res_t rfl res_0) ?_
   have hDQ := perm_lift hn hD1 hD
   refine ⟨ents (qx D), ?_, ?_⟩
   ·unfold ents
    have h1 : (qx D).Perm (qx Q) := hDQ.map _
    exact ((h1.trans hpm).filter _).map _
   ·exact Holds.p1 (SfqC.mk hpm (Holds.p1 (RngC.fin (hH.sel (by repeat' (first | exact Sel.refl _ | refine Sel.q0 ?_ | refine Sel.q1 ?_))))))
  ·obtain ⟨q, hq, rfl⟩ := List.mem_map.1 hpn
   obtain ⟨j, hj⟩ := List.getElem?_of_mem hq
   rw [List.length_map, List.length_map] at hltn
   have hel : (ents (qx D)).length ≤ D.length := by unfold ents qx; rw [List.length_map]; exact Nat.le_trans (List.length_filter_le _ _) (by simp)
   have hDq : ∀ q' ∈ D ++ [q], q' ∈ Q := fun q' h => by
     rcases List.mem_append.1 h with h | h
     ·exact hD1 q' h
     ·rw [List.mem_singleton.1 h]; exact hq
   have hsn := ents_snoc (qx D) q.2
   rw [show qx D ++ [q.2] = qx (D ++ [q]) from by unfold qx; simp] at hsn
   refine o_v (lv rfl) rfl (r_ex rfl rfl) ?_
   refine g_seq ?_
   refine g_true rfl ?_
   refine g_skip ?_
   refine g_block ?_
   refine g_seq ?_
   refine g_region (l := [0, 1, 2, 3, 4]) rfl ?_
   refine o_en (lv rfl) rfl rfl (by exact hH) ?_
   refine o_v (lv rfl) rfl (r_ex rfl rfl) ?_
   refine o_v (lv rfl) rfl (r_ex rfl rfl) ?_
   refine vA (lv rfl) rfl rfl ?_
   refine vA (lv rfl) rfl rfl ?_
   refine g_seq ?_
   replace hH := hH.p3.all_take (q_fl (b := q.1) (x := q.2) hj)
   refine g_region (l := [0, 1, 2, 3, 4, 5, 6]) rfl ?_
   refine vM (lv rfl) rfl rfl ?_
   refine o_call (lv rfl) rfl en_125 rfl (flow_Start hH) ?_
   rintro _ w ⟨rfl, hH⟩
   refine vM (lv rfl) rfl rfl ?_
   refine o_v (lv rfl) rfl (r_ex rfl rfl) ?_
   refine o_v (lv rfl) rfl (r_ex rfl rfl) ?_
   refine vA (lv rfl) rfl rfl ?_
   refine vA (lv rfl) rfl rfl ?_
   refine g_seq ?_
   refine g_region (l := [0]) rfl ?_
   refine vM (lv rfl) rfl rfl ?_
   refine g_if rfl (fun c1 => ?_) (fun c1 => ?_)
   ·have c1' : ¬ q.2.2.l.length = 0 := by simpa using c1
    rw [if_neg c1']
    refine g_region (l := [0, 1, 2, 3, 4, 5, 6]) rfl ?_
    refine vM (lv rfl) rfl rfl ?_
    refine vM (lv rfl) rfl rfl ?_
    refine vM (lv rfl) rfl rfl ?_
    refine o_v (lv rfl) rfl (r_bld (ps := [_, _]) (cs := [_, _]) pl_164 rfl rfl) ?_
    refine o_bs (lv rfl) rfl el_161 ze_164 rfl rfl rfl (ps := [_]) rfl rfl rfl (cs := [_, _]) rfl hH ?_
    intro b28 w hH
    refine o_app (enc := encE) (lv rfl) rfl el_161 ze_164 rfl (fun _ => rfl) (fun _ => rfl) rfl rfl (by exact hH.p4) (rd_of_cel [stF q.2] (by exact hH.c0) rfl) (by simp; omega) (by simp; omega) ?_
    intro v29 w hH; obtain ⟨a29, k29, rfl, -⟩ := hH.rd.len
    refine vA (lv rfl) rfl rfl ?_
    refine g_inBlock ?_
    (have c1' : q.2.2.l.length ≠ 0 := by simpa using c1
     rw [if_pos c1'] at hsn
     refine hback _ _ _ ⟨D ++ [q], _, _, hDq, by simp; omega, rfl, (J_self (has_s rfl (has_s rfl (has_s rfl has_0)))), ?_⟩ (by simp; omega)
     rw [List.map_append, hsn]
     exact Holds.p3 (Holds.p3 (Holds.p3 (q_put_back hj (hH.sel (by repeat' (first | exact Sel.refl _ | refine Sel.q0 ?_ | refine Sel.q1 ?_ | refine Sel.q2 ?_ | refine Sel.skip _ ?_)))))))
   ·refine g_skip ?_
    refine g_inBlock ?_
    (have c1' : ¬ q.2.2.l.length ≠ 0 := by simpa using c1
     rw [if_neg c1'] at hsn
     refine hback _ _ _ ⟨D ++ [q], _, _, hDq, by simp; omega, rfl, (J_self (has_s rfl (has_s rfl (has_s rfl has_0)))), ?_⟩ (by simp; omega)
     rw [List.map_append, hsn]
     exact Holds.p3 (Holds.p3 (Holds.p3 (q_put_back hj (hH.sel (by repeat' (first | exact Sel.refl _)))))))
theorem mem_ents {Fl : Fs} {e : Int × Int} (h : e ∈ ents Fl) : ∃ (i : Nat) (x : Int × Flw), Fl[i]? = some x ∧ x.2.l.length ≠ 0 ∧ e = stF x := by
  unfold ents at h
  obtain ⟨x, hx, rfl⟩ := List.mem_map.1 h
  obtain ⟨h1, h2⟩ := List.mem_filter.1 hx
  obtain ⟨i, hi⟩ := List.getElem?_of_mem h1
  exact ⟨i, x, hi, by simpa using h2, rfl⟩
theorem ents_mem {Fl : Fs} {i : Nat} {x : Int × Flw} (hx : Fl[i]? = some x) (hl : x.2.l.length ≠ 0) : stF x ∈ ents Fl :=
  List.mem_map.2 ⟨x, List.mem_filter.2 ⟨List.mem_of_getElem? hx, by simpa using hl⟩, rfl⟩
/-- The least entry is the flow that is served. -/
theorem best_min {Fl : Fs} (hs : Fl.Pairwise (fun a b => a.1 < b.1)) {E : List (Int × Int)} (hE : E.Perm (ents Fl)) {m : Int × Int} (hm : isMin E m) : ∃ (i : Nat) (x : Int × Flw), bestB Fl Fl.length = some i ∧ Fl[i]? = some x ∧ x.2.l.length ≠ 0 ∧ m = stF x := by
  obtain ⟨i, x, hx, hl, rfl⟩ := mem_ents (hE.subset hm.1)
  obtain ⟨b1, b2⟩ := bestB_spec hs Fl.length (Nat.le_refl _)
  have hi := (List.getElem?_eq_some_iff.1 hx).1
  cases hb : bestB Fl Fl.length with
  | none => exact absurd (b1 hb i x hi hx) hl
  | some i2 =>
    obtain ⟨z, hz1, hz2, hz3⟩ := b2 i2 hb
    have he : z = x := by
      rcases hz3 i x hi hx hl with h | h
      ·exact h.symm
      ·rcases hm.2 (stF z) (hE.symm.subset (ents_mem hz1 hz2)) with h2 | h2
       ·have h3 : z.1 = x.1 := congrArg Prod.snd h2
        have := key_idx hs hz1 hx h3
        subst this
        rw [hz1] at hx; cases hx; rfl
       ·simp only [stF] at h2; unfold aheadP at *; omega
    subst he
    exact ⟨i2, z, rfl, hz1, hz2, rfl⟩
theorem best_none {Fl : Fs} (h : ents Fl = []) : bestB Fl Fl.length = none := by
  cases hb : bestB Fl Fl.length with
  | none => rfl
  | some i =>
    obtain ⟨_, x, hx, hl⟩ := bestB_lt _ _ _ hb
    have := ents_mem hx hl
    rw [h] at this; cases this
theorem sfq_Serve {b : Nat} {s : Sq} (hok : s.ok) (hs : s.srt) (hH : Holds R (SfqC b s :: F) w) :
    Ret Tryz.prog 123 [.pointer (some ⟨b, 0, none⟩)] w fun v w' => v = .tuple #[vP (s.serve.1.getD ⟨0, 0, 0⟩), .bool s.serve.1.isSome] ∧ Holds R (SfqC b s.serve.2 :: F) w' := by
  have hlen := hok.2.2.2
  refine ret_of_g (n := 56) Tryz.func123 rfl rfl (by simp) ?_
  refine g_seq ?_
  refine g_region (l := [0, 1]) rfl ?_
  refine o_al (lv rfl) rfl ze_54 hH ?_
  intro b2 w hH
  refine vA (lv rfl) rfl rfl ?_
  refine g_seq ?_
  refine g_region (l := [0, 1, 2]) rfl ?_
  refine vM (lv rfl) rfl rfl ?_
  refine o_call (lv rfl) rfl en_103 rfl (sfq_entries hlen hH.p1) ?_
  rintro _ w ⟨E, hE, hH⟩
  obtain ⟨av, capv, rfl, -⟩ := hH.rd.len
  refine vA (lv rfl) rfl rfl ?_
  refine g_seq ?_
  refine g_seq ?_
  refine g_region (l := [0, 1, 2]) rfl ?_
  refine vM (lv rfl) rfl rfl ?_
  refine o_v (lv rfl) rfl (r_len el_161 rfl) ?_
  refine o_v (lv rfl) rfl (r_eq rfl rfl) ?_
  refine g_if rfl (fun c0 => ?_) (fun c0 => ?_)
  ·have hEl : E.length ≤ s.F.length := by rw [hE.length_eq]; unfold ents; rw [List.length_map]; exact List.length_filter_le _ _
   obtain ⟨mb, Q, hpm, hn, hH⟩ := SfqC.op hH.p1
   refine g_seq ?_
   refine rD mixed hH fun w hH => ?_
   refine pM 0 (lv rfl) rfl rfl ?_
   refine pM 1 (lv rfl) rfl rfl ?_
   refine pN 2 (lv rfl) rfl rfl ?_
   refine pF 3 (lv rfl) rfl fa_160_1 rfl ?_
   refine d_ld (i := 4) [12] (lv rfl) rfl lk_22 rfl (by kernel_rfl) ⟨_, _, _, hH.c0, _, rfl, ?_⟩
   refine pM 5 (lv rfl) rfl rfl ?_
   refine pN 6 (lv rfl) rfl rfl ?_
   refine pF 7 (lv rfl) rfl fa_160_2 rfl ?_
   refine d_ld (i := 8) [12] (lv rfl) rfl lk_22 rfl (by kernel_rfl) ⟨_, _, _, hH.c0, _, rfl, ?_⟩
   refine d_p (i := 9) (lv rfl) rfl (fun w => (r_max2 rfl rfl)) (by kernel_rfl) ?_
   refine pN 10 (lv rfl) rfl rfl ?_
   refine pF 11 (lv rfl) rfl fa_160_1 rfl ?_
   refine d_l (j := 12) (by kernel_rfl) ?_
   refine o_st (lv rfl) rfl lk_22 rfl (vs := [_]) rfl rfl (by exact hH) rfl rfl (by simp) rfl ?_
   intro w hH; dsimp only [setL, List.set] at hH
   refine ⟨(keeps_in rfl (keeps_in rfl trivial)), ?_⟩
   refine d_end (by kernel_rfl) ?_
   refine g_seq ?_
   refine g_region (l := [0, 1, 2]) rfl ?_
   refine o_v (lv rfl) rfl (r_bld (ps := []) (cs := [_, _, _]) pl_54 rfl rfl) ?_
   refine o_st (lv rfl) rfl lk_54 rfl (vs := [_, _, _]) rfl rfl (by exact hH.p4) rfl rfl (by simp) rfl ?_
   intro w hH; dsimp only [setL, List.set] at hH
   refine vA (lv rfl) rfl rfl ?_
   refine g_rq Tryz.func123 (res_cell rfl (run_loadVarN (vs := [_, _, _]) lk_54 (cells_of hH.c0 rfl)) (res_t rfl res_0)) ?_
   have hE0 : E = [] := by
     cases E with
     | nil => rfl
     | cons a E => simp at c0; omega
   have hn0 : ents s.F = [] := by rw [hE0] at hE; exact hE.symm.eq_nil
   rw [show s.serve = (none, { s with v := max s.v s.most }) from by unfold Sq.serve; rw [best_none hn0]]
   exact ⟨rfl, SfqC.mk (s := { s with v := max s.v s.most }) hpm (hH.sel (by repeat' (first | exact Sel.refl _ | refine Sel.q1 ?_ | refine Sel.skip _ ?_)))⟩
  ·have hEl : E.length ≤ s.F.length := by rw [hE.length_eq]; unfold ents; rw [List.length_map]; exact List.length_filter_le _ _
   have hne : E ≠ [] := fun h => by rw [h] at c0; simp at c0
   refine g_skip ?_
   refine g_seq ?_
   refine g_region (l := [0, 1, 2, 3]) rfl ?_
   refine vM (lv rfl) rfl rfl ?_
   refine o_call (lv rfl) rfl en_139 rfl (slices_MinFunc hne (by omega) hH) ?_
   rintro _ w ⟨m, rfl, hmin, hH⟩
   obtain ⟨i, x, hb, hx, hxl, rfl⟩ := best_min hs hE hmin
   refine o_al (lv rfl) rfl ze_164 hH ?_
   intro b5 w hH
   refine o_st (lv rfl) rfl lk_164 rfl (vs := [_, _]) rfl rfl (by exact hH) rfl rfl (by simp) rfl ?_
   intro w hH; dsimp only [setL, List.set] at hH
   refine g_seq ?_
   obtain ⟨mb, Q, hpm, hn, hH⟩ := SfqC.op hH.p2
   obtain ⟨j, bf, hj⟩ := q_some hpm hx
   obtain ⟨p, l, hpl⟩ : ∃ p l, x.2.l = p :: l := by
     cases h : x.2.l with
     | nil => rw [h] at hxl; simp at hxl
     | cons p l => exact ⟨p, l, rfl⟩
   replace hH := hH.p2.all_take (q_fl hj)
   refine g_region (l := [0, 1, 2, 3, 4, 5]) rfl ?_
   refine vM (lv rfl) rfl rfl ?_
   refine o_v (lv rfl) rfl (r_fa fa_164_0 rfl) ?_
   refine o_ld (lv rfl) rfl lk_22 rfl ⟨_, _, _, hH.c4, _, rfl, ?_⟩
   refine o_v (lv rfl) rfl (r_nil rfl) ?_
   refine o_v (lv rfl) rfl (r_fa fa_160_1 rfl) ?_
   refine o_st (lv rfl) rfl lk_22 rfl (vs := [_]) rfl rfl (by exact hH.p2) rfl rfl (by simp) rfl ?_
   intro w hH; dsimp only [setL, List.set] at hH
   refine g_seq ?_
   refine rD mixed hH fun w hH => ?_
   refine pM 0 (lv rfl) rfl rfl ?_
   refine pN 1 (lv rfl) rfl rfl ?_
   refine pF 2 (lv rfl) rfl fa_160_0 rfl ?_
   refine d_ld (i := 3) [7, 13] (lv rfl) rfl lk_158 rfl (by kernel_rfl) ⟨_, _, _, hH.c0, _, rfl, ?_⟩
   refine pF 4 (lv rfl) rfl fa_164_1 rfl ?_
   refine d_ld (i := 5) [7, 13] (lv rfl) rfl lk_3 rfl (by kernel_rfl) ⟨_, _, _, hH.c4, _, rfl, ?_⟩
   refine d_q (i := 6) (fun w => MapR _ _ (Go.Lt.hp w)) [7, 13] (lv rfl) rfl (fun w hS => r_lkv mp_158 rfl rfl hS (q_get hn hj)) (by exact hH.p3.mrd) (by kernel_rfl) ?_
   refine d_l2 (j := 7) (j2 := 12) (by kernel_rfl) ?_ ?_
   ·refine o_call (lv rfl) rfl en_140 rfl (flow_Serve1 (Sq.flw_ok' hok hx).2 hpl (by exact hH.p1)) ?_
    rintro _ w ⟨rfl, hH⟩
    refine ⟨(keeps_in rfl (keeps_in rfl (keeps_in rfl trivial))), ?_⟩
    refine pM 8 (lv rfl) rfl rfl ?_
    refine pE 9 (lv rfl) rfl rfl rfl ?_
    refine pE 10 (lv rfl) rfl rfl rfl ?_
    refine pE 11 (lv rfl) rfl rfl rfl ?_
    refine d_l (j := 12) (by kernel_rfl) ?_
    refine o_al (lv rfl) rfl ze_54 hH ?_
    intro b6 w hH
    refine ⟨(keeps_cons (fun _ => (by exact hH.p4.mrd)) (keeps_cons (fun _ => (by exact hH.c5)) (keeps_cons (fun _ => (by exact hH.c2)) trivial))), ?_⟩
    refine d_l (j := 13) (by kernel_rfl) ?_
    refine o_st (lv rfl) rfl lk_54 rfl (vs := [_, _, _]) rfl rfl (by exact hH) rfl rfl (by simp) rfl ?_
    intro w hH; dsimp only [setL, List.set] at hH
    refine ⟨(keeps_in rfl (keeps_in rfl (keeps_in rfl trivial))), ?_⟩
    refine pA 14 (lv rfl) rfl rfl ?_
    refine pA 15 (lv rfl) rfl rfl ?_
    refine d_end (by kernel_rfl) ?_
    refine g_seq ?_
    refine g_region (l := [0, 1, 2, 3, 4, 5, 6, 7, 8, 9]) rfl ?_
    refine vM (lv rfl) rfl rfl ?_
    refine vM (lv rfl) rfl rfl ?_
    refine o_v (lv rfl) rfl (r_nil rfl) ?_
    refine o_v (lv rfl) rfl (r_fa fa_160_2 rfl) ?_
    refine o_ld (lv rfl) rfl lk_22 rfl ⟨_, _, _, hH.c2, _, rfl, ?_⟩
    refine vM (lv rfl) rfl rfl ?_
    refine o_v (lv rfl) rfl (r_max2 rfl rfl) ?_
    refine o_v (lv rfl) rfl (r_nil rfl) ?_
    refine o_v (lv rfl) rfl (r_fa fa_160_2 rfl) ?_
    refine o_st (lv rfl) rfl lk_22 rfl (vs := [_]) rfl rfl (by exact hH.p2) rfl rfl (by simp) rfl ?_
    intro w hH; dsimp only [setL, List.set] at hH
    refine g_seq ?_
    refine g_region (l := [0, 1, 2]) rfl ?_
    refine o_ldN (lv rfl) rfl lk_54 rfl ⟨_, _, _, hH.c1, [_, _, _], rfl, rfl, ?_⟩
    refine o_st (lv rfl) rfl lk_54 rfl (vs := [_, _, _]) rfl rfl (by exact hH.p7) rfl rfl (by simp) rfl ?_
    intro w hH; dsimp only [setL, List.set] at hH
    refine vA (lv rfl) rfl rfl ?_
    refine g_rq Tryz.func123 (res_cell rfl (run_loadVarN (vs := [_, _, _]) lk_54 (cells_of hH.c0 rfl)) (res_t rfl res_0)) ?_
    rw [show s.serve = (some p, { F := s.F.set i (x.1, x.2.serve p), v := x.2.start, most := max s.most (x.2.fin p) }) from by unfold Sq.serve; rw [hb]; simp only [hx, hpl]]
    refine ⟨rfl, SfqC.mk (mb := mb) (s := { F := s.F.set i (x.1, x.2.serve p), v := x.2.start, most := max s.most (x.2.fin p) }) (q_put hpm hx hj _) ?_⟩
    rw [q_kvset hj]
    exact Holds.p2 (Holds.p2 (q_give hj _ (hH.sel (by repeat' (first | exact Sel.refl _ | refine Sel.q1 ?_ | refine Sel.q2 ?_ | refine Sel.q3 ?_ | refine Sel.skip _ ?_)))))
   ·refine o_al (lv rfl) rfl ze_54 hH ?_
    intro b6 w hH
    refine ⟨(keeps_cons (fun _ => (by exact hH.p4.mrd)) (keeps_cons (fun _ => (by exact hH.c5)) (keeps_cons (fun _ => (by exact hH.c1)) trivial))), ?_⟩
    refine d_l (j := 7) (by kernel_rfl) ?_
    refine o_call (lv rfl) rfl en_140 rfl (flow_Serve1 (Sq.flw_ok' hok hx).2 hpl (by exact hH.p2)) ?_
    rintro _ w ⟨rfl, hH⟩
    refine ⟨(keeps_in rfl (keeps_in rfl (keeps_in rfl trivial))), ?_⟩
    refine pM 8 (lv rfl) rfl rfl ?_
    refine pE 9 (lv rfl) rfl rfl rfl ?_
    refine pE 10 (lv rfl) rfl rfl rfl ?_
    refine pE 11 (lv rfl) rfl rfl rfl ?_
    refine d_l (j := 13) (by kernel_rfl) ?_
    refine o_st (lv rfl) rfl lk_54 rfl (vs := [_, _, _]) rfl rfl (by exact hH.p1) rfl rfl (by simp) rfl ?_
    intro w hH; dsimp only [setL, List.set] at hH
    refine ⟨(keeps_in rfl (keeps_in rfl (keeps_in rfl trivial))), ?_⟩
    refine pA 14 (lv rfl) rfl rfl ?_
    refine pA 15 (lv rfl) rfl rfl ?_
    refine d_end (by kernel_rfl) ?_
    refine g_seq ?_
    refine g_region (l := [0, 1, 2, 3, 4, 5, 6, 7, 8, 9]) rfl ?_
    refine vM (lv rfl) rfl rfl ?_
    refine vM (lv rfl) rfl rfl ?_
    refine o_v (lv rfl) rfl (r_nil rfl) ?_
    refine o_v (lv rfl) rfl (r_fa fa_160_2 rfl) ?_
    refine o_ld (lv rfl) rfl lk_22 rfl ⟨_, _, _, hH.c2, _, rfl, ?_⟩
    refine vM (lv rfl) rfl rfl ?_
    refine o_v (lv rfl) rfl (r_max2 rfl rfl) ?_
    refine o_v (lv rfl) rfl (r_nil rfl) ?_
    refine o_v (lv rfl) rfl (r_fa fa_160_2 rfl) ?_
    refine o_st (lv rfl) rfl lk_22 rfl (vs := [_]) rfl rfl (by exact hH.p2) rfl rfl (by simp) rfl ?_
    intro w hH; dsimp only [setL, List.set] at hH
    refine g_seq ?_
    refine g_region (l := [0, 1, 2]) rfl ?_
    refine o_ldN (lv rfl) rfl lk_54 rfl ⟨_, _, _, hH.c1, [_, _, _], rfl, rfl, ?_⟩
    refine o_st (lv rfl) rfl lk_54 rfl (vs := [_, _, _]) rfl rfl (by exact hH.p7) rfl rfl (by simp) rfl ?_
    intro w hH; dsimp only [setL, List.set] at hH
    refine vA (lv rfl) rfl rfl ?_
    refine g_rq Tryz.func123 (res_cell rfl (run_loadVarN (vs := [_, _, _]) lk_54 (cells_of hH.c0 rfl)) (res_t rfl res_0)) ?_
    rw [show s.serve = (some p, { F := s.F.set i (x.1, x.2.serve p), v := x.2.start, most := max s.most (x.2.fin p) }) from by unfold Sq.serve; rw [hb]; simp only [hx, hpl]]
    refine ⟨rfl, SfqC.mk (mb := mb) (s := { F := s.F.set i (x.1, x.2.serve p), v := x.2.start, most := max s.most (x.2.fin p) }) (q_put hpm hx hj _) ?_⟩
    rw [q_kvset hj]
    exact Holds.p2 (Holds.p2 (q_give hj _ (hH.sel (by repeat' (first | exact Sel.refl _ | refine Sel.q1 ?_ | refine Sel.q2 ?_ | refine Sel.q3 ?_ | refine Sel.skip _ ?_)))))
end
end Go.Proofs.YtkdbglfdgeldpaaGreat
