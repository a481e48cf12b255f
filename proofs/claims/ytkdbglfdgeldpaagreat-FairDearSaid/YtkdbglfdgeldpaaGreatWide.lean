/- Contract of package play: a plan that may be. Condition: the lists are only read. -/
import Derived.Test.YtkdbglfdgeldpaaGreatPlay
namespace Go.Proofs.YtkdbglfdgeldpaaGreat
open Go.Lt
abbrev Ql := List (Option Addr × Nat × List Call)
def fQ (q : Option Addr × Nat × List Call) : Value := .slice q.1 q.2.2.length q.2.1
def encQ (q : Option Addr × Nat × List Call) : List Value := [fQ q]
theorem hkQ (x : Option Addr × Nat × List Call) : (encQ x).length = 1 := rfl
def qch (q : Option Addr × Nat × List Call) : HP := Vec 46 4 encC (.slice q.1 q.2.2.length q.2.1) q.2.2
def ListsC (v : Value) (ls : List (List Call)) : HP := ex fun q : Nat × Ql => is (v = .slice (some ⟨q.1, 0, none⟩) q.2.length q.2.length ∧ q.2.map (·.2.2) = ls) (All [cel q.1 (flat encQ q.2) 39, All (q.2.map qch)])
theorem setL_flat1 {α : Type} {enc : α → List Value} {f : α → Value} (hf : ∀ x, enc x = [f x]) {l : List α} {off i : Nat} {x : α} (ho : off = i) : setL (flat enc l) off [f x] = flat enc (l.set i x) := by
  subst ho
  have e : ∀ l : List α, flat enc l = l.map f := fun l => by
    induction l with
    | nil => rfl
    | cons y l ih => simp only [flat, List.flatMap_cons, hf, List.map_cons, List.cons_append, List.nil_append] at ih ⊢; rw [ih]
  rw [e, e, List.map_set]; rfl
theorem flat_at1 {α : Type} {enc : α → List Value} {f : α → Value} (hf : ∀ x, enc x = [f x]) {l : List α} {off i : Nat} {x : α} (ho : off = i) (hx : l[i]? = some x) : (flat enc l)[off]? = some (f x) := by
  subst ho
  have e : ∀ l : List α, flat enc l = l.map f := fun l => by
    induction l with
    | nil => rfl
    | cons y l ih => simp only [flat, List.flatMap_cons, hf, List.map_cons, List.cons_append, List.nil_append] at ih ⊢; rw [ih]
  rw [e, List.getElem?_map, hx]; rfl
theorem flat_rep {α : Type} (enc : α → List Value) (x : α) : ∀ n, flat enc (List.replicate n x) = flat (fun _ : Unit => enc x) (List.replicate n ())
  | 0 => rfl
  | n + 1 => by
    have ih := flat_rep enc x n
    simp only [flat, List.replicate_succ, List.flatMap_cons] at ih ⊢
    rw [ih]
def lsOk (Q : Ql) (m : Nat) : Prop := ∀ q ∈ Q, (∀ c ∈ q.2.2, c.ok) ∧ q.2.2.length ≤ m
theorem lsOk.set {Q : Ql} {m : Nat} (h : lsOk Q m) {m' : Nat} (hm : m ≤ m') {i : Nat} {q : Option Addr × Nat × List Call} (h1 : ∀ c ∈ q.2.2, c.ok) (h2 : q.2.2.length ≤ m') : lsOk (Q.set i q) m' := by
  intro x hx
  rcases List.mem_or_eq_of_mem_set hx with h' | h'
  ·exact ⟨(h x h').1, by have := (h x h').2; omega⟩
  ·subst h'; exact ⟨h1, h2⟩
/-- A slice that may be read, or one of nothing that points anywhere. -/
def Rw {α : Type} (enc : α → List Value) (v : Value) (l : List α) : HP := fun h => Rd enc v l h ∨ (l = [] ∧ ∃ a, v = .slice a 0 0)
theorem Rw.len {α : Type} {enc : α → List Value} {v : Value} {l : List α} {h : Hp} (hr : Rw enc v l h) : ∃ a cap, v = .slice a l.length cap ∧ l.length ≤ cap := by
  rcases hr with hr | ⟨rfl, a, rfl⟩
  ·exact hr.len
  ·exact ⟨a, 0, rfl, Nat.le_refl _⟩
theorem Rw.rd {α : Type} {enc : α → List Value} {v : Value} {l : List α} {h : Hp} (hr : Rw enc v l h) {i : Nat} {x : α} (hi : l[i]? = some x) : Rd enc v l h := by
  rcases hr with hr | ⟨rfl, a, rfl⟩
  ·exact hr
  ·simp at hi
def WLists (v : Value) (ls : List (List Call)) : HP := fun h => ∃ vs : List Value, vs.length = ls.length ∧ Rd encV v vs h ∧ ∀ (i : Nat) (x : Value) (l : List Call), vs[i]? = some x → ls[i]? = some l → Rw encC x l h
section
variable {R : Base} {F : List HP} {w : World}
theorem ListsC.mk {b : Nat} {Q : Ql} (h : Holds R (cel b (flat encQ Q) 39 :: All (Q.map qch) :: F) w) : Holds R (ListsC (.slice (some ⟨b, 0, none⟩) Q.length Q.length) (Q.map (·.2.2)) :: F) w :=
  (Holds.shut_is ⟨rfl, rfl⟩ (Holds.all_shut (A := [cel b (flat encQ Q) 39, All (Q.map qch)]) h)).shut_ex (p := fun q : Nat × Ql => is (Value.slice (some ⟨b, 0, none⟩) Q.length Q.length = .slice (some ⟨q.1, 0, none⟩) q.2.length q.2.length ∧ q.2.map (·.2.2) = Q.map (·.2.2)) (All [cel q.1 (flat encQ q.2) 39, All (q.2.map qch)])) (x := (b, Q))
theorem ListsC.op {v : Value} {ls : List (List Call)} (h : Holds R (ListsC v ls :: F) w) : ∃ b Q, v = .slice (some ⟨b, 0, none⟩) Q.length Q.length ∧ Q.map (·.2.2) = ls ∧ Holds R (cel b (flat encQ Q) 39 :: All (Q.map qch) :: F) w := by
  obtain ⟨⟨b, Q⟩, h⟩ := h.open_ex
  obtain ⟨⟨h1, h2⟩, h⟩ := h.open_is
  exact ⟨b, Q, h1, h2, h.all_open⟩
theorem flat_encV (Q : Ql) : flat encV (Q.map fQ) = flat encQ Q := by
  induction Q with
  | nil => rfl
  | cons q Q ih => simp only [flat, List.map_cons, List.flatMap_cons] at ih ⊢; rw [ih]; rfl
theorem ListsC.rl {v : Value} {ls : List (List Call)} (h : Holds R (ListsC v ls :: F) w) : RLists v ls (hp w) := by
  obtain ⟨b, Q, hv, hl, h2⟩ := ListsC.op h
  clear h
  subst hv hl
  refine ⟨Q.map fQ, by simp, ?_, ?_⟩
  ·have := rd_of_cel (enc := encV) (Q.map fQ) h2.cell (flat_encV Q)
   rwa [List.length_map] at this
  ·intro i x l hx hl
   rw [List.getElem?_map] at hx hl
   cases hq : Q[i]? with
   | none => rw [hq] at hx; cases hx
   | some q =>
     rw [hq] at hx hl
     cases hx; cases hl
     have hqc : (Q.map qch)[i]? = some (qch q) := by rw [List.getElem?_map, hq]; rfl
     have h2 : Holds R (Vec 46 4 encC (.slice q.1 q.2.2.length q.2.1) q.2.2 :: _) w := h2.p1.all_take hqc
     exact h2.rd
theorem all_rep (n : Nat) (h : Holds R F w) : Holds R (All ((List.replicate n ((none, 0, []) : Option Addr × Nat × List Call)).map qch) :: F) w := by
  induction n with
  | zero => exact h.all_nil
  | succ n ih =>
    rw [List.replicate_succ, List.map_cons]
    exact Holds.all_cons (ih.put (Vec.nil _ _ _ _))
set_option maxHeartbeats 1000000 in
theorem play_Wide {lv : Value} {ls : List (List Call)} (c : Config) (h1 : I c.shards) (h2 : I c.slots) (h3 : I c.workers) (h4 : I c.width) (h5 : U c.unit) (hP : WLists lv ls R.h) (hls : ls.length ≤ 9223372036854775807 ∧ ∀ l ∈ ls, l.length ≤ 9223372036854775807 ∧ ∀ c ∈ l, c.ok) (most : Int) (hH : Holds R F w) :
    Ret Tryz.prog 10 [vCfg c, lv, .int .i64 most] w fun x w' => ∃ c' v ls', x = vPlan c' v ∧ cfgOk c' ∧ listsOk ls' ∧ (ls'.length : Int) = c'.workers ∧ (∀ l ∈ ls', l.length ≤ 157) ∧ Holds R (ListsC v ls' :: F) w' := by
  obtain ⟨vs, hvs, hrd, hin⟩ := hP
  obtain ⟨a0, cap0, rfl, hcap⟩ := hrd.len
  have bw := md_b c.width (n := 4) (by omega)
  refine ret_of_g (n := 79) Tryz.func10 rfl rfl (by simp) ?_
  refine g_seq ?_
  refine g_region (l := [0, 1]) rfl ?_
  refine o_box (lv rfl) rfl (cs := [_, _, _, _, _]) rfl rfl hH ?_
  intro b3 w hH
  refine o_al (lv rfl) rfl ze_28 hH ?_
  intro b6 w hH
  refine g_seq ?_
  refine g_region (l := [0, 1, 2, 3, 4]) rfl ?_
  refine o_v (lv rfl) rfl (r_fa fa_24_3 rfl) ?_
  refine o_ld (lv rfl) rfl lk_3 rfl ⟨_, _, _, hH.c1, _, rfl, ?_⟩
  refine o_call (lv rfl) rfl en_12 rfl (play_Mod _ _ h4 (by omega) (by omega) hH) ?_
  rintro _ w ⟨rfl, hH⟩
  refine o_v (lv rfl) rfl (r_gt rfl rfl) ?_
  refine vA (lv rfl) rfl rfl ?_
  refine g_seq ?_
  refine g_region (l := [0, 1, 2]) rfl ?_
  refine o_ldN (lv rfl) rfl lk_24 rfl ⟨_, _, _, hH.c1, [_, _, _, _, _], rfl, rfl, ?_⟩
  refine o_call (lv rfl) rfl en_39 rfl (play_Config c h1 h2 h3 h4 h5 hH) ?_
  rintro _ w ⟨⟨cg1, cg2, cg3, cg4, cg5⟩, rfl, hcfg, hH⟩
  refine o_st (lv rfl) rfl lk_24 rfl (vs := [_, _, _, _, _]) rfl rfl (by exact hH.p1) rfl rfl (by simp) rfl ?_
  intro w hH; dsimp only [setL, List.set] at hH
  obtain ⟨N, rfl⟩ : ∃ N : Nat, cg3 = N := ⟨cg3.toNat, by unfold cfgOk at hcfg; dsimp only at hcfg; omega⟩
  have hcfg' := hcfg
  unfold cfgOk at hcfg'
  dsimp only at hcfg'
  refine g_seq ?_
  refine g_join (fun e w => ∃ (e0 : Env) (b8 b22 : Nat) (Q : Ql), Q = List.replicate N (none, 0, []) ∧ e = J e0 [(1, .slice a0 vs.length cap0), (2, .int .i64 most), (3, .pointer (some ⟨b3, 0, none⟩)), (6, .pointer (some ⟨b6, 0, none⟩)), (8, .pointer (some ⟨b8, 0, none⟩)), (7, .bool (decide (0 < md c.width 4)))] ∧ Holds R (cel b22 (flat encQ Q) 39 :: All (Q.map qch) :: cel b8 [.int .i64 cg1, .int .i64 cg2, .int .i64 (N : Int), .int .i64 cg4, .int .u64 cg5, .slice (some ⟨b22, 0, none⟩) N N] 28 :: cel b6 [.int .i64 0, .int .i64 0, .int .i64 0, .int .i64 0, .int .u64 0, .slice none 0 0] 28 :: cel b3 [.int .i64 cg1, .int .i64 cg2, .int .i64 (N : Int), .int .i64 cg4, .int .u64 cg5] 24 :: F) w) (fun kk hkk => ?_) ?_
  ·refine rD mixed hH fun w hH => ?_
   refine d_ldN (i := 0) [6] (lv rfl) rfl lk_24 rfl (by kernel_rfl) ⟨_, _, _, hH.c0, [_, _, _, _, _], rfl, rfl, ?_⟩
   refine pF 1 (lv rfl) rfl fa_24_2 rfl ?_
   refine d_ld (i := 2) [3, 6] (lv rfl) rfl lk_3 rfl (by kernel_rfl) ⟨_, _, _, hH.c0, _, rfl, ?_⟩
   refine d_l2 (j := 3) (j2 := 5) (by kernel_rfl) ?_ ?_
   ·refine o_mk (lv rfl) rfl el_25 ze_39 rfl rfl rfl rfl (by omega) (by omega) (by omega) hH ?_; intro b22 w hH
    refine ⟨(keeps_in rfl (keeps_cons (fun _ => (by exact hH.c1)) trivial)), ?_⟩
    refine d_p (i := 4) (lv rfl) rfl (fun w => (r_bld (ps := [_, _]) (cs := [_, _, _, _, _, _]) pl_28 rfl rfl)) (by kernel_rfl) ?_
    refine d_l (j := 5) (by kernel_rfl) ?_
    refine o_al (lv rfl) rfl ze_28 hH ?_
    intro b8 w hH
    refine ⟨(keeps_cons (fun _ => (by exact hH.c2)) (keeps_cons (fun _ => (by exact hH.c2)) trivial)), ?_⟩
    refine d_l (j := 6) (by kernel_rfl) ?_
    refine o_st (lv rfl) rfl lk_28 rfl (vs := [_, _, _, _, _, _]) rfl rfl (by exact hH) rfl rfl (by simp) rfl ?_
    intro w hH; dsimp only [setL, List.set] at hH
    refine ⟨(keeps_in rfl (keeps_in rfl trivial)), ?_⟩
    refine d_end (by kernel_rfl) ?_
    refine hkk _ _ ⟨_, _, b22, _, rfl, (J_self (has_s rfl (has_s rfl (has_s rfl (has_s rfl (has_s rfl (has_s rfl has_0))))))), ?_⟩
    rw [flat_rep encQ]
    exact Holds.p1 (all_rep N (hH.sel (by repeat' (first | exact Sel.refl _ | refine Sel.q0 ?_ | refine Sel.q1 ?_))))
   ·refine o_al (lv rfl) rfl ze_28 hH ?_
    intro b8 w hH
    refine ⟨(keeps_cons (fun _ => (by exact hH.c1)) (keeps_cons (fun _ => (by exact hH.c1)) trivial)), ?_⟩
    refine d_l (j := 3) (by kernel_rfl) ?_
    refine o_mk (lv rfl) rfl el_25 ze_39 rfl rfl rfl rfl (by omega) (by omega) (by omega) hH ?_; intro b22 w hH
    refine ⟨(keeps_in rfl (keeps_cons (fun _ => (by exact hH.c2)) trivial)), ?_⟩
    refine d_p (i := 4) (lv rfl) rfl (fun w => (r_bld (ps := [_, _]) (cs := [_, _, _, _, _, _]) pl_28 rfl rfl)) (by kernel_rfl) ?_
    refine d_l (j := 6) (by kernel_rfl) ?_
    refine o_st (lv rfl) rfl lk_28 rfl (vs := [_, _, _, _, _, _]) rfl rfl (by exact hH.p1) rfl rfl (by simp) rfl ?_
    intro w hH; dsimp only [setL, List.set] at hH
    refine ⟨(keeps_in rfl (keeps_in rfl trivial)), ?_⟩
    refine d_end (by kernel_rfl) ?_
    refine hkk _ _ ⟨_, _, b22, _, rfl, (J_self (has_s rfl (has_s rfl (has_s rfl (has_s rfl (has_s rfl (has_s rfl has_0))))))), ?_⟩
    rw [flat_rep encQ]
    exact Holds.p1 (all_rep N (hH.sel (by repeat' (first | exact Sel.refl _ | refine Sel.q0 ?_ | refine Sel.q1 ?_))))
  ·rintro _ w ⟨e0, b8, b22, Q, hQ, rfl, hH⟩
   have hQN : Q.length = N := by rw [hQ]; simp
   have hQok : lsOk Q 100 := by
     intro q hq
     rw [hQ] at hq
     rw [List.eq_of_mem_replicate hq]; simp
   clear hQ
   refine g_seq ?_
   refine g_seq ?_
   refine g_region (l := [0]) rfl ?_
   refine vM (lv rfl) rfl rfl ?_
   refine g_join (fun e w => ∃ (e0 : Env) (Q : Ql), Q.length = N ∧ lsOk Q 100 ∧ e = J e0 [(1, .slice a0 vs.length cap0), (2, .int .i64 most), (3, .pointer (some ⟨b3, 0, none⟩)), (6, .pointer (some ⟨b6, 0, none⟩)), (8, .pointer (some ⟨b8, 0, none⟩))] ∧ Holds R (cel b22 (flat encQ Q) 39 :: All (Q.map qch) :: cel b8 [.int .i64 cg1, .int .i64 cg2, .int .i64 (N : Int), .int .i64 cg4, .int .u64 cg5, .slice (some ⟨b22, 0, none⟩) N N] 28 :: cel b6 [.int .i64 0, .int .i64 0, .int .i64 0, .int .i64 0, .int .u64 0, .slice none 0 0] 28 :: cel b3 [.int .i64 cg1, .int .i64 cg2, .int .i64 (N : Int), .int .i64 cg4, .int .u64 cg5] 24 :: F) w) (fun kk hkk => ?_) ?_
   ·refine g_if rfl (fun c0 => ?_) (fun c0 => ?_)
    ·refine rD mixed hH fun w hH => ?_
     refine pF 0 (lv rfl) rfl fa_28_1 rfl ?_
     refine d_ld (i := 1) [4] (lv rfl) rfl lk_25 rfl (by kernel_rfl) ⟨_, _, _, hH.c2, _, rfl, ?_⟩
     refine d_l (j := 2) (by kernel_rfl) ?_
     refine o_call (lv rfl) rfl en_40 rfl (play_Ready 3 (by omega) hH) ?_
     rintro _ w ⟨l0, hl0, hll0, hH⟩
     obtain ⟨ra, rcap, rfl, -⟩ := hH.rd.len
     refine ⟨(keeps_cons (fun _ => (by exact hH.c3)) trivial), ?_⟩
     refine d_p (i := 3) (lv rfl) rfl (fun w => (r_ia el_25 rfl rfl ?_ ?_)) (by kernel_rfl) ?_; omega; omega
     refine d_l (j := 4) (by kernel_rfl) ?_
     refine o_st (lv rfl) rfl lk_39 rfl rfl (vs := [_]) rfl (by exact hH.p1) rfl rfl ?_ (setL_flat1 (enc := encQ) (f := fQ) (fun _ => rfl) (l := Q) (x := (ra, rcap, l0)) (i := 0) rfl) ?_
     ·rw [flat_length hkQ]; simp only [List.length_singleton]; omega
     intro w hH
     refine ⟨(keeps_in rfl trivial), ?_⟩
     refine d_end (by kernel_rfl) ?_
     (have hc0 : 0 < md c.width 4 := c0
      refine hkk _ _ ⟨_, Q.set 0 (ra, rcap, l0), by simpa using hQN, hQok.set (by omega) hl0 hll0, (J_self (has_s rfl (has_s rfl (has_s rfl (has_s rfl (has_s rfl has_0)))))), ?_⟩
      obtain ⟨q0, hq0⟩ : ∃ q0, Q[0]? = some q0 := ⟨_, List.getElem?_eq_getElem (by omega)⟩
      have hqc : (Q.map qch)[0]? = some (qch q0) := by rw [List.getElem?_map, hq0]; rfl
      replace hH : Holds R (All (Q.map qch) :: Vec 46 4 encC (.slice ra l0.length rcap) l0 :: cel b22 (flat encQ (Q.set 0 (ra, rcap, l0))) 39 :: cel b8 [.int .i64 cg1, .int .i64 cg2, .int .i64 (N : Int), .int .i64 cg4, .int .u64 cg5, .slice (some ⟨b22, 0, none⟩) N N] 28 :: cel b6 [.int .i64 0, .int .i64 0, .int .i64 0, .int .i64 0, .int .u64 0, .slice none 0 0] 28 :: cel b3 [.int .i64 cg1, .int .i64 cg2, .int .i64 (N : Int), .int .i64 cg4, .int .u64 cg5] 24 :: F) w := (hH.sel (by repeat' (first | exact Sel.refl _ | refine Sel.q1 ?_ | refine Sel.q2 ?_)))
      replace hH := (hH.all_take hqc).drop
      rw [List.map_set]
      refine Holds.p1 (Holds.all_give (i := 0) (p := qch (ra, rcap, l0)) ?_ (by simp; omega))
      exact hH.p1)
    ·refine g_skip ?_
     (have hc0 : ¬ 0 < md c.width 4 := c0
      exact hkk _ _ ⟨_, Q, hQN, hQok, (J_self (has_s rfl (has_s rfl (has_s rfl (has_s rfl (has_s rfl has_0)))))), (hH.sel (by repeat' (first | exact Sel.refl _)))⟩)
   ·rintro _ w ⟨e1, Q, hQN, hQok, rfl, hH⟩
    refine g_seq ?_
    refine g_region (l := [0]) rfl ?_
    refine vA (lv rfl) rfl rfl ?_
    refine g_seq ?_
    refine g_seq ?_
    refine g_region (l := [0]) rfl ?_
    refine vA (lv rfl) rfl rfl ?_
    refine g_block ?_
    refine g_loop (fun mm e w => ∃ (i nn : Nat) (e0 : Env) (Q : Ql), i ≤ vs.length ∧ mm = vs.length - i ∧ nn ≤ 57 ∧ Q.length = N ∧ lsOk Q (100 + nn) ∧ e = J e0 [(1, .slice a0 vs.length cap0), (2, .int .i64 most), (3, .pointer (some ⟨b3, 0, none⟩)), (6, .pointer (some ⟨b6, 0, none⟩)), (8, .pointer (some ⟨b8, 0, none⟩)), (9, .int .i64 nn), (10, .int .i64 i)] ∧ Holds R (cel b22 (flat encQ Q) 39 :: All (Q.map qch) :: cel b8 [.int .i64 cg1, .int .i64 cg2, .int .i64 (N : Int), .int .i64 cg4, .int .u64 cg5, .slice (some ⟨b22, 0, none⟩) N N] 28 :: cel b6 [.int .i64 0, .int .i64 0, .int .i64 0, .int .i64 0, .int .u64 0, .slice none 0 0] 28 :: cel b3 [.int .i64 cg1, .int .i64 cg2, .int .i64 (N : Int), .int .i64 cg4, .int .u64 cg5] 24 :: F) w) vs.length ⟨0, 0, _, Q, by omega, by omega, by omega, hQN, hQok, (J_self (has_s rfl (has_s rfl (has_s rfl (has_s rfl (has_s rfl (has_s rfl (has_s rfl has_0)))))))), (hH.sel (by repeat' (first | exact Sel.refl _)))⟩ ?_
    rintro mm _ w ⟨i, nn, e2, Q, hi, hm, hnn, hQN, hQok, rfl, hH⟩ hback
    refine g_seq ?_
    refine g_seq ?_
    refine g_region (l := [0, 1, 2, 3]) rfl ?_
    refine vM (lv rfl) rfl rfl ?_
    refine vM (lv rfl) rfl rfl ?_
    refine o_v (lv rfl) rfl (r_len el_25 rfl) ?_
    refine o_v (lv rfl) rfl (r_lt rfl rfl) ?_
    refine g_if rfl (fun c1 => ?_) (fun c1 => ?_)
    ·have hil : i < vs.length := by omega
     obtain ⟨l, hl⟩ : ∃ l, ls[i]? = some l := ⟨_, List.getElem?_eq_getElem (by omega)⟩
     obtain ⟨vv, hvv⟩ : ∃ vv, vs[i]? = some vv := ⟨_, List.getElem?_eq_getElem (by omega)⟩
     have hrl := hin _ _ _ hvv hl
     have hlo := hls.2 l (List.mem_of_getElem? hl)
     obtain ⟨la, lcap, rfl, hlcap⟩ := hrl.len
     obtain ⟨bl, ol, csl, Tl, hae, hbl, hcl0⟩ := Rd.el hkV hrd hvv
     rw [hae]; rw [hae] at hback
     have hcl := hcl0 0 _ rfl
     refine g_skip ?_
     refine g_seq ?_
     refine g_block ?_
     refine g_seq ?_
     refine g_region (l := [0]) rfl ?_
     refine vA (lv rfl) rfl rfl ?_
     refine g_block ?_
     refine g_loop (fun mm e w => ∃ (k nn : Nat) (e0 : Env) (Q : Ql), k ≤ l.length ∧ mm = l.length - k ∧ nn ≤ 57 ∧ Q.length = N ∧ lsOk Q (100 + nn) ∧ e = J e0 [(1, .slice (some ⟨bl, ol, none⟩) vs.length cap0), (2, .int .i64 most), (3, .pointer (some ⟨b3, 0, none⟩)), (6, .pointer (some ⟨b6, 0, none⟩)), (8, .pointer (some ⟨b8, 0, none⟩)), (9, .int .i64 nn), (10, .int .i64 i), (11, .int .i64 k)] ∧ Holds R (cel b22 (flat encQ Q) 39 :: All (Q.map qch) :: cel b8 [.int .i64 cg1, .int .i64 cg2, .int .i64 (N : Int), .int .i64 cg4, .int .u64 cg5, .slice (some ⟨b22, 0, none⟩) N N] 28 :: cel b6 [.int .i64 0, .int .i64 0, .int .i64 0, .int .i64 0, .int .u64 0, .slice none 0 0] 28 :: cel b3 [.int .i64 cg1, .int .i64 cg2, .int .i64 (N : Int), .int .i64 cg4, .int .u64 cg5] 24 :: F) w) l.length ⟨0, nn, _, Q, by omega, by omega, by omega, hQN, hQok, (J_self (has_s rfl (has_s rfl (has_s rfl (has_s rfl (has_s rfl (has_s rfl (has_s rfl (has_s rfl has_0))))))))), (hH.sel (by repeat' (first | exact Sel.refl _)))⟩ ?_
     rintro mm2 _ w ⟨k, nn, e3, Q, hk, hm2, hnn, hQN, hQok, rfl, hH⟩ hback2
     refine g_seq ?_
     refine g_seq ?_
     refine g_join (fun e w => ∃ (e0 : Env), e = J e0 [(1, .slice (some ⟨bl, ol, none⟩) vs.length cap0), (2, .int .i64 most), (3, .pointer (some ⟨b3, 0, none⟩)), (6, .pointer (some ⟨b6, 0, none⟩)), (8, .pointer (some ⟨b8, 0, none⟩)), (9, .int .i64 nn), (10, .int .i64 i), (11, .int .i64 k), (50, .bool (decide (((k : Int) < l.length) ∧ (nn : Int) < most ∧ (nn : Int) < 57)))] ∧ Holds R (cel b22 (flat encQ Q) 39 :: All (Q.map qch) :: cel b8 [.int .i64 cg1, .int .i64 cg2, .int .i64 (N : Int), .int .i64 cg4, .int .u64 cg5, .slice (some ⟨b22, 0, none⟩) N N] 28 :: cel b6 [.int .i64 0, .int .i64 0, .int .i64 0, .int .i64 0, .int .u64 0, .slice none 0 0] 28 :: cel b3 [.int .i64 cg1, .int .i64 cg2, .int .i64 (N : Int), .int .i64 cg4, .int .u64 cg5] 24 :: F) w) (fun kk hkk => ?_) ?_
     ·refine g_region (l := [0, 1, 2, 3, 4, 5, 6, 7, 8, 9, 10, 11, 12, 13, 14, 15]) rfl ?_
      refine vM (lv rfl) rfl rfl ?_
      refine vM (lv rfl) rfl rfl ?_
      refine vM (lv rfl) rfl rfl ?_
      refine o_v (lv rfl) rfl (r_ia el_25 rfl rfl ?_ ?_) ?_; omega; omega
      refine o_ld (lv rfl) rfl lk_39 rfl ⟨_, _, _, hH.old hbl, _, hcl, ?_⟩
      refine o_v (lv rfl) rfl (r_len el_39 rfl) ?_
      refine o_v (lv rfl) rfl (r_lt rfl rfl) ?_
      refine vM (lv rfl) rfl rfl ?_
      refine s_ops (fun g11_7 => ?_) (fun g11_7 => ?_)
      ·refine vM (lvg rfl rfl rfl) rfl rfl ?_
       refine vM (lvg rfl rfl rfl) rfl rfl ?_
       refine o_v (lvg rfl rfl rfl) rfl (r_lt rfl rfl) ?_
       refine o_v (lv rfl) rfl (r_pickT rfl rfl) ?_
       refine vM (lv rfl) rfl rfl ?_
       refine s_ops (fun g11_12 => ?_) (fun g11_12 => ?_)
       ·refine vM (lvg rfl rfl rfl) rfl rfl ?_
        refine o_v (lvg rfl rfl rfl) rfl (r_lt rfl rfl) ?_
        refine o_v (lv rfl) rfl (r_pickT rfl rfl) ?_
        (have h1 : (nn : Int) < most := g11_12
         have hde : decide (((k : Int) < l.length) ∧ (nn : Int) < most ∧ (nn : Int) < 57) = decide ((nn : Int) < 57) := by rw [decide_eq_decide]; exact ⟨fun h => h.2.2, fun h => ⟨g11_7, h1, h⟩⟩
         exact hkk _ _ ⟨_, by rw [hde]; exact (J_self (has_s rfl (has_s rfl (has_s rfl (has_s rfl (has_s rfl (has_s rfl (has_s rfl (has_s rfl (has_s rfl has_0)))))))))), (hH.sel (by repeat' (first | exact Sel.refl _)))⟩)
       ·refine o_no rfl rfl rfl rfl ?_
        refine o_no rfl rfl rfl rfl ?_
        refine o_v (lv rfl) rfl (r_pickF rfl rfl) ?_
        (have h1 : ¬ (nn : Int) < most := g11_12
         have hde : decide (((k : Int) < l.length) ∧ (nn : Int) < most ∧ (nn : Int) < 57) = false := decide_eq_false (fun h => h1 h.2.1)
         exact hkk _ _ ⟨_, by rw [hde]; exact (J_self (has_s rfl (has_s rfl (has_s rfl (has_s rfl (has_s rfl (has_s rfl (has_s rfl (has_s rfl (has_s rfl has_0)))))))))), (hH.sel (by repeat' (first | exact Sel.refl _)))⟩)
      ·refine o_no rfl rfl rfl rfl ?_
       refine o_no rfl rfl rfl rfl ?_
       refine o_no rfl rfl rfl rfl ?_
       refine o_v (lv rfl) rfl (r_pickF rfl rfl) ?_
       refine vM (lv rfl) rfl rfl ?_
       refine o_no rfl rfl rfl rfl ?_
       refine o_no rfl rfl rfl rfl ?_
       refine o_v (lv rfl) rfl (r_pickF rfl rfl) ?_
       (have h1 : ¬ (k : Int) < l.length := g11_7
        have hde : decide (((k : Int) < l.length) ∧ (nn : Int) < most ∧ (nn : Int) < 57) = false := decide_eq_false (fun h => h1 h.1)
        exact hkk _ _ ⟨_, by rw [hde]; exact (J_self (has_s rfl (has_s rfl (has_s rfl (has_s rfl (has_s rfl (has_s rfl (has_s rfl (has_s rfl (has_s rfl has_0)))))))))), (hH.sel (by repeat' (first | exact Sel.refl _)))⟩)
     ·rintro _ w ⟨e4, rfl, hH⟩
      refine g_if rfl (fun c2 => ?_) (fun c2 => ?_)
      ·have hkl : k < l.length := by omega
       obtain ⟨x, hx⟩ : ∃ x, l[k]? = some x := ⟨_, List.getElem?_eq_getElem hkl⟩
       have hxok := hlo.2 x (List.mem_of_getElem? hx)
       have hiN : i % N < Q.length := by rw [hQN]; exact Nat.mod_lt _ (by omega)
       obtain ⟨⟨qa, qc, ql⟩, hq⟩ : ∃ q, Q[i % N]? = some q := ⟨_, List.getElem?_eq_getElem hiN⟩
       refine g_skip ?_
       refine g_seq ?_
       refine g_block ?_
       refine g_seq ?_
       refine g_region (l := [0, 1, 2, 3, 4]) rfl ?_
       refine vM (lv rfl) rfl rfl ?_
       refine o_v (lv rfl) rfl (r_fa fa_24_2 rfl) ?_
       refine o_ld (lv rfl) rfl lk_3 rfl ⟨_, _, _, hH.c4, _, rfl, ?_⟩
       refine o_v (lv rfl) rfl (r_remI rfl rfl ?_ ?_) ?_; omega; omega
       refine vA (lv rfl) rfl rfl ?_
       refine g_seq ?_
       rw [show ((i : Int) % (N : Int)) = ((i % N : Nat) : Int) from by simp]
       have hqc : (Q.map qch)[i % N]? = some (qch (qa, qc, ql)) := by rw [List.getElem?_map, hq]; rfl
       replace hH : Holds R (Vec 46 4 encC (.slice qa ql.length qc) ql :: All ((Q.map qch).eraseIdx (i % N)) :: cel b22 (flat encQ Q) 39 :: cel b8 [.int .i64 cg1, .int .i64 cg2, .int .i64 (N : Int), .int .i64 cg4, .int .u64 cg5, .slice (some ⟨b22, 0, none⟩) N N] 28 :: cel b6 [.int .i64 0, .int .i64 0, .int .i64 0, .int .i64 0, .int .u64 0, .slice none 0 0] 28 :: cel b3 [.int .i64 cg1, .int .i64 cg2, .int .i64 (N : Int), .int .i64 cg4, .int .u64 cg5] 24 :: F) w := hH.p1.all_take hqc
       have hcq : (flat encQ Q)[0 + (((i % N : Nat) : Int)).toNat * 1]? = some (.slice qa ql.length qc) := flat_at1 (f := fQ) (fun _ => rfl) (by omega) hq
       have hqok := hQok _ (List.mem_of_getElem? hq)
       dsimp only at hqok
       obtain ⟨bc, oc, csc, Tc, hle, hbc, hcc0⟩ := Rd.el hkC (hrl.rd hx) hx
       rw [hle] at hcl
       have hcc := dt_of hcc0
       refine rD mixed hH fun w hH => ?_
       refine pF 0 (lv rfl) rfl fa_28_1 rfl ?_
       refine d_ld (i := 1) [19] (lv rfl) rfl lk_25 rfl (by kernel_rfl) ⟨_, _, _, hH.c3, _, rfl, ?_⟩
       refine pM 2 (lv rfl) rfl rfl ?_
       refine pF 3 (lv rfl) rfl fa_28_1 rfl ?_
       refine d_ld (i := 4) [17, 19] (lv rfl) rfl lk_25 rfl (by kernel_rfl) ⟨_, _, _, hH.c3, _, rfl, ?_⟩
       refine pM 5 (lv rfl) rfl rfl ?_
       refine d_p (i := 6) (lv rfl) rfl (fun w => (r_ia el_25 rfl rfl ?_ ?_)) (by kernel_rfl) ?_; omega; omega
       refine d_ld (i := 7) [17, 19] (lv rfl) rfl lk_39 rfl (by kernel_rfl) ⟨_, _, _, hH.c2, _, hcq, ?_⟩
       refine pM 8 (lv rfl) rfl rfl ?_
       refine pM 9 (lv rfl) rfl rfl ?_
       refine d_p (i := 10) (lv rfl) rfl (fun w => (r_ia el_25 rfl rfl ?_ ?_)) (by kernel_rfl) ?_; omega; omega
       refine d_ld (i := 11) [15, 16, 17, 19] (lv rfl) rfl lk_39 rfl (by kernel_rfl) ⟨_, _, _, hH.old hbl, _, hcl, ?_⟩
       refine pM 12 (lv rfl) rfl rfl ?_
       refine d_p (i := 13) (lv rfl) rfl (fun w => (r_ia el_39 rfl rfl ?_ ?_)) (by kernel_rfl) ?_; omega; omega
       refine d_ldN (i := 14) [15, 16, 17, 19] (lv rfl) rfl lk_46 rfl (by kernel_rfl) ⟨_, _, _, hH.old hbc, _, hcc, rfl, ?_⟩
       refine d_l (j := 15) (by kernel_rfl) ?_
       refine o_call (lv rfl) rfl en_41 rfl (play_Call x hxok hH) ?_
       rintro _ w ⟨y, rfl, hy, hH⟩
       refine ⟨(keeps_in rfl (keeps_in rfl (keeps_cons (fun _ => (by exact hH.c2)) (keeps_cons (fun _ => (by exact hH.c3)) (keeps_cons (fun _ => (by exact hH.c3)) trivial))))), ?_⟩
       refine d_l (j := 16) (by kernel_rfl) ?_
       refine o_bs (lv rfl) rfl el_39 ze_46 rfl rfl rfl (ps := [_]) rfl rfl rfl (cs := [_, _, _, _]) rfl hH ?_
       intro b73 w hH
       refine ⟨(keeps_in rfl (keeps_in rfl (keeps_cons (fun _ => (by exact hH.c3)) (keeps_cons (fun _ => (by exact hH.c4)) (keeps_cons (fun _ => (by exact hH.c4)) trivial))))), ?_⟩
       refine d_l (j := 17) (by kernel_rfl) ?_
       refine o_app (enc := encC) (lv rfl) rfl el_39 ze_46 rfl (fun _ => rfl) (fun _ => rfl) rfl rfl (by exact hH.p1) (rd_of_cel [y] (by exact hH.c0) rfl) (by simp; omega) (by simp; omega) ?_
       intro v74 w hH; obtain ⟨a74, k74, rfl, -⟩ := hH.rd.len
       refine ⟨(keeps_in rfl (keeps_in rfl (keeps_in rfl (keeps_in rfl (keeps_cons (fun _ => (by exact hH.c4)) trivial))))), ?_⟩
       refine d_p (i := 18) (lv rfl) rfl (fun w => (r_ia el_25 rfl rfl ?_ ?_)) (by kernel_rfl) ?_; omega; omega
       refine d_l (j := 19) (by kernel_rfl) ?_
       refine o_st (lv rfl) rfl lk_39 rfl rfl (vs := [_]) rfl (by exact hH.p3) rfl rfl ?_ (setL_flat1 (enc := encQ) (f := fQ) (fun _ => rfl) (l := Q) (x := (a74, k74, ql ++ [y])) (i := i % N) (by omega)) ?_
       ·rw [flat_length hkQ]; simp only [List.length_singleton]; omega
       intro w hH
       refine ⟨(keeps_in rfl (keeps_in rfl (keeps_in rfl (keeps_in rfl (keeps_in rfl trivial))))), ?_⟩
       refine d_end (by kernel_rfl) ?_
       refine g_region (l := [0, 1, 2]) rfl ?_
       refine vM (lv rfl) rfl rfl ?_
       refine o_v (lv rfl) rfl (r_addI rfl rfl ?_) ?_; omega
       refine vA (lv rfl) rfl rfl ?_
       refine g_inBlock ?_
       refine g_region (l := [0, 1, 2]) rfl ?_
       refine vM (lv rfl) rfl rfl ?_
       refine o_v (lv rfl) rfl (r_addI rfl rfl ?_) ?_; omega
       refine vA (lv rfl) rfl rfl ?_
       have hset : Holds R (cel b22 (flat encQ (Q.set (i % N) (a74, k74, ql ++ [y]))) 39 :: All ((Q.set (i % N) (a74, k74, ql ++ [y])).map qch) :: cel b8 [.int .i64 cg1, .int .i64 cg2, .int .i64 (N : Int), .int .i64 cg4, .int .u64 cg5, .slice (some ⟨b22, 0, none⟩) N N] 28 :: cel b6 [.int .i64 0, .int .i64 0, .int .i64 0, .int .i64 0, .int .u64 0, .slice none 0 0] 28 :: cel b3 [.int .i64 cg1, .int .i64 cg2, .int .i64 (N : Int), .int .i64 cg4, .int .u64 cg5] 24 :: F) w := by
         rw [List.map_set]
         refine Holds.p1 (Holds.all_give (i := i % N) (p := qch (a74, k74, ql ++ [y])) ?_ (by simp; omega))
         exact (hH.sel (by repeat' (first | exact Sel.refl _ | refine Sel.q0 ?_ | refine Sel.q1 ?_ | refine Sel.q2 ?_ | refine Sel.skip _ ?_)))
       exact hback2 _ _ _ ⟨k + 1, nn + 1, _, _, by omega, rfl, by omega, by simpa using hQN, hQok.set (by omega) (fun c hc => by
         rcases List.mem_append.1 hc with h | h
         ·exact hqok.1 c h
         ·rw [List.mem_singleton.1 h]; exact hy) (by simp; omega), by rw [← hle]; exact (J_self (has_s rfl (has_s rfl (has_s rfl (has_s rfl (has_s rfl (has_s rfl (has_s rfl (has_s rfl has_0))))))))), hset⟩ (by omega)
      ·refine g_exit rfl ?_
       refine g_inBlock ?_
       refine g_region (l := [0, 1, 2]) rfl ?_
       refine vM (lv rfl) rfl rfl ?_
       refine o_v (lv rfl) rfl (r_addI rfl rfl ?_) ?_; omega
       refine vA (lv rfl) rfl rfl ?_
       exact hback _ _ _ ⟨i + 1, nn, _, Q, by omega, rfl, by omega, hQN, hQok, (J_self (has_s rfl (has_s rfl (has_s rfl (has_s rfl (has_s rfl (has_s rfl (has_s rfl has_0)))))))), (hH.sel (by repeat' (first | exact Sel.refl _)))⟩ (by omega)
    ·refine g_exit rfl ?_
     refine g_seq ?_
     refine g_region (l := [0, 1]) rfl ?_
     refine o_ldN (lv rfl) rfl lk_28 rfl ⟨_, _, _, hH.c2, [_, _, _, _, _, _], rfl, rfl, ?_⟩
     refine o_st (lv rfl) rfl lk_28 rfl (vs := [_, _, _, _, _, _]) rfl rfl (by exact hH.p3) rfl rfl (by simp) rfl ?_
     intro w hH; dsimp only [setL, List.set] at hH
     refine g_rq Tryz.func10 (res_cell rfl (run_loadVarN (vs := [_, _, _, _, _, _]) lk_28 (cells_of hH.c0 rfl)) res_0) ?_
     have hL := ListsC.mk (F := F) (b := b22) (Q := Q) (hH.sel (by repeat' (first | exact Sel.refl _ | refine Sel.q1 ?_ | refine Sel.skip _ ?_)))
     rw [hQN] at hL
     refine ⟨⟨cg1, cg2, N, cg4, cg5⟩, _, _, rfl, hcfg, ⟨by simp; omega, ?_⟩, by simp [hQN], ?_, hL⟩
     ·intro l' hl' c' hc'
      obtain ⟨q, hq, rfl⟩ := List.mem_map.1 hl'
      exact (hQok q hq).1 c' hc'
     ·intro l' hl'
      obtain ⟨q, hq, rfl⟩ := List.mem_map.1 hl'
      have := (hQok q hq).2
      omega
end
end Go.Proofs.YtkdbglfdgeldpaaGreat
