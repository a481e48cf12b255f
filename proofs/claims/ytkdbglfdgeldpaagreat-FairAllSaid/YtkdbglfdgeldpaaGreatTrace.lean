/- Contract of package law27: points that a model tells. Condition: the plan and the turns are only read. -/
import Derived.Test.YtkdbglfdgeldpaaGreatWide
set_option linter.unusedVariables false
namespace Go.Proofs.YtkdbglfdgeldpaaGreat
open Go.Lt
abbrev Pl := List (Point × Option Addr × Nat)
def encPo (q : Point × Option Addr × Nat) : List Value := [.int .i64 q.1.step, .int .i64 q.1.who, .int .i64 q.1.place, .int .i64 q.1.ret.e, .slice q.2.1 q.1.ret.packets.length q.2.2, .int .i64 q.1.ret.n, .int .u64 q.1.ret.v]
theorem hkPo (x : Point × Option Addr × Nat) : (encPo x).length = 7 := rfl
def pch (q : Point × Option Addr × Nat) : HP := Rd encP (.slice q.2.1 q.1.ret.packets.length q.2.2) q.1.ret.packets
def pov (q : Point × Option Addr × Nat) : Point × Value := (q.1, .slice q.2.1 q.1.ret.packets.length q.2.2)
def fI (x : Int) : Value := .int .i64 x
def PtsC (v : Value) (l : List Point) : HP := ex fun S : Pl => is (S.map (·.1) = l) (All [Vec 59 7 encPo v S, All (S.map pch)])
theorem flat_encPt (S : Pl) : flat encPt (S.map pov) = flat encPo S := by
  induction S with
  | nil => rfl
  | cons q Q ih => simp only [flat, List.map_cons, List.flatMap_cons] at ih ⊢; rw [ih]; rfl
def trW (turns : List Int) (i n : Nat) : Nat := match turns[i]? with
  | some t => (md t n).toNat
  | none => i % n
def trPre (turns : List Int) (i : Nat) (step : Int) : Int := match turns[i]? with
  | some t => step + md (t.tdiv 7) 3
  | none => step
structure Tr where
  m : Mdl
  out : List Point
  at_ : List Int
  lf : List Int
  step : Int
def trDo (s : Tr) (w : Nat) (a l0 step : Int) (c : Call) : Tr :=
  if c.op ≠ 5 ∨ c.a < 1 ∨ 16 < c.a then ⟨(s.m.do c).2, s.out ++ [⟨step, w, a, (s.m.do c).1⟩], s.at_.set w (a + 1), s.lf, step⟩
  else if (if l0 = 0 then c.a else l0) - 1 = 0 ∨ (s.m.do ⟨4, 0, 0, 0⟩).1.e = 10 then ⟨(s.m.do ⟨4, 0, 0, 0⟩).2, s.out ++ [⟨step, w, a, (s.m.do ⟨4, 0, 0, 0⟩).1⟩], s.at_.set w (a + 1), s.lf.set w 0, step⟩
  else ⟨(s.m.do ⟨4, 0, 0, 0⟩).2, s.out ++ [⟨step, w, a, (s.m.do ⟨4, 0, 0, 0⟩).1⟩], s.at_, s.lf.set w ((if l0 = 0 then c.a else l0) - 1), step⟩
def trStep (ls : List (List Call)) (turns : List Int) (i : Nat) (s : Tr) : Tr :=
  match s.at_[trW turns i ls.length]?, s.lf[trW turns i ls.length]?, ls[trW turns i ls.length]? with
  | some a, some l0, some l => match l[a.toNat]? with
    | none => { s with step := trPre turns i s.step + 1 }
    | some c => trDo s (trW turns i ls.length) a l0 (trPre turns i s.step + 1) c
  | _, _, _ => { s with step := trPre turns i s.step + 1 }
def trL (ls : List (List Call)) (turns : List Int) : Nat → Nat → Tr → Tr
  | 0, _, s => s
  | k + 1, i, s => trL ls turns k (i + 1) (trStep ls turns i s)
theorem trL_S (ls : List (List Call)) (turns : List Int) (k i : Nat) (s : Tr) : trL ls turns (k + 1) i s = trL ls turns k (i + 1) (trStep ls turns i s) := rfl
def tr0 (c : Config) (n : Nat) : Tr := ⟨mkMdl c, [], List.replicate n 0, List.replicate n 0, 0⟩
def traceOf (c : Config) (ls : List (List Call)) (turns : List Int) (most : Nat) : List Point := (trL ls turns most 0 (tr0 c ls.length)).out
def allB (l : List Int) (m : Int) : Prop := ∀ x ∈ l, 0 ≤ x ∧ x ≤ m
theorem allB.set {l : List Int} {m m' : Int} (h : allB l m) (hm : m ≤ m') (i : Nat) {x : Int} (h1 : 0 ≤ x ∧ x ≤ m') : allB (l.set i x) m' := by
  intro y hy
  rcases List.mem_or_eq_of_mem_set hy with h' | h'
  ·have := h y h'; omega
  ·subst h'; exact h1
theorem allB.up {l : List Int} {m m' : Int} (h : allB l m) (hm : m ≤ m') : allB l m' := fun x hx => by have := h x hx; omega
theorem md_I {a b : Int} (h : I a) : I (a.tdiv 7) := by
  have := tdiv_b (a := a) (b := 7) h (by omega)
  exact this
section
variable {R : Base} {F : List HP} {w : World}
theorem PtsC.op {v : Value} {l : List Point} (h : Holds R (PtsC v l :: F) w) : ∃ S : Pl, S.map (·.1) = l ∧ Holds R (Vec 59 7 encPo v S :: All (S.map pch) :: F) w := by
  obtain ⟨S, h⟩ := h.open_ex
  obtain ⟨h1, h⟩ := h.open_is
  exact ⟨S, h1, h.all_open⟩
theorem PtsC.mk {v : Value} {S : Pl} (h : Holds R (Vec 59 7 encPo v S :: All (S.map pch) :: F) w) : Holds R (PtsC v (S.map (·.1)) :: F) w :=
  (Holds.shut_is rfl (Holds.all_shut (A := [Vec 59 7 encPo v S, All (S.map pch)]) h)).shut_ex (p := fun S' : Pl => is (S'.map (·.1) = S.map (·.1)) (All [Vec 59 7 encPo v S', All (S'.map pch)]))
theorem PtsC.rp {v : Value} {l : List Point} (h : Holds R (PtsC v l :: F) w) : RPoints v l (hp w) := by
  obtain ⟨S, hl, h2⟩ := PtsC.op h
  clear h
  subst hl
  refine ⟨S.map pov, by rw [List.map_map]; rfl, ?_, ?_⟩
  ·have h1 := h2.rd
   rcases h1 with ⟨hv, hS⟩ | ⟨b, off, cap, cs, T, hv, hb, hl, hx⟩
   ·exact .inl ⟨hv, by rw [hS]; rfl⟩
   ·exact .inr ⟨b, off, cap, cs, T, by rw [List.length_map]; exact hv, hb, by rw [List.length_map]; exact hl, by rw [flat_encPt]; exact hx⟩
  ·intro q hq
   obtain ⟨s, hs, rfl⟩ := List.mem_map.1 hq
   obtain ⟨j, hj⟩ := List.getElem?_of_mem hs
   have hjc : (S.map pch)[j]? = some (pch s) := by rw [List.getElem?_map, hj]; rfl
   exact h2.p1.all_rd hjc Rd.up
theorem Mdl.ok_up {n m : Nat} {x : Mdl} (h : x.ok n) (hm : n ≤ m) : x.ok m := ⟨h.1, h.2.1, by have := h.2.2.1; omega, h.2.2.2.1, by have := h.2.2.2.2; omega⟩
theorem vec_pch {pa : Option Addr} {pcap : Nat} {x : Point} (h : Holds R (Vec 54 3 encP (.slice pa x.ret.packets.length pcap) x.ret.packets :: F) w) : Holds R (pch (x, pa, pcap) :: F) w := h.weak fun _ h => h.rd
theorem pts_snoc {S : Pl} {pa : Option Addr} {pcap : Nat} {x : Point} (h : Holds R (Vec 54 3 encP (.slice pa x.ret.packets.length pcap) x.ret.packets :: All (S.map pch) :: F) w) : Holds R (All ((S ++ [(x, pa, pcap)]).map pch) :: F) w := by
  rw [List.map_append]
  exact Holds.all_perm (A := pch (x, pa, pcap) :: S.map pch) (Holds.all_cons (vec_pch h)) (by simpa using (List.perm_append_comm (l₁ := [pch (x, pa, pcap)])))
set_option maxHeartbeats 2000000 in
theorem law27_Trace {c : Config} {lsv tv : Value} {ls : List (List Call)} {turns : List Int} (hcfg : cfgOk c) (hP : RLists lsv ls R.h) (hls : listsOk ls) (hN : 0 < ls.length) (hlb : ∀ l ∈ ls, l.length ≤ 1000000) (hT : Rd encI tv turns R.h) (htb : turns.length ≤ 9223372036854775807) (htI : ∀ t ∈ turns, I t)
    (most : Nat) (hmost : most ≤ 1000) (hH : Holds R F w) :
    Ret Tryz.prog 11 [vPlan c lsv, tv, .int .i64 most] w fun x w' => Holds R (PtsC x (traceOf c ls turns most) :: F) w' := by
  have hP' := hP
  obtain ⟨vs, hvs, hrd, hin⟩ := hP'
  obtain ⟨a0, cap0, rfl, hcap⟩ := hrd.len
  obtain ⟨ta, tcap, rfl, htcap⟩ := hT.len
  have hNb := hls.1
  have h0 : traceOf c ls turns most = (trL ls turns (most - 0) 0 (tr0 c ls.length)).out := rfl
  refine ret_of_g (n := 160) Tryz.func11 rfl rfl (by simp) ?_
  refine g_seq ?_
  refine g_region (l := [0, 1]) rfl ?_
  refine o_box (lv rfl) rfl (cs := [_, _, _, _, _, _]) rfl rfl hH ?_
  intro b3 w hH
  refine vA (lv rfl) rfl rfl ?_
  refine g_seq ?_
  refine g_region (l := [0, 1, 2, 3]) rfl ?_
  refine o_v (lv rfl) rfl (r_fa fa_28_0 rfl) ?_
  refine o_ldN (lv rfl) rfl lk_24 rfl ⟨_, _, _, hH.c0, [_, _, _, _, _], rfl, rfl, ?_⟩
  refine o_call (lv rfl) rfl en_42 rfl (r09_NewModel c hH) ?_
  rintro _ w ⟨bm, rfl, hH⟩
  refine vA (lv rfl) rfl rfl ?_
  refine g_seq ?_
  refine g_region (l := [0]) rfl ?_
  refine vA (lv rfl) rfl rfl ?_
  refine g_seq ?_
  refine g_region (l := [0, 1, 2, 3]) rfl ?_
  refine o_v (lv rfl) rfl (r_fa fa_28_1 rfl) ?_
  refine o_ld (lv rfl) rfl lk_25 rfl ⟨_, _, _, hH.c1, _, rfl, ?_⟩
  refine o_v (lv rfl) rfl (r_len el_25 rfl) ?_
  refine vA (lv rfl) rfl rfl ?_
  refine g_seq ?_
  refine g_region (l := [0, 1, 2]) rfl ?_
  refine vM (lv rfl) rfl rfl ?_
  refine o_mk (lv rfl) rfl el_26 ze_3 rfl rfl rfl rfl (by omega) (by omega) (by omega) hH ?_; intro b24 w hH
  refine vA (lv rfl) rfl rfl ?_
  refine g_seq ?_
  refine g_region (l := [0, 1, 2]) rfl ?_
  refine vM (lv rfl) rfl rfl ?_
  refine o_mk (lv rfl) rfl el_26 ze_3 rfl rfl rfl rfl (by omega) (by omega) (by omega) hH ?_; intro b26 w hH
  refine vA (lv rfl) rfl rfl ?_
  refine g_seq ?_
  refine g_region (l := [0]) rfl ?_
  refine vA (lv rfl) rfl rfl ?_
  refine g_seq ?_
  refine g_seq ?_
  refine g_region (l := [0]) rfl ?_
  refine vA (lv rfl) rfl rfl ?_
  refine g_block ?_
  have hz : ∀ n : Nat, flat (fun _ : Unit => [Value.int .i64 0]) (List.replicate n ()) = flat encI (List.replicate n 0) := fun n => (flat_rep encI 0 n).symm
  replace hH : Holds R (RMdlC bm (mkMdl c) :: cel b24 (flat encI (List.replicate vs.length 0)) 3 :: cel b26 (flat encI (List.replicate vs.length 0)) 3 :: Vec 59 7 encPo (.slice none 0 0) [] :: All (([] : Pl).map pch) :: cel b3 (plCells c (.slice a0 vs.length cap0)) 28 :: F) w := by
    rw [← hz vs.length]
    replace hH := Holds.vnil 59 7 encPo (Holds.all_nil hH)
    exact (hH.sel (by repeat' (first | exact Sel.refl _ | refine Sel.q2 ?_ | refine Sel.q3 ?_ | refine Sel.q4 ?_)))
  refine g_loop (fun mm e w => ∃ (k : Nat) (e0 : Env) (mk : Mdl) (S : Pl) (at_ lf : List Int) (step : Int) (ov : Value), k ≤ most ∧ mm = most - k ∧ mk.ok k ∧ at_.length = vs.length ∧ lf.length = vs.length ∧ allB at_ k ∧ allB lf 16 ∧ (0 ≤ step ∧ step ≤ 3 * k) ∧ S.length ≤ k ∧ traceOf c ls turns most = (trL ls turns (most - k) k ⟨mk, S.map (·.1), at_, lf, step⟩).out ∧
      e = J e0 [(1, .slice ta turns.length tcap), (2, .int .i64 most), (3, .pointer (some ⟨b3, 0, none⟩)), (7, .pointer (some ⟨bm, 0, none⟩)), (8, ov), (9, .int .i64 (vs.length : Int)), (10, .slice (some ⟨b24, 0, none⟩) vs.length vs.length), (11, .slice (some ⟨b26, 0, none⟩) vs.length vs.length), (12, .int .i64 (step)), (13, .int .i64 k)] ∧ Holds R (RMdlC bm (mk) :: cel b24 (flat encI (at_)) 3 :: cel b26 (flat encI (lf)) 3 :: Vec 59 7 encPo ov S :: All (S.map pch) :: cel b3 (plCells c (.slice a0 vs.length cap0)) 28 :: F) w) most ⟨0, _, mkMdl c, [], List.replicate vs.length 0, List.replicate vs.length 0, 0, _, by omega, by omega, mkMdl_ok c hcfg, by simp, by simp, by intro x hx; rw [List.eq_of_mem_replicate hx]; simp, by intro x hx; rw [List.eq_of_mem_replicate hx]; simp, by omega, by simp, by rw [hvs]; exact h0, (J_self (has_s rfl (has_s rfl (has_s rfl (has_s rfl (has_s rfl (has_s rfl (has_s rfl (has_s rfl (has_s rfl (has_s rfl has_0))))))))))), hH⟩ ?_
  rintro mm _ w ⟨k, e0, mk, S, at_, lf, step, ov, hk, hm, hmk, hatl, hlfl, hatb, hlfb, hstep, hSl, hpl, rfl, hH⟩ hback
  obtain ⟨oa, ocap, rfl, -⟩ := hH.p3.rd.len
  refine g_seq ?_
  refine g_seq ?_
  refine g_region (l := [0, 1, 2, 3, 4, 5, 6]) rfl ?_
  refine vM (lv rfl) rfl rfl ?_
  refine vM (lv rfl) rfl rfl ?_
  refine o_v (lv rfl) rfl (r_lt rfl rfl) ?_
  refine vM (lv rfl) rfl rfl ?_
  refine s_ops (fun g8_3 => ?_) (fun g8_3 => ?_)
  ·refine vM (lvg rfl rfl rfl) rfl rfl ?_
   refine o_v (lvg rfl rfl rfl) rfl (r_gt rfl rfl) ?_
   refine o_v (lv rfl) rfl (r_pickT rfl rfl) ?_
   refine g_if rfl (fun c0 => ?_) (fun c0 => ?_)
   ·refine g_skip ?_
    refine g_seq ?_
    refine g_block ?_
    refine g_seq ?_
    refine g_region (l := [0, 1, 2, 3]) rfl ?_
    refine vM (lv rfl) rfl rfl ?_
    refine vM (lv rfl) rfl rfl ?_
    refine o_v (lv rfl) rfl (r_remI rfl rfl ?_ ?_) ?_; omega; omega
    refine vA (lv rfl) rfl rfl ?_
    refine g_seq ?_
    refine g_seq ?_
    refine g_region (l := [0, 1, 2, 3]) rfl ?_
    refine vM (lv rfl) rfl rfl ?_
    refine vM (lv rfl) rfl rfl ?_
    refine o_v (lv rfl) rfl (r_len el_26 rfl) ?_
    refine o_v (lv rfl) rfl (r_lt rfl rfl) ?_
    refine g_join (fun e w => ∃ (e0 : Env), e = J e0 [(1, .slice ta turns.length tcap), (2, .int .i64 most), (3, .pointer (some ⟨b3, 0, none⟩)), (7, .pointer (some ⟨bm, 0, none⟩)), (8, (.slice oa S.length ocap)), (9, .int .i64 (vs.length : Int)), (10, .slice (some ⟨b24, 0, none⟩) vs.length vs.length), (11, .slice (some ⟨b26, 0, none⟩) vs.length vs.length), (12, .int .i64 (trPre turns k step)), (13, .int .i64 k), (14, .int .i64 (trW turns k vs.length : Nat))] ∧ Holds R (RMdlC bm (mk) :: cel b24 (flat encI (at_)) 3 :: cel b26 (flat encI (lf)) 3 :: Vec 59 7 encPo (.slice oa S.length ocap) S :: All (S.map pch) :: cel b3 (plCells c (.slice a0 vs.length cap0)) 28 :: F) w) (fun kk hkk => ?_) ?_
    ·refine g_if rfl (fun c1 => ?_) (fun c1 => ?_)
     ·have hkt : k < turns.length := by omega
      obtain ⟨t, ht⟩ : ∃ t, turns[k]? = some t := ⟨_, List.getElem?_eq_getElem hkt⟩
      have htt := htI t (List.mem_of_getElem? ht)
      obtain ⟨bt, ot, cst, Tt, hte, hbt, hct0⟩ := Rd.el hkI hT ht
      rw [hte]; rw [hte] at hkk
      have hct := hct0 0 _ rfl
      have hmd1 := md_b t (n := (vs.length : Int)) (by omega)
      have hmd2 := md_b (t.tdiv 7) (n := 3) (by omega)
      refine g_seq ?_
      refine g_region (l := [0, 1, 2, 3, 4, 5, 6]) rfl ?_
      refine vM (lv rfl) rfl rfl ?_
      refine vM (lv rfl) rfl rfl ?_
      refine o_v (lv rfl) rfl (r_ia el_26 rfl rfl ?_ ?_) ?_; omega; omega
      refine o_ld (lv rfl) rfl lk_3 rfl ⟨_, _, _, hH.old hbt, _, hct, ?_⟩
      refine vM (lv rfl) rfl rfl ?_
      refine o_call (lv rfl) rfl en_12 rfl (play_Mod t _ htt (by omega) (by omega) hH) ?_
      rintro _ w ⟨rfl, hH⟩
      refine vA (lv rfl) rfl rfl ?_
      refine g_region (l := [0, 1, 2, 3, 4, 5, 6, 7, 8]) rfl ?_
      refine vM (lv rfl) rfl rfl ?_
      refine vM (lv rfl) rfl rfl ?_
      refine vM (lv rfl) rfl rfl ?_
      refine o_v (lv rfl) rfl (r_ia el_26 rfl rfl ?_ ?_) ?_; omega; omega
      refine o_ld (lv rfl) rfl lk_3 rfl ⟨_, _, _, hH.old hbt, _, hct, ?_⟩
      refine o_v (lv rfl) rfl (r_quoT rfl rfl htt (by omega)) ?_
      refine o_call (lv rfl) rfl en_12 rfl (play_Mod _ _ (md_I (b := 7) htt) (by omega) (by omega) hH) ?_
      rintro _ w ⟨rfl, hH⟩
      refine o_v (lv rfl) rfl (r_addI rfl rfl ?_) ?_; omega
      refine vA (lv rfl) rfl rfl ?_
      (have hkt2 : turns[k]? = some t := ht
       have e1 : ((trW turns k vs.length : Nat) : Int) = md t vs.length := by unfold trW; rw [hkt2]; simp only; omega
       have e2 : trPre turns k step = step + md (t.tdiv 7) 3 := by unfold trPre; rw [hkt2]
       exact hkk _ _ ⟨_, by rw [e1, e2]; exact (J_self (has_s rfl (has_s rfl (has_s rfl (has_s rfl (has_s rfl (has_s rfl (has_s rfl (has_s rfl (has_s rfl (has_s rfl (has_s rfl has_0)))))))))))), (hH.sel (by repeat' (first | exact Sel.refl _)))⟩)
     ·refine g_skip ?_
      (have c1' : ¬ (k : Int) < turns.length := c1
       have e0 : turns[k]? = none := List.getElem?_eq_none (by omega)
       have e1 : ((trW turns k vs.length : Nat) : Int) = (k : Int) % (vs.length : Int) := by unfold trW; rw [e0]; simp
       have e2 : trPre turns k step = step := by unfold trPre; rw [e0]
       exact hkk _ _ ⟨_, by rw [e1, e2]; exact (J_self (has_s rfl (has_s rfl (has_s rfl (has_s rfl (has_s rfl (has_s rfl (has_s rfl (has_s rfl (has_s rfl (has_s rfl (has_s rfl has_0)))))))))))), (hH.sel (by repeat' (first | exact Sel.refl _)))⟩)
    ·rintro _ w ⟨e1, rfl, hH⟩
     have hwlt : trW turns k vs.length < vs.length := by
       unfold trW
       split
       ·rename_i t _; have := md_b t (n := (vs.length : Int)) (by omega); omega
       ·exact Nat.mod_lt _ (by omega)
     have hst1 : 0 ≤ trPre turns k step ∧ trPre turns k step ≤ step + 2 := by
       unfold trPre
       split
       ·rename_i t _; have := md_b (t.tdiv 7) (n := 3) (by omega); omega
       ·omega
     rw [show most - k = (most - (k + 1)) + 1 from by omega, trL_S] at hpl
     unfold trStep at hpl
     rw [← hvs] at hpl
     generalize trW turns k vs.length = wn at hwlt hpl ⊢
     generalize trPre turns k step = st1 at hst1 hpl ⊢
     obtain ⟨l, hl⟩ : ∃ l, ls[wn]? = some l := ⟨_, List.getElem?_eq_getElem (by omega)⟩
     obtain ⟨vv, hvv⟩ : ∃ vv, vs[wn]? = some vv := ⟨_, List.getElem?_eq_getElem (by omega)⟩
     obtain ⟨a, ha⟩ : ∃ a, at_[wn]? = some a := ⟨_, List.getElem?_eq_getElem (by omega)⟩
     obtain ⟨l0, hl0⟩ : ∃ l0, lf[wn]? = some l0 := ⟨_, List.getElem?_eq_getElem (by omega)⟩
     rw [show (⟨mk, S.map (·.1), at_, lf, step⟩ : Tr).at_ = at_ from rfl, show (⟨mk, S.map (·.1), at_, lf, step⟩ : Tr).lf = lf from rfl, ha, hl0, hl] at hpl
     dsimp only at hpl
     have hab := hatb a (List.mem_of_getElem? ha)
     have hl0b := hlfb l0 (List.mem_of_getElem? hl0)
     have hll := hlb l (List.mem_of_getElem? hl)
     have hrl := hin _ _ _ hvv hl
     obtain ⟨la, lcap, rfl, hlcap⟩ := hrl.len
     obtain ⟨bl, ol, csl, Tl, hae, hbl, hcl00⟩ := Rd.el hkV hrd hvv
     rw [hae] at hH hback
     have hcl0 := hcl00 0 _ rfl
     have hca : (flat encI at_)[0 + ((wn : Int)).toNat * 1]? = some (.int .i64 a) := flat_at1 (f := fI) (i := wn) (fun _ => rfl) (by omega) ha
     have hcl : (flat encI lf)[0 + ((wn : Int)).toNat * 1]? = some (.int .i64 l0) := flat_at1 (f := fI) (i := wn) (fun _ => rfl) (by omega) hl0
     refine g_seq ?_
     refine g_region (l := [0, 1, 2]) rfl ?_
     refine vM (lv rfl) rfl rfl ?_
     refine o_v (lv rfl) rfl (r_addI rfl rfl ?_) ?_; omega
     refine vA (lv rfl) rfl rfl ?_
     refine g_seq ?_
     refine g_seq ?_
     refine rD mixed hH fun w hH => ?_
     refine pM 0 (lv rfl) rfl rfl ?_
     refine pM 1 (lv rfl) rfl rfl ?_
     refine d_p (i := 2) (lv rfl) rfl (fun w => (r_ia el_26 rfl rfl ?_ ?_)) (by kernel_rfl) ?_; omega; omega
     refine d_ld (i := 3) [] (lv rfl) rfl lk_3 rfl (by kernel_rfl) ⟨_, _, _, hH.c1, _, hca, ?_⟩
     refine pF 4 (lv rfl) rfl fa_28_1 rfl ?_
     refine d_ld (i := 5) [] (lv rfl) rfl lk_25 rfl (by kernel_rfl) ⟨_, _, _, hH.c5, _, rfl, ?_⟩
     refine pM 6 (lv rfl) rfl rfl ?_
     refine d_p (i := 7) (lv rfl) rfl (fun w => (r_ia el_25 rfl rfl ?_ ?_)) (by kernel_rfl) ?_; omega; omega
     refine d_ld (i := 8) [] (lv rfl) rfl lk_39 rfl (by kernel_rfl) ⟨_, _, _, hH.old hbl, _, hcl0, ?_⟩
     refine d_p (i := 9) (lv rfl) rfl (fun w => (r_len el_39 rfl)) (by kernel_rfl) ?_
     refine d_p (i := 10) (lv rfl) rfl (fun w => (r_ge rfl rfl)) (by kernel_rfl) ?_
     refine d_end (by kernel_rfl) ?_
     refine g_if rfl (fun c2 => ?_) (fun c2 => ?_)
     ·refine g_exit rfl ?_
      refine g_region (l := [0, 1, 2]) rfl ?_
      refine vM (lv rfl) rfl rfl ?_
      refine o_v (lv rfl) rfl (r_addI rfl rfl ?_) ?_; omega
      refine vA (lv rfl) rfl rfl ?_
      (have hg : (l.length : Int) ≤ a := c2
       rw [List.getElem?_eq_none (by omega)] at hpl
       dsimp only at hpl
       exact hback _ _ _ ⟨k + 1, _, mk, S, at_, lf, st1 + 1, _, by omega, rfl, Mdl.ok_up hmk (by omega), hatl, hlfl, hatb.up (by omega), hlfb, by omega, by omega, hpl, (J_self (has_s rfl (has_s rfl (has_s rfl (has_s rfl (has_s rfl (has_s rfl (has_s rfl (has_s rfl (has_s rfl (has_s rfl has_0))))))))))), (hH.sel (by repeat' (first | exact Sel.refl _)))⟩ (by omega))
     ·obtain ⟨y, hy⟩ : ∃ y, l[a.toNat]? = some y := ⟨_, List.getElem?_eq_getElem (by omega)⟩
      rw [hy] at hpl
      dsimp only at hpl
      unfold trDo at hpl
      have hyok := hls.2 l (List.mem_of_getElem? hl) y (List.mem_of_getElem? hy)
      obtain ⟨bc, oc, csc, Tc, hle, hbc, hcc0⟩ := Rd.el hkC hrl hy
      rw [hle] at hcl0
      have hcc := dt_of hcc0
      have hdo := Mdl.do_ok hmk (by omega) hyok
      have h4ok : (⟨4, 0, 0, 0⟩ : Call).ok := by unfold Call.ok I; simp
      have hdo4 := Mdl.do_ok hmk (by omega) h4ok
      refine g_skip ?_
      refine g_seq ?_
      refine rD mixed hH fun w hH => ?_
      refine pF 0 (lv rfl) rfl fa_28_1 rfl ?_
      refine d_ld (i := 1) [12] (lv rfl) rfl lk_25 rfl (by kernel_rfl) ⟨_, _, _, hH.c5, _, rfl, ?_⟩
      refine pM 2 (lv rfl) rfl rfl ?_
      refine d_p (i := 3) (lv rfl) rfl (fun w => (r_ia el_25 rfl rfl ?_ ?_)) (by kernel_rfl) ?_; omega; omega
      refine d_ld (i := 4) [12] (lv rfl) rfl lk_39 rfl (by kernel_rfl) ⟨_, _, _, hH.old hbl, _, hcl0, ?_⟩
      refine pM 5 (lv rfl) rfl rfl ?_
      refine pM 6 (lv rfl) rfl rfl ?_
      refine d_p (i := 7) (lv rfl) rfl (fun w => (r_ia el_26 rfl rfl ?_ ?_)) (by kernel_rfl) ?_; omega; omega
      refine d_ld (i := 8) [12] (lv rfl) rfl lk_3 rfl (by kernel_rfl) ⟨_, _, _, hH.c1, _, hca, ?_⟩
      refine d_p (i := 9) (lv rfl) rfl (fun w => (r_ia el_39 rfl rfl ?_ ?_)) (by kernel_rfl) ?_; omega; omega
      refine d_ldN (i := 10) [12] (lv rfl) rfl lk_46 rfl (by kernel_rfl) ⟨_, _, _, hH.old hbc, _, hcc, rfl, ?_⟩
      refine d_l (j := 11) (by kernel_rfl) ?_
      refine o_al (lv rfl) rfl ze_46 hH ?_
      intro b15 w hH
      refine ⟨(keeps_cons (fun _ => (by exact hH.old ‹_›)) (keeps_cons (fun _ => (by exact hH.c2)) (keeps_cons (fun _ => (by exact hH.old ‹_›)) (keeps_cons (fun _ => (by exact hH.c6)) trivial)))), ?_⟩
      refine d_l (j := 12) (by kernel_rfl) ?_
      refine o_st (lv rfl) rfl lk_46 rfl (vs := [_, _, _, _]) rfl rfl (by exact hH) rfl rfl (by simp) rfl ?_
      intro w hH; dsimp only [setL, List.set] at hH
      refine ⟨(keeps_in rfl (keeps_in rfl (keeps_in rfl (keeps_in rfl trivial)))), ?_⟩
      refine d_end (by kernel_rfl) ?_
      refine g_seq ?_
      refine g_region (l := [0, 1, 2, 3, 4, 5, 6, 7, 8]) rfl ?_
      refine vM (lv rfl) rfl rfl ?_
      refine vM (lv rfl) rfl rfl ?_
      refine vM (lv rfl) rfl rfl ?_
      refine vM (lv rfl) rfl rfl ?_
      refine o_v (lv rfl) rfl (r_ia el_26 rfl rfl ?_ ?_) ?_; omega; omega
      refine o_ld (lv rfl) rfl lk_3 rfl ⟨_, _, _, hH.c2, _, hca, ?_⟩
      refine o_v (lv rfl) rfl (r_bld (ps := [_, _, _]) (cs := [_, _, _, _, _, _, _]) pl_59 rfl rfl) ?_
      refine o_al (lv rfl) rfl ze_59 hH ?_
      intro b16 w hH
      refine o_st (lv rfl) rfl lk_59 rfl (vs := [_, _, _, _, _, _, _]) rfl rfl (by exact hH) rfl rfl (by simp) rfl ?_
      intro w hH; dsimp only [setL, List.set] at hH
      refine g_seq ?_
      refine g_seq ?_
      refine g_join (fun e w => ∃ (e0 : Env), e = J e0 [(1, .slice ta turns.length tcap), (2, .int .i64 most), (3, .pointer (some ⟨b3, 0, none⟩)), (7, .pointer (some ⟨bm, 0, none⟩)), (8, (.slice oa S.length ocap)), (9, .int .i64 (vs.length : Int)), (10, .slice (some ⟨b24, 0, none⟩) vs.length vs.length), (11, .slice (some ⟨b26, 0, none⟩) vs.length vs.length), (12, .int .i64 (st1 + 1)), (13, .int .i64 k), (14, .int .i64 (wn : Int)), (15, .pointer (some ⟨b15, 0, none⟩)), (16, .pointer (some ⟨b16, 0, none⟩)), (100, .bool (decide (y.op ≠ 5 ∨ y.a < 1 ∨ 16 < y.a)))] ∧ Holds R (RMdlC bm (mk) :: cel b24 (flat encI (at_)) 3 :: cel b26 (flat encI (lf)) 3 :: cel b15 [.int .i64 y.op, .int .i64 y.flow, .int .i64 y.a, .int .i64 y.b] 46 :: cel b16 [.int .i64 (st1 + 1), .int .i64 (wn : Int), .int .i64 a, .int .i64 0, .slice none 0 0, .int .i64 0, .int .u64 0] 59 :: Vec 59 7 encPo (.slice oa S.length ocap) S :: All (S.map pch) :: cel b3 (plCells c (.slice (some ⟨bl, ol, none⟩) vs.length cap0)) 28 :: F) w) (fun kk hkk => ?_) ?_
      ·refine g_region (l := [0, 1, 2, 3, 4, 5, 6, 7, 8, 9, 10, 11, 12]) rfl ?_
       refine o_v (lv rfl) rfl (r_fa fa_46_0 rfl) ?_
       refine o_ld (lv rfl) rfl lk_3 rfl ⟨_, _, _, hH.c1, _, rfl, ?_⟩
       refine o_v (lv rfl) rfl (r_ne rfl rfl) ?_
       refine vM (lv rfl) rfl rfl ?_
       refine s_ops (fun g18_3 => ?_) (fun g18_3 => ?_)
       ·refine o_no rfl rfl rfl rfl ?_
        refine o_no rfl rfl rfl rfl ?_
        refine o_no rfl rfl rfl rfl ?_
        refine o_v (lv rfl) rfl (r_pickT rfl rfl) ?_
        refine vM (lv rfl) rfl rfl ?_
        refine o_no rfl rfl rfl rfl ?_
        refine o_no rfl rfl rfl rfl ?_
        refine o_no rfl rfl rfl rfl ?_
        refine o_v (lv rfl) rfl (r_pickT rfl rfl) ?_
        (have h1 : y.op ≠ 5 := g18_3
         have hde : decide (y.op ≠ 5 ∨ y.a < 1 ∨ 16 < y.a) = true := decide_eq_true (.inl h1)
         exact hkk _ _ ⟨_, by rw [hde]; exact (J_self (has_s rfl (has_s rfl (has_s rfl (has_s rfl (has_s rfl (has_s rfl (has_s rfl (has_s rfl (has_s rfl (has_s rfl (has_s rfl (has_s rfl (has_s rfl (has_s rfl has_0))))))))))))))), (hH.sel (by repeat' (first | exact Sel.refl _ | refine Sel.q1 ?_ | refine Sel.q2 ?_)))⟩)
       ·refine o_v (lvg rfl rfl rfl) rfl (r_fa fa_46_2 rfl) ?_
        refine o_ld (lvg rfl rfl rfl) rfl lk_3 rfl ⟨_, _, _, hH.c1, _, rfl, ?_⟩
        refine o_v (lvg rfl rfl rfl) rfl (r_lt rfl rfl) ?_
        refine o_v (lv rfl) rfl (r_pickF rfl rfl) ?_
        refine vM (lv rfl) rfl rfl ?_
        refine s_ops (fun g18_8 => ?_) (fun g18_8 => ?_)
        ·refine o_no rfl rfl rfl rfl ?_
         refine o_no rfl rfl rfl rfl ?_
         refine o_no rfl rfl rfl rfl ?_
         refine o_v (lv rfl) rfl (r_pickT rfl rfl) ?_
         (have h1 : y.a < 1 := g18_8
          have hde : decide (y.op ≠ 5 ∨ y.a < 1 ∨ 16 < y.a) = true := decide_eq_true (.inr (.inl h1))
          exact hkk _ _ ⟨_, by rw [hde]; exact (J_self (has_s rfl (has_s rfl (has_s rfl (has_s rfl (has_s rfl (has_s rfl (has_s rfl (has_s rfl (has_s rfl (has_s rfl (has_s rfl (has_s rfl (has_s rfl (has_s rfl has_0))))))))))))))), (hH.sel (by repeat' (first | exact Sel.refl _ | refine Sel.q1 ?_ | refine Sel.q2 ?_)))⟩)
        ·refine o_v (lvg rfl rfl rfl) rfl (r_fa fa_46_2 rfl) ?_
         refine o_ld (lvg rfl rfl rfl) rfl lk_3 rfl ⟨_, _, _, hH.c1, _, rfl, ?_⟩
         refine o_v (lvg rfl rfl rfl) rfl (r_gt rfl rfl) ?_
         refine o_v (lv rfl) rfl (r_pickF rfl rfl) ?_
         (have h1 : ¬ y.a < 1 := g18_8
          have hde : decide (y.op ≠ 5 ∨ y.a < 1 ∨ 16 < y.a) = decide (16 < y.a) := by rw [decide_eq_decide]; omega
          exact hkk _ _ ⟨_, by rw [hde]; exact (J_self (has_s rfl (has_s rfl (has_s rfl (has_s rfl (has_s rfl (has_s rfl (has_s rfl (has_s rfl (has_s rfl (has_s rfl (has_s rfl (has_s rfl (has_s rfl (has_s rfl has_0))))))))))))))), (hH.sel (by repeat' (first | exact Sel.refl _ | refine Sel.q1 ?_ | refine Sel.q2 ?_)))⟩)
      ·rintro _ w ⟨e2, rfl, hH⟩
       refine g_if rfl (fun c3 => ?_) (fun c3 => ?_)
       ·rw [if_pos c3] at hpl
        refine g_seq ?_
        refine g_region (l := [0, 1, 2, 3, 4]) rfl ?_
        refine vM (lv rfl) rfl rfl ?_
        refine o_ldN (lv rfl) rfl lk_46 rfl ⟨_, _, _, hH.c3, [_, _, _, _], rfl, rfl, ?_⟩
        refine o_call (lv rfl) rfl en_43 rfl (r09_Do hmk.1 hmk.2.1 (by have := hmk.2.2.1; omega) ⟨hmk.2.2.2.1, by have := hmk.2.2.2.2; omega⟩ y hyok (by exact hH)) ?_
        rintro _ w ⟨pv2, rfl, hH⟩
        obtain ⟨pa2, pcap2, rfl, -⟩ := hH.rd.len
        refine o_v (lv rfl) rfl (r_fa fa_59_3 rfl) ?_
        refine o_st (lv rfl) rfl lk_57 rfl (vs := [_, _, _, _]) rfl rfl (by exact hH.p5) rfl rfl (by simp) rfl ?_
        intro w hH; dsimp only [setL, List.set] at hH
        refine g_seq ?_
        refine g_region (l := [0, 1, 2, 3, 4, 5, 6]) rfl ?_
        refine vM (lv rfl) rfl rfl ?_
        refine vM (lv rfl) rfl rfl ?_
        refine o_v (lv rfl) rfl (r_ia el_26 rfl rfl ?_ ?_) ?_; omega; omega
        refine o_ld (lv rfl) rfl lk_3 rfl ⟨_, _, _, hH.c3, _, hca, ?_⟩
        refine o_v (lv rfl) rfl (r_addI rfl rfl ?_) ?_; omega
        refine o_v (lv rfl) rfl (r_ia el_26 rfl rfl ?_ ?_) ?_; omega; omega
        refine o_st (lv rfl) rfl lk_3 rfl rfl (vs := [_]) rfl (by exact hH.p3) rfl rfl ?_ (setL_flat1 (enc := encI) (f := fI) (fun _ => rfl) (l := at_) (x := a + 1) (i := wn) (by omega)) ?_
        ·rw [flat_length hkI]; simp only [List.length_singleton]; first | omega | (split <;> simp <;> omega) | (simp; omega)
        intro w hH
        refine g_seq ?_
        refine g_region (l := [0, 1, 2, 3, 4]) rfl ?_
        refine vM (lv rfl) rfl rfl ?_
        refine o_ldN (lv rfl) rfl lk_59 rfl ⟨_, _, _, hH.c1, [_, _, _, _, _, _, _], rfl, rfl, ?_⟩
        refine o_bs (lv rfl) rfl el_30 ze_59 rfl rfl rfl (ps := [_]) rfl rfl rfl (cs := [_, _, _, _, _, _, _]) rfl hH ?_
        intro b113 w hH
        refine o_app (enc := encPo) (lv rfl) rfl el_30 ze_59 rfl (fun _ => rfl) (fun _ => rfl) rfl rfl (by exact hH.p7) (rd_of_cel [((⟨st1 + 1, (wn : Int), a, (mk.do y).1⟩, pa2, pcap2) : Point × Option Addr × Nat)] (by exact hH.c0) rfl) (by simp; omega) (by simp; omega) ?_
        intro v114 w hH; obtain ⟨a114, k114, rfl, -⟩ := hH.rd.len
        refine vA (lv rfl) rfl rfl ?_
        refine g_exit rfl ?_
        refine g_region (l := [0, 1, 2]) rfl ?_
        refine vM (lv rfl) rfl rfl ?_
        refine o_v (lv rfl) rfl (r_addI rfl rfl ?_) ?_; omega
        refine vA (lv rfl) rfl rfl ?_
        (have hg : (y.op ≠ 5 ∨ y.a < 1 ∨ 16 < y.a) := c3
         have hpt := pts_snoc (S := S) (x := ⟨st1 + 1, (wn : Int), a, (mk.do y).1⟩) (pa := pa2) (pcap := pcap2) (F := [RMdlC bm (mk.do y).2, cel b24 (flat encI (at_.set wn (a + 1))) 3, cel b26 (flat encI lf) 3, Vec 59 7 encPo _ (S ++ [(⟨st1 + 1, (wn : Int), a, (mk.do y).1⟩, pa2, pcap2)]), cel b3 (plCells c (.slice (some ⟨bl, ol, none⟩) vs.length cap0)) 28] ++ F) (hH.sel (by repeat' (first | exact Sel.refl _ | refine Sel.q0 ?_ | refine Sel.q2 ?_ | refine Sel.q3 ?_ | refine Sel.q4 ?_ | refine Sel.q7 ?_ | refine Sel.skip _ ?_)))
         replace hH := hpt
         exact hback _ _ _ ⟨k + 1, _, (mk.do y).2, S ++ [(⟨st1 + 1, (wn : Int), a, (mk.do y).1⟩, pa2, pcap2)], at_.set wn (a + 1), lf, st1 + 1, _, by omega, rfl, hdo.1, by simpa using hatl, hlfl, hatb.set (by omega) wn (by omega), hlfb, by omega, by simp; omega, by rw [List.map_append]; exact hpl, (J_self (has_s rfl (has_s rfl (has_s rfl (has_s rfl (has_s rfl (has_s rfl (has_s rfl (has_s rfl (has_s rfl (has_s rfl has_0))))))))))), (hH.sel (by repeat' (first | exact Sel.refl _ | refine Sel.q1 ?_)))⟩ (by omega))
       ·rw [if_neg c3] at hpl
        refine g_skip ?_
        refine g_seq ?_
        refine g_seq ?_
        have hcl2 := hcl
        refine g_region (l := [0, 1, 2, 3, 4]) rfl ?_
        refine vM (lv rfl) rfl rfl ?_
        refine vM (lv rfl) rfl rfl ?_
        refine o_v (lv rfl) rfl (r_ia el_26 rfl rfl ?_ ?_) ?_; omega; omega
        refine o_ld (lv rfl) rfl lk_3 rfl ⟨_, _, _, hH.c2, _, hcl, ?_⟩
        refine o_v (lv rfl) rfl (r_eq rfl rfl) ?_
        refine g_join (fun e w => ∃ (e0 : Env), e = J e0 [(1, .slice ta turns.length tcap), (2, .int .i64 most), (3, .pointer (some ⟨b3, 0, none⟩)), (7, .pointer (some ⟨bm, 0, none⟩)), (8, (.slice oa S.length ocap)), (9, .int .i64 (vs.length : Int)), (10, .slice (some ⟨b24, 0, none⟩) vs.length vs.length), (11, .slice (some ⟨b26, 0, none⟩) vs.length vs.length), (12, .int .i64 (st1 + 1)), (13, .int .i64 k), (14, .int .i64 (wn : Int)), (15, .pointer (some ⟨b15, 0, none⟩)), (16, .pointer (some ⟨b16, 0, none⟩))] ∧ Holds R (RMdlC bm (mk) :: cel b24 (flat encI (at_)) 3 :: cel b26 (flat encI ((if l0 = 0 then lf.set wn y.a else lf))) 3 :: cel b15 [.int .i64 y.op, .int .i64 y.flow, .int .i64 y.a, .int .i64 y.b] 46 :: cel b16 [.int .i64 (st1 + 1), .int .i64 (wn : Int), .int .i64 a, .int .i64 0, .slice none 0 0, .int .i64 0, .int .u64 0] 59 :: Vec 59 7 encPo (.slice oa S.length ocap) S :: All (S.map pch) :: cel b3 (plCells c (.slice (some ⟨bl, ol, none⟩) vs.length cap0)) 28 :: F) w) (fun kk hkk => ?_) ?_
        ·refine g_if rfl (fun c4 => ?_) (fun c4 => ?_)
         ·refine g_region (l := [0, 1, 2, 3, 4, 5]) rfl ?_
          refine vM (lv rfl) rfl rfl ?_
          refine vM (lv rfl) rfl rfl ?_
          refine o_v (lv rfl) rfl (r_fa fa_46_2 rfl) ?_
          refine o_ld (lv rfl) rfl lk_3 rfl ⟨_, _, _, hH.c3, _, rfl, ?_⟩
          refine o_v (lv rfl) rfl (r_ia el_26 rfl rfl ?_ ?_) ?_; omega; omega
          refine o_st (lv rfl) rfl lk_3 rfl rfl (vs := [_]) rfl (by exact hH.p2) rfl rfl ?_ (setL_flat1 (enc := encI) (f := fI) (fun _ => rfl) (l := lf) (x := y.a) (i := wn) (by omega)) ?_
          ·rw [flat_length hkI]; simp only [List.length_singleton]; first | omega | (split <;> simp <;> omega) | (simp; omega)
          intro w hH
          (have h1 : l0 = 0 := c4
           exact hkk _ _ ⟨_, (J_self (has_s rfl (has_s rfl (has_s rfl (has_s rfl (has_s rfl (has_s rfl (has_s rfl (has_s rfl (has_s rfl (has_s rfl (has_s rfl (has_s rfl (has_s rfl has_0)))))))))))))), by rw [if_pos h1]; exact (hH.sel (by repeat' (first | exact Sel.refl _ | refine Sel.q1 ?_)))⟩)
         ·refine g_skip ?_
          (have h1 : ¬ l0 = 0 := c4
           exact hkk _ _ ⟨_, (J_self (has_s rfl (has_s rfl (has_s rfl (has_s rfl (has_s rfl (has_s rfl (has_s rfl (has_s rfl (has_s rfl (has_s rfl (has_s rfl (has_s rfl (has_s rfl has_0)))))))))))))), by rw [if_neg h1]; exact (hH.sel (by repeat' (first | exact Sel.refl _)))⟩)
        ·rintro _ w ⟨e3, rfl, hH⟩
         have hl2 : (if l0 = 0 then lf.set wn y.a else lf)[wn]? = some (if l0 = 0 then y.a else l0) := by
           split
           ·rw [List.getElem?_set_self (by omega)]
           ·exact hl0
         have hl2l : (if l0 = 0 then lf.set wn y.a else lf).length = vs.length := by split <;> simp [hlfl]
         have hcl2 : (flat encI (if l0 = 0 then lf.set wn y.a else lf))[0 + ((wn : Int)).toNat * 1]? = some (.int .i64 (if l0 = 0 then y.a else l0)) := flat_at1 (f := fI) (i := wn) (fun _ => rfl) (by omega) hl2
         have hl1b : 1 ≤ (if l0 = 0 then y.a else l0) ∧ (if l0 = 0 then y.a else l0) ≤ 16 := by split <;> omega
         have hss : ∀ v : Int, (if l0 = 0 then lf.set wn y.a else lf).set wn v = lf.set wn v := fun v => by split <;> simp
         clear hcl
         refine g_seq ?_
         refine g_region (l := [0, 1, 2, 3, 4]) rfl ?_
         refine vM (lv rfl) rfl rfl ?_
         refine o_v (lv rfl) rfl (r_bld (ps := [_]) (cs := [_, _, _, _]) pl_46 rfl rfl) ?_
         refine o_call (lv rfl) rfl en_43 rfl (r09_Do hmk.1 hmk.2.1 (by have := hmk.2.2.1; omega) ⟨hmk.2.2.2.1, by have := hmk.2.2.2.2; omega⟩ ⟨4, 0, 0, 0⟩ h4ok (by exact hH)) ?_
         rintro _ w ⟨pv2, rfl, hH⟩
         obtain ⟨pa2, pcap2, rfl, -⟩ := hH.rd.len
         refine o_v (lv rfl) rfl (r_fa fa_59_3 rfl) ?_
         refine o_st (lv rfl) rfl lk_57 rfl (vs := [_, _, _, _]) rfl rfl (by exact hH.p5) rfl rfl (by simp) rfl ?_
         intro w hH; dsimp only [setL, List.set] at hH
         refine g_seq ?_
         refine g_region (l := [0, 1, 2, 3, 4, 5, 6]) rfl ?_
         refine vM (lv rfl) rfl rfl ?_
         refine vM (lv rfl) rfl rfl ?_
         refine o_v (lv rfl) rfl (r_ia el_26 rfl rfl ?_ ?_) ?_; omega; omega
         refine o_ld (lv rfl) rfl lk_3 rfl ⟨_, _, _, hH.c4, _, hcl2, ?_⟩
         refine o_v (lv rfl) rfl (r_subI rfl rfl ?_) ?_; omega
         refine o_v (lv rfl) rfl (r_ia el_26 rfl rfl ?_ ?_) ?_; omega; omega
         refine o_st (lv rfl) rfl lk_3 rfl rfl (vs := [_]) rfl (by exact hH.p4) rfl rfl ?_ (setL_flat1 (enc := encI) (f := fI) (fun _ => rfl) (l := (if l0 = 0 then lf.set wn y.a else lf)) (x := ((if l0 = 0 then y.a else l0) - 1)) (i := wn) (by omega)) ?_
         ·rw [flat_length hkI]; simp only [List.length_singleton]; first | omega | (split <;> simp <;> omega) | (simp; omega)
         intro w hH
         refine g_seq ?_
         refine g_seq ?_
         refine g_join (fun e w => ∃ (e0 : Env), e = J e0 [(1, .slice ta turns.length tcap), (2, .int .i64 most), (3, .pointer (some ⟨b3, 0, none⟩)), (7, .pointer (some ⟨bm, 0, none⟩)), (8, (.slice oa S.length ocap)), (9, .int .i64 (vs.length : Int)), (10, .slice (some ⟨b24, 0, none⟩) vs.length vs.length), (11, .slice (some ⟨b26, 0, none⟩) vs.length vs.length), (12, .int .i64 (st1 + 1)), (13, .int .i64 k), (14, .int .i64 (wn : Int)), (16, .pointer (some ⟨b16, 0, none⟩)), (145, .bool (decide (((if l0 = 0 then y.a else l0) - 1) = 0 ∨ (mk.do ⟨4, 0, 0, 0⟩).1.e = 10)))] ∧ Holds R (RMdlC bm ((mk.do ⟨4, 0, 0, 0⟩).2) :: cel b24 (flat encI (at_)) 3 :: cel b26 (flat encI (lf.set wn ((if l0 = 0 then y.a else l0) - 1))) 3 :: cel b16 [.int .i64 (st1 + 1), .int .i64 (wn : Int), .int .i64 a, .int .i64 (mk.do ⟨4, 0, 0, 0⟩).1.e, .slice pa2 (mk.do ⟨4, 0, 0, 0⟩).1.packets.length pcap2, .int .i64 (mk.do ⟨4, 0, 0, 0⟩).1.n, .int .u64 (mk.do ⟨4, 0, 0, 0⟩).1.v] 59 :: Vec 54 3 encP (.slice pa2 (mk.do ⟨4, 0, 0, 0⟩).1.packets.length pcap2) (mk.do ⟨4, 0, 0, 0⟩).1.packets :: Vec 59 7 encPo (.slice oa S.length ocap) S :: All (S.map pch) :: cel b3 (plCells c (.slice (some ⟨bl, ol, none⟩) vs.length cap0)) 28 :: F) w) (fun kk hkk => ?_) ?_
         ·rw [hss] at hH
          have hcl2 : (flat encI (lf.set wn ((if l0 = 0 then y.a else l0) - 1)))[0 + ((wn : Int)).toNat * 1]? = some (.int .i64 ((if l0 = 0 then y.a else l0) - 1)) := flat_at1 (f := fI) (i := wn) (fun _ => rfl) (by omega) (by rw [List.getElem?_set_self (by omega)])
          refine g_region (l := [0, 1, 2, 3, 4, 5, 6, 7, 8, 9, 10]) rfl ?_
          refine vM (lv rfl) rfl rfl ?_
          refine vM (lv rfl) rfl rfl ?_
          refine o_v (lv rfl) rfl (r_ia el_26 rfl rfl ?_ ?_) ?_; omega; omega
          refine o_ld (lv rfl) rfl lk_3 rfl ⟨_, _, _, hH.c0, _, hcl2, ?_⟩
          refine o_v (lv rfl) rfl (r_eq rfl rfl) ?_
          refine vM (lv rfl) rfl rfl ?_
          refine s_ops (fun g26_5 => ?_) (fun g26_5 => ?_)
          ·refine o_no rfl rfl rfl rfl ?_
           refine o_no rfl rfl rfl rfl ?_
           refine o_no rfl rfl rfl rfl ?_
           refine o_no rfl rfl rfl rfl ?_
           refine o_v (lv rfl) rfl (r_pickT rfl rfl) ?_
           (have h1 : ((if l0 = 0 then y.a else l0) - 1) = 0 := g26_5
            have hde : decide (((if l0 = 0 then y.a else l0) - 1) = 0 ∨ (mk.do ⟨4, 0, 0, 0⟩).1.e = 10) = true := decide_eq_true (.inl h1)
            exact hkk _ _ ⟨_, by rw [hde]; exact (J_self (has_s rfl (has_s rfl (has_s rfl (has_s rfl (has_s rfl (has_s rfl (has_s rfl (has_s rfl (has_s rfl (has_s rfl (has_s rfl (has_s rfl (has_s rfl has_0)))))))))))))), by rw [← hss] ; rw [hss]; exact (hH.sel (by repeat' (first | exact Sel.refl _ | refine Sel.q0 ?_ | refine Sel.q1 ?_ | refine Sel.q3 ?_ | refine Sel.skip _ ?_)))⟩)
          ·refine o_v (lvg rfl rfl rfl) rfl (r_fa fa_59_3 rfl) ?_
           refine o_v (lvg rfl rfl rfl) rfl (r_fa fa_57_0 rfl) ?_
           refine o_ld (lvg rfl rfl rfl) rfl lk_55 rfl ⟨_, _, _, hH.c1, _, rfl, ?_⟩
           refine o_v (lvg rfl rfl rfl) rfl (r_eq rfl rfl) ?_
           refine o_v (lv rfl) rfl (r_pickF rfl rfl) ?_
           (have h1 : ¬ ((if l0 = 0 then y.a else l0) - 1) = 0 := g26_5
            have hde : decide (((if l0 = 0 then y.a else l0) - 1) = 0 ∨ (mk.do ⟨4, 0, 0, 0⟩).1.e = 10) = decide ((mk.do ⟨4, 0, 0, 0⟩).1.e = 10) := by rw [decide_eq_decide]; exact ⟨fun h => h.resolve_left h1, .inr⟩
            exact hkk _ _ ⟨_, by rw [hde]; exact (J_self (has_s rfl (has_s rfl (has_s rfl (has_s rfl (has_s rfl (has_s rfl (has_s rfl (has_s rfl (has_s rfl (has_s rfl (has_s rfl (has_s rfl (has_s rfl has_0)))))))))))))), (hH.sel (by repeat' (first | exact Sel.refl _ | refine Sel.q0 ?_ | refine Sel.q1 ?_ | refine Sel.q3 ?_ | refine Sel.skip _ ?_)))⟩)
         ·rintro _ w ⟨e4, rfl, hH⟩
          refine g_if rfl (fun c5 => ?_) (fun c5 => ?_)
          ·rw [if_pos c5] at hpl
           refine g_seq ?_
           refine g_region (l := [0, 1, 2, 3]) rfl ?_
           refine vM (lv rfl) rfl rfl ?_
           refine vM (lv rfl) rfl rfl ?_
           refine o_v (lv rfl) rfl (r_ia el_26 rfl rfl ?_ ?_) ?_; omega; omega
           refine o_st (lv rfl) rfl lk_3 rfl rfl (vs := [_]) rfl (by exact hH.p2) rfl rfl ?_ (setL_flat1 (enc := encI) (f := fI) (fun _ => rfl) (l := (lf.set wn ((if l0 = 0 then y.a else l0) - 1))) (x := 0) (i := wn) (by omega)) ?_
           ·rw [flat_length hkI]; simp only [List.length_singleton]; first | omega | (split <;> simp <;> omega) | (simp; omega)
           intro w hH
           refine g_region (l := [0, 1, 2, 3, 4, 5, 6]) rfl ?_
           refine vM (lv rfl) rfl rfl ?_
           refine vM (lv rfl) rfl rfl ?_
           refine o_v (lv rfl) rfl (r_ia el_26 rfl rfl ?_ ?_) ?_; omega; omega
           refine o_ld (lv rfl) rfl lk_3 rfl ⟨_, _, _, hH.c2, _, hca, ?_⟩
           refine o_v (lv rfl) rfl (r_addI rfl rfl ?_) ?_; omega
           refine o_v (lv rfl) rfl (r_ia el_26 rfl rfl ?_ ?_) ?_; omega; omega
           refine o_st (lv rfl) rfl lk_3 rfl rfl (vs := [_]) rfl (by exact hH.p2) rfl rfl ?_ (setL_flat1 (enc := encI) (f := fI) (fun _ => rfl) (l := at_) (x := a + 1) (i := wn) (by omega)) ?_
           ·rw [flat_length hkI]; simp only [List.length_singleton]; first | omega | (split <;> simp <;> omega) | (simp; omega)
           intro w hH
           refine g_region (l := [0, 1, 2, 3, 4]) rfl ?_
           refine vM (lv rfl) rfl rfl ?_
           refine o_ldN (lv rfl) rfl lk_59 rfl ⟨_, _, _, hH.c3, [_, _, _, _, _, _, _], rfl, rfl, ?_⟩
           refine o_bs (lv rfl) rfl el_30 ze_59 rfl rfl rfl (ps := [_]) rfl rfl rfl (cs := [_, _, _, _, _, _, _]) rfl hH ?_
           intro b157 w hH
           refine o_app (enc := encPo) (lv rfl) rfl el_30 ze_59 rfl (fun _ => rfl) (fun _ => rfl) rfl rfl (by exact hH.p6) (rd_of_cel [((⟨st1 + 1, (wn : Int), a, (mk.do ⟨4, 0, 0, 0⟩).1⟩, pa2, pcap2) : Point × Option Addr × Nat)] (by exact hH.c0) rfl) (by simp; omega) (by simp; omega) ?_
           intro v158 w hH; obtain ⟨a158, k158, rfl, -⟩ := hH.rd.len
           refine vA (lv rfl) rfl rfl ?_
           refine g_inBlock ?_
           refine g_region (l := [0, 1, 2]) rfl ?_
           refine vM (lv rfl) rfl rfl ?_
           refine o_v (lv rfl) rfl (r_addI rfl rfl ?_) ?_; omega
           refine vA (lv rfl) rfl rfl ?_
           (have hg : ((if l0 = 0 then y.a else l0) - 1) = 0 ∨ (mk.do ⟨4, 0, 0, 0⟩).1.e = 10 := c5
            rw [List.set_set] at hH
            have hpt := pts_snoc (S := S) (x := ⟨st1 + 1, (wn : Int), a, (mk.do ⟨4, 0, 0, 0⟩).1⟩) (pa := pa2) (pcap := pcap2) (F := [RMdlC bm (mk.do ⟨4, 0, 0, 0⟩).2, cel b24 (flat encI (at_.set wn (a + 1))) 3, cel b26 (flat encI (lf.set wn 0)) 3, Vec 59 7 encPo _ (S ++ [(⟨st1 + 1, (wn : Int), a, (mk.do ⟨4, 0, 0, 0⟩).1⟩, pa2, pcap2)]), cel b3 (plCells c (.slice (some ⟨bl, ol, none⟩) vs.length cap0)) 28] ++ F) (hH.sel (by repeat' (first | exact Sel.refl _ | refine Sel.q0 ?_ | refine Sel.q2 ?_ | refine Sel.q4 ?_ | refine Sel.q6 ?_ | refine Sel.skip _ ?_)))
            replace hH := hpt
            exact hback _ _ _ ⟨k + 1, _, (mk.do ⟨4, 0, 0, 0⟩).2, S ++ [(⟨st1 + 1, (wn : Int), a, (mk.do ⟨4, 0, 0, 0⟩).1⟩, pa2, pcap2)], at_.set wn (a + 1), lf.set wn 0, st1 + 1, _, by omega, rfl, hdo4.1, by simpa using hatl, by simpa using hlfl, hatb.set (by omega) wn (by omega), hlfb.set (by omega) wn (by omega), by omega, by simp; omega, by rw [List.map_append]; exact hpl, (J_self (has_s rfl (has_s rfl (has_s rfl (has_s rfl (has_s rfl (has_s rfl (has_s rfl (has_s rfl (has_s rfl (has_s rfl has_0))))))))))), (hH.sel (by repeat' (first | exact Sel.refl _ | refine Sel.q1 ?_)))⟩ (by omega))
          ·rw [if_neg c5] at hpl
           refine g_skip ?_
           refine g_region (l := [0, 1, 2, 3, 4]) rfl ?_
           refine vM (lv rfl) rfl rfl ?_
           refine o_ldN (lv rfl) rfl lk_59 rfl ⟨_, _, _, hH.c3, [_, _, _, _, _, _, _], rfl, rfl, ?_⟩
           refine o_bs (lv rfl) rfl el_30 ze_59 rfl rfl rfl (ps := [_]) rfl rfl rfl (cs := [_, _, _, _, _, _, _]) rfl hH ?_
           intro b157 w hH
           refine o_app (enc := encPo) (lv rfl) rfl el_30 ze_59 rfl (fun _ => rfl) (fun _ => rfl) rfl rfl (by exact hH.p6) (rd_of_cel [((⟨st1 + 1, (wn : Int), a, (mk.do ⟨4, 0, 0, 0⟩).1⟩, pa2, pcap2) : Point × Option Addr × Nat)] (by exact hH.c0) rfl) (by simp; omega) (by simp; omega) ?_
           intro v158 w hH; obtain ⟨a158, k158, rfl, -⟩ := hH.rd.len
           refine vA (lv rfl) rfl rfl ?_
           refine g_inBlock ?_
           refine g_region (l := [0, 1, 2]) rfl ?_
           refine vM (lv rfl) rfl rfl ?_
           refine o_v (lv rfl) rfl (r_addI rfl rfl ?_) ?_; omega
           refine vA (lv rfl) rfl rfl ?_
           (have hg : ¬ (((if l0 = 0 then y.a else l0) - 1) = 0 ∨ (mk.do ⟨4, 0, 0, 0⟩).1.e = 10) := c5
            have hpt := pts_snoc (S := S) (x := ⟨st1 + 1, (wn : Int), a, (mk.do ⟨4, 0, 0, 0⟩).1⟩) (pa := pa2) (pcap := pcap2) (F := [RMdlC bm (mk.do ⟨4, 0, 0, 0⟩).2, cel b24 (flat encI at_) 3, cel b26 (flat encI (lf.set wn ((if l0 = 0 then y.a else l0) - 1))) 3, Vec 59 7 encPo _ (S ++ [(⟨st1 + 1, (wn : Int), a, (mk.do ⟨4, 0, 0, 0⟩).1⟩, pa2, pcap2)]), cel b3 (plCells c (.slice (some ⟨bl, ol, none⟩) vs.length cap0)) 28] ++ F) (hH.sel (by repeat' (first | exact Sel.refl _ | refine Sel.q0 ?_ | refine Sel.q2 ?_ | refine Sel.q6 ?_ | refine Sel.skip _ ?_)))
            replace hH := hpt
            exact hback _ _ _ ⟨k + 1, _, (mk.do ⟨4, 0, 0, 0⟩).2, S ++ [(⟨st1 + 1, (wn : Int), a, (mk.do ⟨4, 0, 0, 0⟩).1⟩, pa2, pcap2)], at_, lf.set wn ((if l0 = 0 then y.a else l0) - 1), st1 + 1, _, by omega, rfl, hdo4.1, hatl, by simpa using hlfl, hatb.up (by omega), hlfb.set (by omega) wn (by omega), by omega, by simp; omega, by rw [List.map_append]; exact hpl, (J_self (has_s rfl (has_s rfl (has_s rfl (has_s rfl (has_s rfl (has_s rfl (has_s rfl (has_s rfl (has_s rfl (has_s rfl has_0))))))))))), (hH.sel (by repeat' (first | exact Sel.refl _ | refine Sel.q1 ?_)))⟩ (by omega))
   ·omega
  ·refine o_no rfl rfl rfl rfl ?_
   refine o_no rfl rfl rfl rfl ?_
   refine o_v (lv rfl) rfl (r_pickF rfl rfl) ?_
   refine g_false rfl ?_
   refine g_exit rfl ?_
   refine g_seq ?_
   refine g_region (l := [0, 1]) rfl ?_
   refine vM (lv rfl) rfl rfl ?_
   refine vA (lv rfl) rfl rfl ?_
   refine g_rq Tryz.func11 (res_t rfl res_0) ?_
   rw [hpl, show most - k = 0 from by omega]
   exact PtsC.mk (hH.sel (by repeat' (first | exact Sel.refl _ | refine Sel.q3 ?_ | refine Sel.skip _ ?_)))
end
end Go.Proofs.YtkdbglfdgeldpaaGreat
