/- Contract of package law28: FairDear answers true; the plain law of its plan. Condition: the input is only read. -/
import Derived.Test.YtkdbglfdgeldpaaGreatPre
namespace Go.Proofs.YtkdbglfdgeldpaaGreat
open Go.Lt
def dL (s : Int) (t : Bool) : List Call := [⟨1, 0, 1, 8⟩, ⟨1, 1, 1, 8⟩, ⟨3, 0, s, 0⟩] ++ (if t then [⟨3, 1, 1, 0⟩] else [])
def dC (u : Int) : Config := ⟨1, 2, 1, 0, u⟩
def dF (u : Int) : Flw := newFlw (inverse u 1) 8
theorem h8 : min (max (8 : Int) 1) 8 = 8 := by decide
theorem d_do1 (u : Int) : ((mkMdl (dC u)).do ⟨1, 0, 1, 8⟩) = (code 0, ⟨dC u, ⟨[(0, dF u)], 0, 0⟩, 0⟩) := by
  unfold Mdl.do mkMdl Mdl.register dC dF
  simp [Sq.at, mates, Sq.add]
theorem d_do2 (u : Int) : (Mdl.do ⟨dC u, ⟨[(0, dF u)], 0, 0⟩, 0⟩ ⟨1, 1, 1, 8⟩) = (code 0, ⟨dC u, ⟨[(0, dF u), (1, dF u)], 0, 0⟩, 0⟩) := by
  unfold Mdl.do Mdl.register dC dF
  simp [Sq.at, mates, Sq.add, List.findIdx?_cons]
def dS (u s : Int) : Sq := ⟨[(0, (dF u).arrive 0 ⟨0, s, 0⟩), (1, dF u)], 0, 0⟩
theorem d_do3 {u s : Int} (h1 : 1 ≤ s) (h2 : s ≤ 65536) : (Mdl.do ⟨dC u, ⟨[(0, dF u), (1, dF u)], 0, 0⟩, 0⟩ ⟨3, 0, s, 0⟩) = (code 0, ⟨dC u, dS u s, 0⟩) := by
  unfold Mdl.do
  rw [if_neg (by dsimp only; omega), if_neg (by dsimp only; omega), if_pos rfl, if_neg (by dsimp only; omega)]
  simp [Sq.at, Sq.arrive, Sq.put, List.findIdx?_cons, dS, show (dF u).l = [] from rfl, show (dF u).most = 8 from h8]
theorem d_do4 (u s : Int) : ∃ S, (Mdl.do ⟨dC u, dS u s, 0⟩ ⟨3, 1, 1, 0⟩) = (code 0, S) := by
  unfold Mdl.do
  rw [if_neg (by decide), if_neg (by decide), if_pos rfl, if_neg (by decide)]
  simp [Sq.at, Sq.arrive, Sq.put, List.findIdx?_cons, dS, show (dF u).l = [] from rfl, show (dF u).most = 8 from h8]
theorem tstep_yes {l : List Call} {c : Call} {m : Mdl} {i : Nat} {a : Nat} {out : List Point} {st : Int} (hc : l[a]? = some c) (h5 : c.op ≠ 5) :
    trStep [l] [] i ⟨m, out, [(a : Int)], [0], st⟩ = ⟨(m.do c).2, out ++ [⟨st + 1, 0, a, (m.do c).1⟩], [((a + 1 : Nat) : Int)], [0], st + 1⟩ := by
  unfold trStep trW trPre trDo
  simp [hc, h5, Nat.mod_one]
theorem tstep_no {l : List Call} {m : Mdl} {i : Nat} {a : Nat} {out : List Point} {st : Int} (hc : l[a]? = none) :
    trStep [l] [] i ⟨m, out, [(a : Int)], [0], st⟩ = ⟨m, out, [(a : Int)], [0], st + 1⟩ := by
  unfold trStep trW trPre
  simp [hc, Nat.mod_one]
theorem trL_no {l : List Call} {m : Mdl} {a : Nat} {out : List Point} (hc : l[a]? = none) : ∀ (k i : Nat) (st : Int), (trL [l] [] k i ⟨m, out, [(a : Int)], [0], st⟩).out = out
  | 0, _, _ => rfl
  | k + 1, i, st => by rw [trL_S, tstep_no hc]; exact trL_no hc k _ _
def dP (t : Bool) : List Point := [⟨1, 0, 0, code 0⟩, ⟨2, 0, 1, code 0⟩, ⟨3, 0, 2, code 0⟩] ++ (if t then [⟨4, 0, 3, code 0⟩] else [])
theorem d_trace {u s : Int} (h1 : 1 ≤ s) (h2 : s ≤ 65536) (t : Bool) : traceOf (dC u) [dL s t] [] 20 = dP t := by
  unfold traceOf
  rw [show tr0 (dC u) [dL s t].length = ⟨mkMdl (dC u), [], [((0 : Nat) : Int)], [0], 0⟩ from rfl]
  rw [trL_S, tstep_yes (c := ⟨1, 0, 1, 8⟩) rfl (by decide), d_do1]
  rw [trL_S, tstep_yes (c := ⟨1, 1, 1, 8⟩) rfl (by decide), d_do2]
  rw [trL_S, tstep_yes (c := ⟨3, 0, s, 0⟩) rfl (by dsimp only; omega), d_do3 h1 h2]
  cases t with
  | false => rw [trL_no (by rfl)]; rfl
  | true =>
    obtain ⟨S, hS⟩ := d_do4 u s
    rw [trL_S, tstep_yes (c := ⟨3, 1, 1, 0⟩) rfl (by decide), hS, trL_no (by rfl)]; rfl
theorem d_play {u s : Int} (h1 : 1 ≤ s) (h2 : s ≤ 65536) (hu : 1 ≤ u ∧ u ≤ 4611686018427387904) (t : Bool) : ∃ me, plays (dC u) [dL s t] (dP t) = some me := by
  have hcfg : cfgOk (dC u) := by unfold cfgOk dC; dsimp only; omega
  unfold plays
  rw [if_pos hcfg]
  have hc1 : callOf [dL s t] ⟨1, 0, 0, code 0⟩ = (⟨1, 0, 1, 8⟩, true) := by unfold callOf dL; simp
  have hc2 : callOf [dL s t] ⟨2, 0, 1, code 0⟩ = (⟨1, 1, 1, 8⟩, true) := by unfold callOf dL; simp
  have hc3 : callOf [dL s t] ⟨3, 0, 2, code 0⟩ = (⟨3, 0, s, 0⟩, true) := by unfold callOf dL; simp
  have e3 : ∀ l, playL [dL s t] (⟨1, 0, 0, code 0⟩ :: ⟨2, 0, 1, code 0⟩ :: ⟨3, 0, 2, code 0⟩ :: l) (mkMdl (dC u)) none = playL [dL s t] l ⟨dC u, dS u s, 0⟩ (some 3) := fun l => by
    rw [playL_yes (by rw [hc1]) (by rintro ⟨_, h, _⟩; cases h) (by rw [hc1, d_do1]), hc1, d_do1]
    rw [playL_yes (by rw [hc2]) (by rintro ⟨_, h, h'⟩; cases h; revert h'; decide) (by rw [hc2, d_do2]), hc2, d_do2]
    rw [playL_yes (by rw [hc3]) (by rintro ⟨_, h, h'⟩; cases h; revert h'; decide) (by rw [hc3, d_do3 h1 h2]), hc3, d_do3 h1 h2]
  cases t with
  | false => exact ⟨_, e3 []⟩
  | true =>
    have hc4 : callOf [dL s true] ⟨4, 0, 3, code 0⟩ = (⟨3, 1, 1, 0⟩, true) := by unfold callOf dL; simp
    obtain ⟨S, hS⟩ := d_do4 u s
    refine ⟨S, (e3 [⟨4, 0, 3, code 0⟩]).trans ?_⟩
    rw [playL_yes (by rw [hc4]) (by rintro ⟨_, h, h'⟩; cases h; revert h'; decide) (by rw [hc4, hS]), hc4, hS]
    rfl
theorem sumsL_S (ls : List (List Call)) (f g : Int) (x : Point) (l : List Point) (m : Mdl) (t : Sums) : sumsL ls f g (x :: l) m t = sumsL ls f g l (m.do (callOf ls x).1).2 (sumStep ls f g m t x) := rfl
theorem sum_no {ls : List (List Call)} {f g : Int} {x : Point} {m : Mdl} {t : Sums} (h : (callOf ls x).1.op ≠ 3) : sumStep ls f g m t x = t := by
  unfold sumStep
  rw [if_neg (fun hc => h hc.1)]
theorem sum_yes {ls : List (List Call)} {f g : Int} {x : Point} {m : Mdl} {t : Sums} (h : (callOf ls x).1.op = 3) (h2 : x.ret.e = 0) :
    sumStep ls f g m t x = ⟨min (satAdd t.all (costAt ls m x)) lim, if (callOf ls x).1.flow = f then max t.a (costAt ls m x) else t.a, if (callOf ls x).1.flow = g then max t.b (costAt ls m x) else t.b⟩ := by
  unfold sumStep
  rw [if_pos ⟨h, h2⟩]
theorem d_sums {u s : Int} (h1 : 1 ≤ s) (h2 : s ≤ 65536) (hu : 1 ≤ u) (hsu : s * u ≤ 4611686018427387904) (t : Bool) :
    sums (dC u) [dL s t] (dP t) 0 1 = if t then ⟨min (s * u + u) 4611686018427387904, s * u, u⟩ else ⟨s * u, s * u, 0⟩ := by
  have hsu0 : 0 ≤ s * u := Int.mul_nonneg (by omega) (by omega)
  have hus : u ≤ s * u := by have := Int.mul_le_mul_of_nonneg_right h1 (show 0 ≤ u by omega); omega
  have hi : inverse u 1 = u := by unfold inverse; rw [Int.ediv_one]; omega
  have hc1 : callOf [dL s t] ⟨1, 0, 0, code 0⟩ = (⟨1, 0, 1, 8⟩, true) := by unfold callOf dL; simp
  have hc2 : callOf [dL s t] ⟨2, 0, 1, code 0⟩ = (⟨1, 1, 1, 8⟩, true) := by unfold callOf dL; simp
  have hc3 : callOf [dL s t] ⟨3, 0, 2, code 0⟩ = (⟨3, 0, s, 0⟩, true) := by unfold callOf dL; simp
  have k1 : costAt [dL s t] ⟨dC u, ⟨[(0, dF u), (1, dF u)], 0, 0⟩, 0⟩ ⟨3, 0, 2, code 0⟩ = s * u := by
    unfold costAt costOf satMul top
    rw [hc3]
    have : Sq.rate ⟨[(0, dF u), (1, dF u)], 0, 0⟩ 0 = u := by unfold Sq.rate Sq.at; simp [List.findIdx?_cons, dF, newFlw, hi]
    dsimp only
    rw [this, show max s 0 = s by omega]
    omega
  have e3 : ∀ l, sumsL [dL s t] 0 1 (⟨1, 0, 0, code 0⟩ :: ⟨2, 0, 1, code 0⟩ :: ⟨3, 0, 2, code 0⟩ :: l) (mkMdl (dC u)) ⟨0, 0, 0⟩ = sumsL [dL s t] 0 1 l ⟨dC u, dS u s, 0⟩ ⟨s * u, s * u, 0⟩ := fun l => by
    rw [sumsL_S, hc1, d_do1, sum_no (by rw [hc1]; dsimp only; omega)]
    dsimp only
    rw [sumsL_S, hc2, d_do2, sum_no (by rw [hc2]; dsimp only; omega)]
    dsimp only
    rw [sumsL_S, sum_yes (by rw [hc3]) rfl, k1, hc3, d_do3 h1 h2]
    dsimp only
    rw [if_pos rfl, if_neg (by decide), show min (satAdd 0 (s * u)) lim = s * u by unfold satAdd top lim; omega, show max 0 (s * u) = s * u by omega]
  cases t with
  | false => exact e3 []
  | true =>
    have hc4 : callOf [dL s true] ⟨4, 0, 3, code 0⟩ = (⟨3, 1, 1, 0⟩, true) := by unfold callOf dL; simp
    have k2 : costAt [dL s true] ⟨dC u, dS u s, 0⟩ ⟨4, 0, 3, code 0⟩ = u := by
      unfold costAt costOf satMul top
      rw [hc4]
      have : Sq.rate (dS u s) 1 = u := by unfold Sq.rate Sq.at dS; simp [List.findIdx?_cons, dF, newFlw, hi]
      dsimp only
      rw [this, show max (1 : Int) 0 = 1 by decide, Int.one_mul]
      omega
    refine (e3 [⟨4, 0, 3, code 0⟩]).trans ?_
    rw [sumsL_S, sum_yes (by rw [hc4]) rfl, k2, hc4]
    unfold sumsL
    dsimp only
    rw [if_neg (by decide), if_pos rfl, if_pos rfl, show min (satAdd (s * u) u) lim = min (s * u + u) 4611686018427387904 by unfold satAdd top lim; omega, show max 0 u = u by omega]
theorem d_lists {s : Int} (h1 : 1 ≤ s) (h2 : s ≤ 65536) (t : Bool) : listsOk [dL s t] := by
  refine ⟨by simp, fun l hl c hc => ?_⟩
  rw [List.mem_singleton.1 hl] at hc
  unfold dL at hc
  cases t with
  | false =>
    simp only [Bool.false_eq_true, if_false, List.append_nil, List.mem_cons, List.not_mem_nil, or_false] at hc
    rcases hc with rfl | rfl | rfl <;> (unfold Call.ok I; dsimp only; omega)
  | true =>
    simp only [if_true, List.cons_append, List.nil_append, List.mem_cons, List.not_mem_nil, or_false] at hc
    rcases hc with rfl | rfl | rfl | rfl <;> (unfold Call.ok I; dsimp only; omega)
theorem d_gap {u s : Int} (h1 : 1 ≤ s) (h2 : s ≤ 65536) (hu : 1 ≤ u ∧ u ≤ 4611686018427387904) (hsu : s * u ≤ 4611686018427387904) (hsu2 : 4611686018427387904 < s * u + s) (hub : s ≤ u) (t : Bool) :
    (fGap (dC u) [dL s t] (dP t) 0 1).2 = if t = false ∧ s * u < 4611686018427387904 then (s * u, true) else (0, false) := by
  have hls := d_lists h1 h2 t
  have hl : (dP t).length ≤ 1000000 := by unfold dP; cases t <;> simp
  obtain ⟨me, hme⟩ := d_play h1 h2 hu t
  have hrg := r_good (c := dC u) hls hl 0 1 (by omega) (by rw [hme]; simp)
  rw [gap_eq hls hl]
  unfold rGap
  rw [hme, if_neg (by simp)]
  rw [d_sums h1 h2 hu.1 hsu] at hrg ⊢
  cases t with
  | true =>
    simp only [if_true]
    rw [if_pos (by unfold lim; omega), if_neg (by simp)]
  | false =>
    simp only [Bool.false_eq_true, if_false, true_and] at hrg ⊢
    by_cases hlt : s * u < 4611686018427387904
    ·obtain ⟨⟨rs, hrs⟩, -, -⟩ := hrg (by unfold lim; omega)
     rw [if_neg (by unfold lim; omega), if_pos hlt, hrs]
     simp
    ·rw [if_pos (by unfold lim; omega), if_neg hlt]
theorem div_facts {s : Int} (h1 : 1 ≤ s) (h2 : s ≤ 65536) : (1 ≤ 4611686018427387904 / s ∧ 4611686018427387904 / s ≤ 4611686018427387904) ∧ s * (4611686018427387904 / s) ≤ 4611686018427387904 ∧ 4611686018427387904 < s * (4611686018427387904 / s) + s ∧ s ≤ 4611686018427387904 / s := by
  have e := Int.mul_ediv_add_emod 4611686018427387904 s
  have e1 := Int.emod_nonneg 4611686018427387904 (show s ≠ 0 by omega)
  have e2 := Int.emod_lt_of_pos 4611686018427387904 (show 0 < s by omega)
  have h3 : (70368744177664 : Int) ≤ 4611686018427387904 / s := (Int.le_ediv_iff_mul_le (by omega)).2 (by omega)
  have h4 : 4611686018427387904 / s ≤ 4611686018427387904 := Int.ediv_le_self _ (by omega)
  omega
section
variable {R : Base} {F : List HP} {w : World}
set_option maxHeartbeats 1000000 in
theorem law28_FairDear (size more : Int) (hsz : I size) (hmo : I more) (hH : Go.Lt.Holds R F w) :
    Ret Tryz.prog 6 [.int .i64 size, .int .i64 more] w fun v w' => v = .bool true ∧ Go.Lt.Holds R F w' := by
  have hms := md_b size (n := 65536) (by omega)
  have hmm := md_b more (n := 2) (by omega)
  obtain ⟨s, hs⟩ : ∃ s, s = 1 + md size 65536 := ⟨_, rfl⟩
  have h1 : 1 ≤ s := by omega
  have h2 : s ≤ 65536 := by omega
  obtain ⟨u, hu⟩ : ∃ u, u = 4611686018427387904 / s := ⟨_, rfl⟩
  obtain ⟨hub, hsu, hsu2, hus⟩ := div_facts h1 h2
  rw [← hu] at hub hsu hsu2 hus
  have hus0 : u * s = s * u := Int.mul_comm _ _
  have hsu0 : 0 ≤ s * u := Int.mul_nonneg (by omega) (by omega)
  have hcv : s % 18446744073709551616 = s := by omega
  have hcfg : cfgOk (dC u) := by unfold cfgOk dC; dsimp only; omega
  refine ret_of_g (n := 92) Tryz.func6 rfl rfl (by simp) ?_
  refine g_seq ?_
  refine g_region (l := [0]) rfl ?_
  refine vA (lv rfl) rfl rfl ?_
  refine g_seq ?_
  refine g_region (l := [0, 1, 2, 3]) rfl ?_
  refine vM (lv rfl) rfl rfl ?_
  refine o_call (lv rfl) rfl en_12 rfl (play_Mod size 65536 hsz (by omega) (by omega) hH) ?_
  rintro _ w ⟨rfl, hH⟩
  refine o_v (lv rfl) rfl (r_addI rfl rfl (by omega)) ?_
  rw [← hs]
  refine vA (lv rfl) rfl rfl ?_
  refine g_seq ?_
  refine g_region (l := [0, 1, 2, 3]) rfl ?_
  refine vM (lv rfl) rfl rfl ?_
  refine o_v (lv rfl) rfl (r_cvM un_3 kn_22 rfl) ?_; rw [hcv]
  refine o_v (lv rfl) rfl (r_quoU rfl rfl (by omega) (by omega)) ?_; rw [← hu]
  refine vA (lv rfl) rfl rfl ?_
  refine g_seq ?_
  refine g_region (l := [0, 1, 2, 3, 4, 5, 6, 7, 8, 9, 10]) rfl ?_
  refine vM (lv rfl) rfl rfl ?_
  refine o_v (lv rfl) rfl (r_bld (ps := [_, _, _, _]) (cs := [_, _, _, _, _]) pl_24 rfl rfl) ?_
  refine o_v (lv rfl) rfl (r_bld (ps := [_, _, _]) (cs := [_, _, _, _]) pl_46 rfl rfl) ?_
  refine o_v (lv rfl) rfl (r_bld (ps := [_, _, _, _]) (cs := [_, _, _, _]) pl_46 rfl rfl) ?_
  refine vM (lv rfl) rfl rfl ?_
  refine o_v (lv rfl) rfl (r_bld (ps := [_, _]) (cs := [_, _, _, _]) pl_46 rfl rfl) ?_
  refine o_bs (lv rfl) rfl el_39 ze_46 rfl rfl rfl (ps := [_, _, _]) rfl rfl rfl (cs := [_, _, _, _, _, _, _, _, _, _, _, _]) rfl hH ?_
  intro b25 w hH
  refine o_bs (lv rfl) rfl el_25 ze_39 rfl rfl rfl (ps := [_]) rfl rfl rfl (cs := [_]) rfl hH ?_
  intro b26 w hH
  refine o_v (lv rfl) rfl (r_bld (ps := [_, _]) (cs := [_, _, _, _, _, _]) pl_28 rfl rfl) ?_
  refine o_al (lv rfl) rfl ze_28 hH ?_
  intro b6 w hH
  refine o_st (lv rfl) rfl lk_28 rfl (vs := [_, _, _, _, _, _]) rfl rfl (by exact hH) rfl rfl (by simp) rfl ?_
  intro w hH; dsimp only [setL, List.set] at hH
  refine g_seq ?_
  refine g_region (l := [0, 1, 2, 3, 4, 5]) rfl ?_
  refine vM (lv rfl) rfl rfl ?_
  refine vM (lv rfl) rfl rfl ?_
  refine o_v (lv rfl) rfl (r_cvM un_3 kn_22 rfl) ?_; rw [hcv]
  refine o_v (lv rfl) rfl (r_mul rfl rfl) ?_; rw [wrap_u64 (by omega)]
  refine o_v (lv rfl) rfl (r_sub rfl rfl) ?_; rw [wrap_u64 (by omega)]
  refine vA (lv rfl) rfl rfl ?_
  refine g_seq ?_
  refine g_seq ?_
  replace hH : Go.Lt.Holds R (cel b25 (flat encC (dL s false)) 46 :: cel b26 [.slice (some ⟨b25, 0, none⟩) 3 3] 39 :: cel b6 [.int .i64 1, .int .i64 2, .int .i64 1, .int .i64 0, .int .u64 u, .slice (some ⟨b26, 0, none⟩) 1 1] 28 :: F) w := (hH.sel (by repeat' (first | exact Sel.refl _ | refine Sel.q1 ?_ | refine Sel.q2 ?_)))
  replace hH := vec_uncel (k := 4) (enc := encC) (l := dL s false) (cap := 3) (m := 3) (rest := []) hH (by simp) rfl (by simp [dL]) (by simp [dL])
  refine g_region (l := [0, 1, 2]) rfl ?_
  refine vM (lv rfl) rfl rfl ?_
  refine o_call (lv rfl) rfl en_12 rfl (play_Mod more 2 hmo (by omega) (by omega) hH) ?_
  rintro _ w ⟨rfl, hH⟩
  refine o_v (lv rfl) rfl (r_eq rfl rfl) ?_
  refine g_join (fun e w => ∃ (e0 : Env) (la : Option Addr) (lc : Nat), e = J e0 [(0, .int .i64 s), (1, .int .i64 more), (5, .int .u64 u), (6, .pointer (some ⟨b6, 0, none⟩)), (7, .int .u64 (4611686018427387904 - u * s))] ∧ Go.Lt.Holds R (Vec 46 4 encC (.slice la (dL s (decide (md more 2 = 0))).length lc) (dL s (decide (md more 2 = 0))) :: cel b26 [.slice la (dL s (decide (md more 2 = 0))).length lc] 39 :: cel b6 [.int .i64 1, .int .i64 2, .int .i64 1, .int .i64 0, .int .u64 u, .slice (some ⟨b26, 0, none⟩) 1 1] 28 :: F) w) (fun kk hkk => ?_) ?_
  ·refine g_if rfl (fun c0 => ?_) (fun c0 => ?_)
   ·refine rD mixed hH fun w hH => ?_
    refine pF 0 (lv rfl) rfl fa_28_1 rfl ?_
    refine d_ld (i := 1) [10] (lv rfl) rfl lk_25 rfl (by kernel_rfl) ⟨_, _, _, hH.c2, _, rfl, ?_⟩
    refine pF 2 (lv rfl) rfl fa_28_1 rfl ?_
    refine d_ld (i := 3) [8, 10] (lv rfl) rfl lk_25 rfl (by kernel_rfl) ⟨_, _, _, hH.c2, _, rfl, ?_⟩
    refine d_p (i := 4) (lv rfl) rfl (fun w => (r_ia el_25 rfl rfl ?_ ?_)) (by kernel_rfl) ?_; omega; omega
    refine d_ld (i := 5) [8, 10] (lv rfl) rfl lk_39 rfl (by kernel_rfl) ⟨_, _, _, hH.c1, _, rfl, ?_⟩
    refine d_p (i := 6) (lv rfl) rfl (fun w => (r_bld (ps := [_, _, _]) (cs := [_, _, _, _]) pl_46 rfl rfl)) (by kernel_rfl) ?_
    refine d_l (j := 7) (by kernel_rfl) ?_
    refine o_bs (lv rfl) rfl el_39 ze_46 rfl rfl rfl (ps := [_]) rfl rfl rfl (cs := [_, _, _, _]) rfl hH ?_
    intro b43 w hH
    refine ⟨(keeps_cons (fun _ => (by exact hH.c2)) (keeps_cons (fun _ => (by exact hH.c3)) (keeps_cons (fun _ => (by exact hH.c3)) trivial))), ?_⟩
    refine d_l (j := 8) (by kernel_rfl) ?_
    refine o_app (enc := encC) (lv rfl) rfl el_39 ze_46 rfl (fun _ => rfl) (fun _ => rfl) rfl rfl (by exact hH.p1) (rd_of_cel [(⟨3, 1, 1, 0⟩ : Call)] (by exact hH.c0) rfl) (by simp [dL]) (by simp [dL]) ?_
    intro v44 w hH; obtain ⟨a44, k44, rfl, -⟩ := hH.rd.len
    refine ⟨(keeps_in rfl (keeps_in rfl (keeps_cons (fun _ => (by exact hH.c3)) trivial))), ?_⟩
    refine d_p (i := 9) (lv rfl) rfl (fun w => (r_ia el_25 rfl rfl ?_ ?_)) (by kernel_rfl) ?_; omega; omega
    refine d_l (j := 10) (by kernel_rfl) ?_
    refine o_st (lv rfl) rfl lk_39 rfl (vs := [_]) rfl rfl (by exact hH.p2) rfl rfl (by simp) rfl ?_
    intro w hH; dsimp only [setL, List.set] at hH
    refine ⟨(keeps_in rfl (keeps_in rfl (keeps_in rfl trivial))), ?_⟩
    refine d_end (by kernel_rfl) ?_
    (have hg : md more 2 = 0 := c0
     rw [decide_eq_true hg] at hkk
     exact hkk _ _ ⟨_, _, _, (J_self (has_s rfl (has_s rfl (has_s rfl (has_s rfl (has_s rfl has_0)))))), (hH.sel (by repeat' (first | exact Sel.refl _ | refine Sel.q0 ?_ | refine Sel.q1 ?_ | refine Sel.skip _ ?_)))⟩)
   ·refine g_skip ?_
    (have hg : ¬ md more 2 = 0 := c0
     rw [decide_eq_false hg] at hkk
     exact hkk _ _ ⟨_, _, _, (J_self (has_s rfl (has_s rfl (has_s rfl (has_s rfl (has_s rfl has_0)))))), (hH.sel (by repeat' (first | exact Sel.refl _)))⟩)
  ·rintro _ w ⟨e0, la, lc, rfl, hH⟩
   have hH0 := hH
   obtain ⟨t, ht⟩ : ∃ t, t = decide (md more 2 = 0) := ⟨_, rfl⟩
   rw [← ht] at hH
   have hls := d_lists h1 h2 t
   obtain ⟨me, hme⟩ := d_play h1 h2 hub t
   have hgp := d_gap h1 h2 hub hsu hsu2 hus t
   have hlP : (dP t).length ≤ 10000 := by unfold dP; cases t <;> simp
   have hfg := f_good (c := dC u) hls (l := dP t) (by omega)
   have hbk := book_keys (c := dC u) hls (l := dP t) (by omega)
   have hb2 : (baseOf w).h b6 = some (.cells [.int .i64 1, .int .i64 2, .int .i64 1, .int .i64 0, .int .u64 u, .slice (some ⟨b26, 0, none⟩) 1 1].toArray 28 (0, 0)) := hH.c2
   have hP : RLists (.slice (some ⟨b26, 0, none⟩) 1 1) [dL s t] (baseOf w).h := by
     refine ⟨[.slice la (dL s t).length lc], rfl, rd_of_cel (w := w) [Value.slice la (dL s t).length lc] hH.c1 rfl, ?_⟩
     intro i x l hx hl
     match i, hx, hl with
     | 0, hx, hl =>
       cases hx; cases hl
       exact hH.rd
     | i + 1, hx, hl => cases hx
   replace hH := holds_start w
   refine g_seq ?_
   have hlb : ∀ l ∈ [dL s t], l.length ≤ 1000000 := fun l hl => (by rw [List.mem_singleton.1 hl]; unfold dL; cases t <;> simp)
   refine g_region (l := [0, 1, 2]) rfl ?_
   refine o_ldN (lv rfl) rfl lk_28 rfl ⟨_, _, _, hH.old hb2, _, rfl, rfl, ?_⟩
   refine o_call (lv rfl) rfl en_11 rfl (law27_Trace (R := baseOf _) (c := dC u) (ls := [dL s t]) (turns := []) (most := 20) hcfg hP hls (by simp) hlb (Rd.nil _ _) (by simp) (by simp) (by omega) hH) ?_
   rintro _ w hH
   rw [d_trace h1 h2 t] at hH; obtain ⟨xa, xcap, rfl⟩ := PtsC.len hH; have hH1 := hH; have hX := PtsC.rp hH; replace hP := RLists.up _ _ hP hH.ro; replace hb2 := hH.ro _ _ hb2; obtain ⟨R1, hR1⟩ : ∃ R1, R1 = baseOf w := ⟨_, rfl⟩; replace hX : RPoints (.slice xa (dP t).length xcap) (dP t) R1.h := (by rw [hR1]; exact hX); replace hP : RLists (.slice (some ⟨b26, 0, none⟩) 1 1) [dL s t] R1.h := (by rw [hR1]; exact hP); replace hb2 : R1.h b6 = some (.cells [.int .i64 1, .int .i64 2, .int .i64 1, .int .i64 0, .int .u64 u, .slice (some ⟨b26, 0, none⟩) 1 1].toArray 28 (0, 0)) := (by rw [hR1]; exact hb2); replace hH : Go.Lt.Holds R1 [] w := (by rw [hR1]; exact holds_start w); obtain ⟨ga, gb, go, hG⟩ : ∃ a b o, fGap (dC u) [dL s t] (dP t) 0 1 = (a, b, o) := ⟨_, _, _, rfl⟩; rw [hG] at hgp; dsimp only at hgp
   refine vA (lv rfl) rfl rfl ?_
   refine g_seq ?_
   refine g_region (l := [0, 1, 2, 3, 4, 5, 6, 7, 8, 9]) rfl ?_
   refine o_ldN (lv rfl) rfl lk_28 rfl ⟨_, _, _, hH.old hb2, _, rfl, rfl, ?_⟩
   refine vM (lv rfl) rfl rfl ?_
   refine o_call (lv rfl) rfl en_14 rfl (fair_Gap (c := dC u) hP hX hls (by omega) 0 1 (hfg 0 1) hH) ?_
   rintro _ w ⟨rfl, hH⟩
   rw [hG]
   refine vM (lv rfl) rfl rfl ?_
   refine o_v (lv rfl) rfl (r_ex rfl rfl) ?_
   refine o_v (lv rfl) rfl (r_ex rfl rfl) ?_
   refine o_v (lv rfl) rfl (r_ex rfl rfl) ?_
   refine vA (lv rfl) rfl rfl ?_
   refine vA (lv rfl) rfl rfl ?_
   refine vA (lv rfl) rfl rfl ?_
   refine g_seq ?_
   refine g_join (fun e w => ∃ (e0 : Env), e = J e0 [(0, .int .i64 s), (5, .int .u64 u), (6, .pointer (some ⟨b6, 0, none⟩)), (8, .slice xa (dP t).length xcap), (10, .int .u64 gb), (11, .bool go), (12, .bool (decide (md more 2 = 1 ∧ 4611686018427387904 - u * s > 0)))] ∧ Go.Lt.Holds R1 [] w) (fun kk hkk => ?_) ?_
   ·refine g_region (l := [0, 1, 2, 3, 4, 5, 6, 7]) rfl ?_
    refine vM (lv rfl) rfl rfl ?_
    refine o_call (lv rfl) rfl en_12 rfl (play_Mod more 2 hmo (by omega) (by omega) hH) ?_
    rintro _ w ⟨rfl, hH⟩
    refine o_v (lv rfl) rfl (r_eq rfl rfl) ?_
    refine vM (lv rfl) rfl rfl ?_
    refine s_ops (fun g9_3 => ?_) (fun g9_3 => ?_)
    ·refine vM (lvg rfl rfl rfl) rfl rfl ?_
     refine o_v (lvg rfl rfl rfl) rfl (r_gt rfl rfl) ?_
     refine o_v (lv rfl) rfl (r_pickT rfl rfl) ?_
     refine vA (lv rfl) rfl rfl ?_
     (have hg : md more 2 = 1 := g9_3
      have hde : decide (md more 2 = 1 ∧ 4611686018427387904 - u * s > 0) = decide (4611686018427387904 - u * s > 0) := by rw [decide_eq_decide]; exact ⟨fun h => h.2, fun h => ⟨hg, h⟩⟩
      exact hkk _ _ ⟨_, by rw [hde]; exact (J_self (has_s rfl (has_s rfl (has_s rfl (has_s rfl (has_s rfl (has_s rfl (has_s rfl has_0)))))))), (hH.sel (by repeat' (first | exact Sel.refl _)))⟩)
    ·refine o_no rfl rfl rfl rfl ?_
     refine o_no rfl rfl rfl rfl ?_
     refine o_v (lv rfl) rfl (r_pickF rfl rfl) ?_
     refine vA (lv rfl) rfl rfl ?_
     (have hg : ¬ md more 2 = 1 := g9_3
      have hde : decide (md more 2 = 1 ∧ 4611686018427387904 - u * s > 0) = false := decide_eq_false (fun h => hg h.1)
      exact hkk _ _ ⟨_, by rw [hde]; exact (J_self (has_s rfl (has_s rfl (has_s rfl (has_s rfl (has_s rfl (has_s rfl (has_s rfl has_0)))))))), (hH.sel (by repeat' (first | exact Sel.refl _)))⟩)
   ·rintro _ w ⟨e1, rfl, hH⟩
    have hcase : go = decide (md more 2 = 1 ∧ 4611686018427387904 - u * s > 0) ∧ (go = true → gb = u * s) ∧ (go = false → gb = 0) := by
      by_cases hc : t = false ∧ s * u < 4611686018427387904
      ·rw [if_pos hc] at hgp
       have hn : ¬ md more 2 = 0 := by intro h; rw [decide_eq_true h] at ht; rw [ht] at hc; cases hc.1
       cases hgp
       refine ⟨(decide_eq_true ⟨by omega, by omega⟩).symm, fun _ => by omega, fun h => by cases h⟩
      ·rw [if_neg hc] at hgp
       cases hgp
       refine ⟨(decide_eq_false (fun h => hc ⟨?_, by omega⟩)).symm, fun h => (by cases h), fun _ => rfl⟩
       rw [ht]; exact decide_eq_false (by omega)
    refine g_seq ?_
    refine g_region (l := [0, 1, 2, 3, 4, 5, 6, 7, 8, 9, 10, 11, 12, 13, 14, 15, 16, 17, 18, 19, 20, 21, 22, 23, 24, 25, 26, 27, 28, 29, 30]) rfl ?_
    refine o_call (lv rfl) rfl en_16 rfl (law28_awake hH) ?_
    rintro _ w ⟨rfl, hH⟩
    refine vM (lv rfl) rfl rfl ?_
    refine s_opsb (fun g10_1 => ?_) (fun g10_1 => ?_)
    ·refine vM (lvg rfl rfl rfl) rfl rfl ?_
     refine vM (lvg rfl rfl rfl) rfl rfl ?_
     refine o_v (lvg rfl rfl rfl) rfl (r_eqB (by kernel_rfl) rfl rfl) ?_
     refine o_v (lv rfl) rfl (r_pickT rfl rfl) ?_
     refine vM (lv rfl) rfl rfl ?_
     refine s_ops (fun g10_6 => ?_) (fun g10_6 => ?_)
     ·refine o_ldN (lvg rfl rfl rfl) rfl lk_28 rfl ⟨_, _, _, hH.old hb2, _, rfl, rfl, ?_⟩
      refine vM (lvg rfl rfl rfl) rfl rfl ?_
      refine o_call (lvg rfl rfl rfl) rfl en_17 rfl (fair_Fair (c := dC u) hP hX hls (by omega) hfg hbk hH) ?_
      rintro _ w ⟨bf, rfl, hbf, hH⟩
      obtain rfl : bf = true := hbf.2 (f_fair hls (by omega) hme)
      refine o_v (lv rfl) rfl (r_pickT rfl rfl) ?_
      refine vM (lv rfl) rfl rfl ?_
      refine s_opsb (fun g10_11 => ?_) (fun g10_11 => ?_)
      ·refine vM (lvg rfl rfl rfl) rfl rfl ?_
       refine o_v (lvg rfl rfl rfl) rfl (r_not rfl) ?_
       refine vM (lvg rfl rfl rfl) rfl rfl ?_
       refine s_opsb (fun g10_14 => ?_) (fun g10_14 => ?_)
       ·refine o_no rfl rfl rfl rfl ?_
        refine o_no rfl rfl rfl rfl ?_
        refine o_no rfl rfl rfl rfl ?_
        refine o_no rfl rfl rfl rfl ?_
        refine o_no rfl rfl rfl rfl ?_
        refine o_no rfl rfl rfl rfl ?_
        refine o_v (lvg rfl rfl rfl) rfl (r_pickT rfl rfl) ?_
        refine o_v (lv rfl) rfl (r_pickT rfl rfl) ?_
        refine vM (lv rfl) rfl rfl ?_
        refine vM (lvg rfl rfl rfl) rfl rfl ?_
        refine vM (lvg rfl rfl rfl) rfl rfl ?_
        refine s_opsb (fun g10_25 => ?_) (fun g10_25 => ?_)
        ·refine o_no rfl rfl rfl rfl ?_
         refine o_no rfl rfl rfl rfl ?_
         refine o_v (lvg rfl rfl rfl) rfl (r_pickT rfl rfl) ?_
         refine o_v (lv rfl) rfl (r_pickT rfl rfl) ?_
         refine vA (lv rfl) rfl rfl ?_
         refine g_rq Tryz.func6 (res_t rfl res_0) ?_
         first
         | (have hg : go = true := g10_25
            exact ⟨bv rfl, by have hZ := hH; subst hR1; have hH := hH0.merge (hH1.merge hZ); exact (hH.sel (by repeat' (first | exact Sel.refl _ | refine Sel.skip _ ?_)))⟩)
         | (have hg : go = false := g10_25
            exact ⟨bv (decide_eq_true (hcase.2.2 hg)), by have hZ := hH; subst hR1; have hH := hH0.merge (hH1.merge hZ); exact (hH.sel (by repeat' (first | exact Sel.refl _)))⟩)
        ·refine vM (lvg rfl rfl rfl) rfl rfl ?_
         refine o_v (lvg rfl rfl rfl) rfl (r_eq rfl rfl) ?_
         refine o_v (lvg rfl rfl rfl) rfl (r_pickF rfl rfl) ?_
         refine o_v (lv rfl) rfl (r_pickT rfl rfl) ?_
         refine vA (lv rfl) rfl rfl ?_
         refine g_rq Tryz.func6 (res_t rfl res_0) ?_
         first
         | (have hg : go = true := g10_25
            exact ⟨bv rfl, by have hZ := hH; subst hR1; have hH := hH0.merge (hH1.merge hZ); exact (hH.sel (by repeat' (first | exact Sel.refl _)))⟩)
         | (have hg : go = false := g10_25
            exact ⟨bv (decide_eq_true (hcase.2.2 hg)), by have hZ := hH; subst hR1; have hH := hH0.merge (hH1.merge hZ); exact (hH.sel (by repeat' (first | exact Sel.refl _ | refine Sel.skip _ ?_)))⟩)
       ·refine vM (lvg rfl rfl rfl) rfl rfl ?_
        refine vM (lvg rfl rfl rfl) rfl rfl ?_
        refine vM (lvg rfl rfl rfl) rfl rfl ?_
        refine o_v (lvg rfl rfl rfl) rfl (r_cvM un_3 kn_22 rfl) ?_; rw [hcv]
        refine o_v (lvg rfl rfl rfl) rfl (r_mul rfl rfl) ?_; rw [wrap_u64 (by omega)]
        refine o_v (lvg rfl rfl rfl) rfl (r_eq rfl rfl) ?_
        refine o_v (lvg rfl rfl rfl) rfl (r_pickF rfl rfl) ?_
        refine o_v (lv rfl) rfl (r_pickT rfl rfl) ?_
        refine vM (lv rfl) rfl rfl ?_
        refine s_ops (fun g10_23 => ?_) (fun g10_23 => ?_)
        ·refine vM (lvg rfl rfl rfl) rfl rfl ?_
         refine vM (lvg rfl rfl rfl) rfl rfl ?_
         refine s_opsb (fun g10_25 => ?_) (fun g10_25 => ?_)
         ·refine o_no rfl rfl rfl rfl ?_
          refine o_no rfl rfl rfl rfl ?_
          refine o_v (lvg rfl rfl rfl) rfl (r_pickT rfl rfl) ?_
          refine o_v (lv rfl) rfl (r_pickT rfl rfl) ?_
          refine vA (lv rfl) rfl rfl ?_
          refine g_rq Tryz.func6 (res_t rfl res_0) ?_
          first
          | (have hg : go = true := g10_25
             exact ⟨bv rfl, by have hZ := hH; subst hR1; have hH := hH0.merge (hH1.merge hZ); exact (hH.sel (by repeat' (first | exact Sel.refl _ | refine Sel.skip _ ?_)))⟩)
          | (have hg : go = false := g10_25
             exact ⟨bv (decide_eq_true (hcase.2.2 hg)), by have hZ := hH; subst hR1; have hH := hH0.merge (hH1.merge hZ); exact (hH.sel (by repeat' (first | exact Sel.refl _)))⟩)
         ·refine vM (lvg rfl rfl rfl) rfl rfl ?_
          refine o_v (lvg rfl rfl rfl) rfl (r_eq rfl rfl) ?_
          refine o_v (lvg rfl rfl rfl) rfl (r_pickF rfl rfl) ?_
          refine o_v (lv rfl) rfl (r_pickT rfl rfl) ?_
          refine vA (lv rfl) rfl rfl ?_
          refine g_rq Tryz.func6 (res_t rfl res_0) ?_
          first
          | (have hg : go = true := g10_25
             exact ⟨bv rfl, by have hZ := hH; subst hR1; have hH := hH0.merge (hH1.merge hZ); exact (hH.sel (by repeat' (first | exact Sel.refl _)))⟩)
          | (have hg : go = false := g10_25
             exact ⟨bv (decide_eq_true (hcase.2.2 hg)), by have hZ := hH; subst hR1; have hH := hH0.merge (hH1.merge hZ); exact (hH.sel (by repeat' (first | exact Sel.refl _ | refine Sel.skip _ ?_)))⟩)
        ·exact absurd (hcase.2.1 (by simpa using g10_14)) g10_23
      ·cases g10_11
     ·exact absurd hcase.1 g10_6
    ·cases g10_1
end
end Go.Proofs.YtkdbglfdgeldpaaGreat
