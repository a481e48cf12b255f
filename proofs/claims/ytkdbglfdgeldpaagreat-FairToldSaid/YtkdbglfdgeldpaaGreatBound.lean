/- Contract of package law28: FairBound answers true. Condition: the input is only read. -/
import Derived.Test.YtkdbglfdgeldpaaGreatBusy
namespace Go.Proofs.YtkdbglfdgeldpaaGreat
open Go.Lt
/-- The step of the last point, or what was there before. -/
def lastSt (l : List Point) (last : Option Int) : Option Int := match l.getLast? with | some y => some y.step | none => last
theorem playL_snoc (ls : List (List Call)) (x : Point) : ∀ (l : List Point) (m m' : Mdl) (last : Option Int), playL ls l m last = some m' → playL ls (l ++ [x]) m last = playL ls [x] m' (lastSt l last)
  | [], m, m', last, h => by
    have : m = m' := by unfold playL at h; exact Option.some.inj h
    subst this
    rfl
  | y :: l, m, m', last, h => by
    by_cases hy : (callOf ls y).2 = false ∨ tooLate last y ∨ (m.do (callOf ls y).1).1 ≠ y.ret
    ·rw [playL_no hy] at h; cases h
    ·have h1 : (callOf ls y).2 = true := by
       cases hc : (callOf ls y).2 with
       | true => rfl
       | false => exact absurd (.inl hc) hy
     have h2 : ¬ tooLate last y := fun h' => hy (.inr (.inl h'))
     have h3 : (m.do (callOf ls y).1).1 = y.ret := Classical.byContradiction fun h' => hy (.inr (.inr h'))
     rw [playL_yes h1 h2 h3] at h
     rw [List.cons_append, playL_yes h1 h2 h3, playL_snoc ls x l _ m' _ h]
     unfold lastSt
     cases l with
     | nil => rfl
     | cons z l => rw [List.getLast?_cons_cons, List.getLast?_eq_some_getLast (List.cons_ne_nil z l)]
theorem lastSt_snoc (l : List Point) (x : Point) (last : Option Int) : lastSt (l ++ [x]) last = some x.step := by unfold lastSt; simp
/-- What a row of told points keeps, where no call is a Batch. -/
structure TP (c : Config) (ls : List (List Call)) (s : Tr) : Prop where
  plays : playL ls s.out (mkMdl c) none = some s.m
  late : ∀ t, lastSt s.out none = some t → t ≤ s.step
  pos : ∀ a ∈ s.at_, 0 ≤ a
theorem tp0 (c : Config) (ls : List (List Call)) : TP c ls (tr0 c ls.length) := ⟨rfl, fun t h => by simp [tr0, lastSt] at h, fun a ha => by simp [tr0] at ha; omega⟩
theorem pre_le (turns : List Int) (i : Nat) (step : Int) : step ≤ trPre turns i step := by
  unfold trPre
  split
  ·have := md_b ((‹Int›).tdiv 7) (n := 3) (by omega); omega
  ·omega
theorem tp_step {c : Config} {ls : List (List Call)} {turns : List Int} (hb : ∀ l ∈ ls, ∀ y ∈ l, bCall y) (i : Nat) {s : Tr} (h : TP c ls s) : TP c ls (trStep ls turns i s) := by
  have hp := pre_le turns i s.step
  unfold trStep
  split
  ·rename_i a l0 l ha hl0 hl
   have ha0 := h.pos a (List.mem_of_getElem? ha)
   split
   ·exact ⟨h.plays, fun t ht => by have := h.late t ht; dsimp only; omega, h.pos⟩
   ·rename_i y hy
    have hyb := hb l (List.mem_of_getElem? hl) y (List.mem_of_getElem? hy)
    unfold trDo
    rw [if_pos (by unfold bCall at hyb; omega)]
    have hco : callOf ls ⟨trPre turns i s.step + 1, (trW turns i ls.length : Nat), a, (s.m.do y).1⟩ = (y, true) := by
      unfold callOf
      dsimp only
      rw [if_neg (by omega), Int.toNat_natCast, hl]
      dsimp only
      rw [if_neg (by omega), hy]
      dsimp only
      rw [if_neg (by unfold bCall at hyb; omega)]
    refine ⟨?_, ?_, ?_⟩
    ·rw [playL_snoc _ _ _ _ _ _ h.plays, playL_yes (by rw [hco]) ?_ (by rw [hco])]
     ·rw [hco]; rfl
     ·rintro ⟨t, ht, hle⟩
      have := h.late t ht
      dsimp only at hle
      omega
    ·intro t ht
     rw [lastSt_snoc] at ht
     cases ht
     exact Int.le_refl _
    ·intro b hb'
     rcases List.mem_or_eq_of_mem_set hb' with h' | h'
     ·exact h.pos b h'
     ·omega
  ·exact ⟨h.plays, fun t ht => by have := h.late t ht; dsimp only; omega, h.pos⟩
theorem tp_run {c : Config} {ls : List (List Call)} {turns : List Int} (hb : ∀ l ∈ ls, ∀ y ∈ l, bCall y) : ∀ (k i : Nat) (s : Tr), TP c ls s → TP c ls (trL ls turns k i s)
  | 0, _, _, h => h
  | k + 1, i, s, h => by rw [trL_S]; exact tp_run hb k (i + 1) _ (tp_step hb i h)
/-- A row of points that a model tells, plays. -/
theorem trace_plays {c : Config} {ls : List (List Call)} (turns : List Int) (most : Nat) (hcfg : cfgOk c) (hb : ∀ l ∈ ls, ∀ y ∈ l, bCall y) : ∃ me, plays c ls (traceOf c ls turns most) = some me := by
  have h := tp_run (turns := turns) hb most 0 _ (tp0 c ls)
  exact ⟨_, by unfold plays; rw [if_pos hcfg]; exact h.plays⟩
theorem gap_bound {c : Config} {ls : List (List Call)} {l : List Point} (hls : listsOk ls) (hl : l.length ≤ 1000000) (f g : Int) (ho : (fGap c ls l f g).2.2 = true) : (fGap c ls l f g).1 ≤ (fGap c ls l f g).2.1 := by
  unfold fGap at ho ⊢
  cases h : plays c ls l with
  | none => simp [h] at ho
  | some me =>
    have hn : ¬ (some me = none) := by simp
    rw [h, if_neg hn] at ho
    rw [if_neg hn]
    by_cases hc : f = g ∨ lim ≤ (bookOf c ls l).2
    ·rw [if_pos hc] at ho; cases ho
    ·rw [if_neg hc] at ho ⊢
     have hst := book_st hls hl h
     have hsum := hst.inv.sum
     have hcap : gsum cAll (bookOf c ls l).1 < 4611686018427387904 := by unfold lim top at *; omega
     obtain ⟨gs, rs, h1, h2, h3, h4, h5⟩ := book_gap (f := f) (g := g) hls hl h (by omega) hcap
     rw [h1]
     exact h5
/-- What is known of the plan and the points of a law with a busy plan. -/
theorem busy_ok {ls : List (List Call)} (h2 : ls.length = 2) (hb : ∀ l ∈ ls, l.length ≤ 53 ∧ ∀ c ∈ l, bCall c) : listsOk ls ∧ 0 < ls.length ∧ (∀ l ∈ ls, l.length ≤ 1000000) ∧ ∀ l ∈ ls, ∀ y ∈ l, bCall y :=
  ⟨⟨by omega, fun l hl c hc => ((hb l hl).2 c hc).ok⟩, by omega, fun l hl => by have := (hb l hl).1; omega, fun l hl => (hb l hl).2⟩
section
variable {R : Base} {F : List HP} {w : World}
set_option maxHeartbeats 1000000 in
theorem law28_FairBound {wv lv0 tv : Value} {ws : List Int} {l : List Call} {turns : List Int} (cf : Config) (h1 : I cf.shards) (h2 : I cf.slots) (h3 : I cf.workers) (h4 : I cf.width) (h5 : U cf.unit) (hW : Rd encI wv ws R.h) (hwl : ws.length ≤ 9223372036854775807) (hws : ∀ x ∈ ws, I x)
    (hL : Rd encC lv0 l R.h) (hll : l.length ≤ 9223372036854775807) (hlc : ∀ c ∈ l, c.ok) (hT : Rd encI tv turns R.h) (htb : turns.length ≤ 9223372036854775807) (htI : ∀ t ∈ turns, I t) (hH : Go.Lt.Holds R F w) :
    Ret Tryz.prog 4 [vCfg cf, wv, lv0, tv] w fun v w' => v = .bool true ∧ Go.Lt.Holds R F w' := by
  refine ret_of_g (n := 55) Tryz.func4 rfl rfl (by simp) ?_
  refine g_seq ?_
  refine g_region (l := [0, 1]) rfl ?_
  refine o_box (lv rfl) rfl (cs := [_, _, _, _, _]) rfl rfl hH ?_
  intro b4 w hH
  refine vA (lv rfl) rfl rfl ?_
  refine g_seq ?_
  refine g_region (l := [0, 1, 2, 3, 4, 5]) rfl ?_
  refine o_ldN (lv rfl) rfl lk_24 rfl ⟨_, _, _, hH.c0, [_, _, _, _, _], rfl, rfl, ?_⟩
  refine vM (lv rfl) rfl rfl ?_
  refine vM (lv rfl) rfl rfl ?_
  refine o_call (lv rfl) rfl en_19 rfl (law28_Busy cf h1 h2 h3 h4 h5 hW hwl hws hL hll hlc hH) ?_
  rintro _ w ⟨c, v, ls, rfl, hcfg, hl2, hlb, hH⟩
  obtain ⟨bl, Ql, rfl, -, -⟩ := ListsC.op hH
  refine o_al (lv rfl) rfl ze_28 hH ?_
  intro b9 w hH
  refine o_st (lv rfl) rfl lk_28 rfl (vs := [_, _, _, _, _, _]) rfl rfl (by exact hH) rfl rfl (by simp) rfl ?_
  intro w hH; dsimp only [setL, List.set] at hH
  refine g_seq ?_
  have hH0 := hH
  obtain ⟨hls, hlN, hlb2, hbc⟩ := busy_ok hl2 hlb
  obtain ⟨me, hme⟩ := trace_plays turns 60 hcfg hbc
  have hpl : plays c ls (traceOf c ls turns 60) ≠ none := by rw [hme]; simp
  have hb2 : (baseOf w).h b9 = some (.cells [.int .i64 c.shards, .int .i64 c.slots, .int .i64 c.workers, .int .i64 c.width, .int .u64 c.unit, .slice (some ⟨bl, 0, none⟩) Ql.length Ql.length].toArray 28 (0, 0)) := hH.c0
  have hP : RLists (.slice (some ⟨bl, 0, none⟩) Ql.length Ql.length) ls (baseOf w).h := ListsC.rl hH.p1
  have hT1 : Rd encI tv turns (baseOf w).h := Rd.up _ _ hT hH.ro
  replace hH := holds_start w
  refine g_region (l := [0, 1, 2, 3]) rfl ?_
  refine o_ldN (lv rfl) rfl lk_28 rfl ⟨_, _, _, hH.old hb2, _, rfl, rfl, ?_⟩
  refine vM (lv rfl) rfl rfl ?_
  refine o_call (lv rfl) rfl en_11 rfl (law27_Trace (R := baseOf _) (c := c) (ls := ls) (turns := turns) (most := 60) hcfg hP hls hlN hlb2 hT1 htb htI (by omega) hH) ?_
  rintro _ w hH
  have hH1 := hH; obtain ⟨xa, xcap, rfl⟩ := PtsC.len hH; obtain ⟨R1, hR1⟩ : ∃ R1, R1 = baseOf w := ⟨_, rfl⟩; have hX : RPoints _ _ R1.h := (by rw [hR1]; exact PtsC.rp hH); replace hP : RLists (.slice (some ⟨bl, 0, none⟩) Ql.length Ql.length) ls R1.h := (by rw [hR1]; exact RLists.up _ _ hP hH.ro); replace hb2 := hH.ro _ _ hb2; replace hb2 : R1.h b9 = some (.cells [.int .i64 c.shards, .int .i64 c.slots, .int .i64 c.workers, .int .i64 c.width, .int .u64 c.unit, .slice (some ⟨bl, 0, none⟩) Ql.length Ql.length].toArray 28 (0, 0)) := (by rw [hR1]; exact hb2); replace hH : Go.Lt.Holds R1 [] w := (by rw [hR1]; exact holds_start w); have hlen := trace_len c ls turns 60; have hpk := trace_pk c ls turns 60; have hfg := f_good (c := c) hls (l := traceOf c ls turns 60) (by omega); have hbk := book_keys (c := c) hls (l := traceOf c ls turns 60) (by omega); have hgb := gap_bound (c := c) hls (l := traceOf c ls turns 60) (by omega); generalize traceOf c ls turns 60 = L at *
  refine vA (lv rfl) rfl rfl ?_
  refine g_seq ?_
  refine g_seq ?_
  refine g_region (l := [0, 1, 2, 3, 4, 5, 6, 7]) rfl ?_
  refine o_call (lv rfl) rfl en_16 rfl (law28_awake hH) ?_
  rintro _ w ⟨rfl, hH⟩
  refine o_v (lv rfl) rfl (r_not rfl) ?_
  refine vM (lv rfl) rfl rfl ?_
  refine s_opsb (fun g3_2 => ?_) (fun g3_2 => ?_)
  ·simp at g3_2
  ·refine o_ldN (lvg rfl rfl rfl) rfl lk_28 rfl ⟨_, _, _, hH.old hb2, _, rfl, rfl, ?_⟩
   refine vM (lvg rfl rfl rfl) rfl rfl ?_
   refine o_call (lvg rfl rfl rfl) rfl en_17 rfl (fair_Fair (c := c) hP hX hls (by omega) hfg hbk hH) ?_
   rintro _ w ⟨bf, rfl, hbf, hH⟩
   obtain rfl : bf = true := hbf.2 (f_fair hls (by omega) hme)
   refine o_v (lvg rfl rfl rfl) rfl (r_not rfl) ?_
   refine o_v (lv rfl) rfl (r_pickF rfl rfl) ?_
   refine g_false rfl ?_
   refine g_skip ?_
   refine g_seq ?_
   refine g_seq ?_
   refine g_region (l := [0]) rfl ?_
   refine vA (lv rfl) rfl rfl ?_
   refine g_block ?_
   refine g_loop (fun mm e w => ∃ (i : Nat) (e0 : Env), i ≤ 3 ∧ mm = 3 - i ∧ e = J e0 [(9, .pointer (some ⟨b9, 0, none⟩)), (10, .slice xa L.length xcap), (11, .int .i64 i)] ∧ Go.Lt.Holds R1 [] w) 3 ⟨0, _, by omega, rfl, (J_self (has_s rfl (has_s rfl (has_s rfl has_0)))), (hH.sel (by repeat' (first | exact Sel.refl _)))⟩ ?_
   rintro mm _ w ⟨i, e1, hi, hm, rfl, hH⟩ hback
   refine g_seq ?_
   refine g_seq ?_
   refine g_region (l := [0, 1]) rfl ?_
   refine vM (lv rfl) rfl rfl ?_
   refine o_v (lv rfl) rfl (r_lt rfl rfl) ?_
   refine g_if rfl (fun c1 => ?_) (fun c1 => ?_)
   ·refine g_skip ?_
    refine g_seq ?_
    refine g_block ?_
    refine g_seq ?_
    refine g_region (l := [0]) rfl ?_
    refine vA (lv rfl) rfl rfl ?_
    refine g_block ?_
    refine g_loop (fun mm e w => ∃ (k : Nat) (e0 : Env), k ≤ i ∧ mm = i - k ∧ e = J e0 [(9, .pointer (some ⟨b9, 0, none⟩)), (10, .slice xa L.length xcap), (11, .int .i64 i), (12, .int .i64 k)] ∧ Go.Lt.Holds R1 [] w) i ⟨0, _, by omega, by omega, (J_self (has_s rfl (has_s rfl (has_s rfl (has_s rfl has_0))))), (hH.sel (by repeat' (first | exact Sel.refl _)))⟩ ?_
    rintro mm2 _ w ⟨k, e2, hk, hm2, rfl, hH⟩ hback2
    refine g_seq ?_
    refine g_seq ?_
    refine g_region (l := [0, 1, 2]) rfl ?_
    refine vM (lv rfl) rfl rfl ?_
    refine vM (lv rfl) rfl rfl ?_
    refine o_v (lv rfl) rfl (r_lt rfl rfl) ?_
    refine g_if rfl (fun c2 => ?_) (fun c2 => ?_)
    ·refine g_skip ?_
     refine g_seq ?_
     refine g_block ?_
     refine g_seq ?_
     refine g_region (l := [0, 1, 2, 3, 4, 5, 6, 7, 8, 9, 10, 11]) rfl ?_
     refine o_ldN (lv rfl) rfl lk_28 rfl ⟨_, _, _, hH.old hb2, _, rfl, rfl, ?_⟩
     refine vM (lv rfl) rfl rfl ?_
     refine vM (lv rfl) rfl rfl ?_
     refine vM (lv rfl) rfl rfl ?_
     refine o_call (lv rfl) rfl en_14 rfl (fair_Gap (c := c) hP hX hls (by omega) _ _ (hfg _ _) hH) ?_
     rintro _ w ⟨rfl, hH⟩
     refine vM (lv rfl) rfl rfl ?_
     refine o_v (lv rfl) rfl (r_ex rfl rfl) ?_
     refine o_v (lv rfl) rfl (r_ex rfl rfl) ?_
     refine o_v (lv rfl) rfl (r_ex rfl rfl) ?_
     refine vA (lv rfl) rfl rfl ?_
     refine vA (lv rfl) rfl rfl ?_
     refine vA (lv rfl) rfl rfl ?_
     refine g_seq ?_
     refine g_region (l := [0, 1, 2, 3, 4, 5]) rfl ?_
     refine vM (lv rfl) rfl rfl ?_
     refine vM (lv rfl) rfl rfl ?_
     refine s_opsb (fun g12_1 => ?_) (fun g12_1 => ?_)
     ·refine vM (lvg rfl rfl rfl) rfl rfl ?_
      refine vM (lvg rfl rfl rfl) rfl rfl ?_
      refine o_v (lvg rfl rfl rfl) rfl (r_gt rfl rfl) ?_
      refine o_v (lv rfl) rfl (r_pickT rfl rfl) ?_
      refine g_if rfl (fun c3 => ?_) (fun c3 => ?_)
      ·exact absurd (hgb _ _ g12_1) (by omega)
      ·refine g_skip ?_
       refine g_inBlock ?_
       refine g_region (l := [0, 1, 2]) rfl ?_
       refine vM (lv rfl) rfl rfl ?_
       refine o_v (lv rfl) rfl (r_addI rfl rfl ?_) ?_; omega
       refine vA (lv rfl) rfl rfl ?_
       exact hback2 _ _ _ ⟨k + 1, _, by omega, rfl, (J_self (has_s rfl (has_s rfl (has_s rfl (has_s rfl has_0))))), (hH.sel (by repeat' (first | exact Sel.refl _)))⟩ (by omega)
     ·refine o_no rfl rfl rfl rfl ?_
      refine o_no rfl rfl rfl rfl ?_
      refine o_no rfl rfl rfl rfl ?_
      refine o_v (lv rfl) rfl (r_pickF rfl rfl) ?_
      refine g_false rfl ?_
      refine g_skip ?_
      refine g_inBlock ?_
      refine g_region (l := [0, 1, 2]) rfl ?_
      refine vM (lv rfl) rfl rfl ?_
      refine o_v (lv rfl) rfl (r_addI rfl rfl ?_) ?_; omega
      refine vA (lv rfl) rfl rfl ?_
      exact hback2 _ _ _ ⟨k + 1, _, by omega, rfl, (J_self (has_s rfl (has_s rfl (has_s rfl (has_s rfl has_0))))), (hH.sel (by repeat' (first | exact Sel.refl _)))⟩ (by omega)
    ·refine g_exit rfl ?_
     refine g_inBlock ?_
     refine g_region (l := [0, 1, 2]) rfl ?_
     refine vM (lv rfl) rfl rfl ?_
     refine o_v (lv rfl) rfl (r_addI rfl rfl ?_) ?_; omega
     refine vA (lv rfl) rfl rfl ?_
     exact hback _ _ _ ⟨i + 1, _, by omega, rfl, (J_self (has_s rfl (has_s rfl (has_s rfl has_0)))), (hH.sel (by repeat' (first | exact Sel.refl _)))⟩ (by omega)
   ·refine g_exit rfl ?_
    refine g_seq ?_
    refine g_region (l := [0]) rfl ?_
    refine vA (lv rfl) rfl rfl ?_
    refine g_rq Tryz.func4 (res_t rfl res_0) ?_
    exact ⟨rfl, by have hZ := hH; subst hR1; have hH := hH0.merge (hH1.merge hZ); exact (hH.sel (by repeat' (first | exact Sel.refl _ | refine Sel.skip _ ?_)))⟩
end
end Go.Proofs.YtkdbglfdgeldpaaGreat
