/- Contract of package law28: FairKept answers true. Condition: the input is only read. -/
import Derived.Test.YtkdbglfdgeldpaaGreatAw
import Derived.Test.YtkdbglfdgeldpaaGreatBent
namespace Go.Proofs.YtkdbglfdgeldpaaGreat
open Go.Lt
theorem trDo_out (s : Tr) (w : Nat) (a l0 step : Int) (c : Call) : ∃ x, (trDo s w a l0 step c).out = s.out ++ [x] ∧ x.ret.packets.length ≤ 16 := by
  unfold trDo
  by_cases h1 : c.op ≠ 5 ∨ c.a < 1 ∨ 16 < c.a
  ·rw [if_pos h1]
   exact ⟨⟨step, w, a, (s.m.do c).1⟩, rfl, do_len _ _⟩
  ·rw [if_neg h1]
   by_cases h2 : (if l0 = 0 then c.a else l0) - 1 = 0 ∨ (s.m.do ⟨4, 0, 0, 0⟩).1.e = 10
   ·rw [if_pos h2]; exact ⟨⟨step, w, a, (s.m.do ⟨4, 0, 0, 0⟩).1⟩, rfl, do_len _ _⟩
   ·rw [if_neg h2]; exact ⟨⟨step, w, a, (s.m.do ⟨4, 0, 0, 0⟩).1⟩, rfl, do_len _ _⟩
theorem trStep_out (ls : List (List Call)) (turns : List Int) (i : Nat) (s : Tr) : (trStep ls turns i s).out = s.out ∨ ∃ x, (trStep ls turns i s).out = s.out ++ [x] ∧ x.ret.packets.length ≤ 16 := by
  unfold trStep
  split
  ·split
   ·exact .inl rfl
   ·exact .inr (trDo_out _ _ _ _ _ _)
  ·exact .inl rfl
theorem trL_out (ls : List (List Call)) (turns : List Int) : ∀ (k i : Nat) (s : Tr), (∀ x ∈ s.out, x.ret.packets.length ≤ 16) → (trL ls turns k i s).out.length ≤ s.out.length + k ∧ ∀ x ∈ (trL ls turns k i s).out, x.ret.packets.length ≤ 16
  | 0, _, s, h => ⟨by simp [trL], h⟩
  | k + 1, i, s, h => by
    rw [trL_S]
    rcases trStep_out ls turns i s with h1 | ⟨x, h1, h2⟩
    ·have ih := trL_out ls turns k (i + 1) (trStep ls turns i s) (by rw [h1]; exact h)
     rw [h1] at ih
     exact ⟨by omega, ih.2⟩
    ·have ih := trL_out ls turns k (i + 1) (trStep ls turns i s) (by
       rw [h1]
       intro y hy
       rcases List.mem_append.1 hy with hy | hy
       ·exact h y hy
       ·rw [List.mem_singleton.1 hy]; exact h2)
     rw [h1] at ih
     simp only [List.length_append, List.length_singleton] at ih
     exact ⟨by omega, ih.2⟩
theorem trace_len (c : Config) (ls : List (List Call)) (turns : List Int) (most : Nat) : (traceOf c ls turns most).length ≤ most := by
  have := (trL_out ls turns most 0 (tr0 c ls.length) (by simp [tr0])).1
  simp [tr0] at this
  exact this
theorem trace_pk (c : Config) (ls : List (List Call)) (turns : List Int) (most : Nat) : ∀ x ∈ traceOf c ls turns most, x.ret.packets.length ≤ 16 :=
  (trL_out ls turns most 0 (tr0 c ls.length) (by simp [tr0])).2
theorem trace_pk2 (c : Config) (ls : List (List Call)) (turns : List Int) (most : Nat) : ∀ x ∈ traceOf c ls turns most, x.ret.packets.length ≤ 100 := fun x hx => by have := trace_pk c ls turns most x hx; omega
theorem eraseIdx_len {α : Type} (l : List α) (i : Nat) : (l.eraseIdx i).length ≤ l.length := by
  rw [List.length_eraseIdx]; split <;> omega
theorem takeAll_len : ∀ (xs l l' : List Packet), takeAll xs l = some l' → l'.length ≤ l.length
  | [], l, l', h => by cases h; exact Nat.le_refl _
  | x :: xs, l, l', h => by
    unfold takeAll at h
    cases h1 : takeP x l with
    | none => rw [h1] at h; cases h
    | some l2 =>
      rw [h1] at h
      have ih := takeAll_len xs l2 l' h
      have : l2.length ≤ l.length := by
        unfold takeP at h1
        split at h1
        ·cases h1
        ·split at h1
         ·cases h1; exact eraseIdx_len _ _
         ·cases h1
      omega
theorem leftL_len (ls : List (List Call)) : ∀ (l : List Point) (inn out : List Packet), leftL ls l inn = some out → out.length ≤ inn.length + l.length
  | [], inn, out, h => by cases h; simp
  | x :: l, inn, out, h => by
    unfold leftL at h
    cases h1 : takeAll x.ret.packets (leftIn ls inn x) with
    | none => rw [h1] at h; cases h
    | some i2 =>
      rw [h1] at h
      have ih := leftL_len ls l i2 out h
      have h2 := takeAll_len _ _ _ h1
      have h3 : (leftIn ls inn x).length ≤ inn.length + 1 := by unfold leftIn; split <;> simp
      simp only [List.length_cons]
      omega
theorem foldl_insF_len : ∀ (l out : List Packet), (l.foldl insF out).length = out.length + l.length
  | [], out => by simp
  | x :: l, out => by rw [List.foldl_cons, foldl_insF_len l, insF_len]; simp; omega
theorem rLeft_len {ls : List (List Call)} {l : List Point} {out : List Packet} (h : rLeft ls l = some out) : out.length ≤ l.length := by
  unfold rLeft at h
  obtain ⟨o, h1, rfl⟩ := Option.map_eq_some_iff.1 h
  have := leftL_len ls l [] o h1
  unfold sortF
  rw [foldl_insF_len]
  simpa using this
section
variable {R : Base} {F : List HP} {w : World}
theorem plays_nil {c : Config} {lsv xv : Value} {ls : List (List Call)} {l : List Point} (hP : RLists lsv ls R.h) (hX : RPoints xv l R.h) (hls : listsOk ls) (hl : l.length ≤ 1000000) (hH : Go.Lt.Holds R F w) :
    Ret Tryz.prog 20 [vPlan c lsv, xv] w fun v w' => ∃ p : Option Addr, v = .pointer p ∧ (p.isNone = true ↔ plays c ls l = none) ∧ Go.Lt.Holds R F w' := by
  refine (r27_Plays hP hX hls hl hH).mono fun v w' h => ?_
  cases hp : plays c ls l with
  | none => rw [hp] at h; exact ⟨none, h.1, by simp, h.2⟩
  | some m => rw [hp] at h; obtain ⟨b, h1, h2⟩ := h; exact ⟨_, h1, by simp, h2.drop⟩
theorem left_n {c : Config} {lsv xv : Value} {ls : List (List Call)} {l : List Point} (hP : RLists lsv ls R.h) (hX : RPoints xv l R.h) (hls : listsOk ls) (hl : l.length ≤ 1000000) (hpk : ∀ x ∈ l, x.ret.packets.length ≤ 1000) (hH : Go.Lt.Holds R F w) :
    Ret Tryz.prog 22 [vPlan c lsv, xv] w fun v w' => ∃ ov out, v = .tuple #[ov, .bool (rLeft ls l).isSome] ∧ out = (rLeft ls l).getD [] ∧ Go.Lt.Holds R (Vec 54 3 encP ov out :: F) w' := by
  refine (r27_Left (c := c) hP hX hls hl hpk hH).mono fun v w' h => ?_
  cases hp : rLeft ls l with
  | none => rw [hp] at h; exact ⟨_, [], h.1, rfl, h.2.vnil _ _ _⟩
  | some m => rw [hp] at h; obtain ⟨ov, h1, h2⟩ := h; exact ⟨_, _, h1, rfl, h2⟩
theorem kept_left {c : Config} {ls : List (List Call)} {l : List Point} {me : Mdl} (hls : listsOk ls) (hl : l.length ≤ 10000) (h : plays c ls l = some me) : (rLeft ls l).isSome = true := by
  obtain ⟨hc, hp⟩ := playL_of h
  obtain ⟨inn, h1, -, -⟩ := left_run hls l 0 _ _ _ none me [] (st0 hc) (by omega) hp ⟨fun f => by simp [flt, aget, acc0, pend], by simp⟩
  unfold rLeft
  rw [h1]; rfl
theorem lo_out {c : Config} {ls : List (List Call)} {l : List Point} {me : Mdl} {lo out : List Packet} (hls : listsOk ls) (hl : l.length ≤ 10000) (h : plays c ls l = some me)
    (hso : plays c ls l ≠ none → ∃ K : List Int, K.Perm (akeys (bookOf c ls l).1) ∧ K.Pairwise (· < ·) ∧ lo = K.flatMap (restOf (bookOf c ls l).1)) (hout : out = (rLeft ls l).getD []) : rLeft ls l = some lo ∧ lo = out := by
  obtain ⟨K, hK1, hK2, hK3⟩ := hso (by rw [h]; simp)
  have e := left_eq hls (by omega) h hK1 hK2
  rw [← hK3] at e
  exact ⟨e, by rw [hout, e]; rfl⟩
set_option maxHeartbeats 1000000 in
theorem law28_FairKept {lv0 tv : Value} {ls0 : List (List Call)} {turns : List Int} (cf : Config) (h1 : I cf.shards) (h2 : I cf.slots) (h3 : I cf.workers) (h4 : I cf.width) (h5 : U cf.unit) (hL : WLists lv0 ls0 R.h) (hls0 : ls0.length ≤ 9223372036854775807 ∧ ∀ l ∈ ls0, l.length ≤ 9223372036854775807 ∧ ∀ c ∈ l, c.ok)
    (hT : Rd encI tv turns R.h) (htb : turns.length ≤ 9223372036854775807) (htI : ∀ t ∈ turns, I t) (kind at_ n : Int) (hk : I kind) (ha : I at_) (hn : I n) (hH : Go.Lt.Holds R F w) :
    Ret Tryz.prog 7 [vCfg cf, lv0, tv, .int .i64 kind, .int .i64 at_, .int .i64 n] w fun v w' => v = .bool true ∧ Go.Lt.Holds R F w' := by
  have hmd := md_b n (n := 2) (by omega)
  refine ret_of_g (n := 71) Tryz.func7 rfl rfl (by simp) ?_
  refine g_seq ?_
  refine g_region (l := [0, 1]) rfl ?_
  refine o_box (lv rfl) rfl (cs := [_, _, _, _, _]) rfl rfl hH ?_
  intro b6 w hH
  refine vA (lv rfl) rfl rfl ?_
  refine g_seq ?_
  refine g_region (l := [0, 1, 2, 3, 4]) rfl ?_
  refine o_ldN (lv rfl) rfl lk_24 rfl ⟨_, _, _, hH.c0, [_, _, _, _, _], rfl, rfl, ?_⟩
  refine vM (lv rfl) rfl rfl ?_
  refine o_call (lv rfl) rfl en_10 rfl (play_Wide cf h1 h2 h3 h4 h5 hL hls0 40 hH) ?_
  rintro _ w ⟨c, v, ls, rfl, hcfg, hls, hlw, hlb, hH⟩
  obtain ⟨bl, Ql, rfl, -, -⟩ := ListsC.op hH
  refine o_al (lv rfl) rfl ze_28 hH ?_
  intro b13 w hH
  refine o_st (lv rfl) rfl lk_28 rfl (vs := [_, _, _, _, _, _]) rfl rfl (by exact hH) rfl rfl (by simp) rfl ?_
  intro w hH; dsimp only [setL, List.set] at hH
  refine g_seq ?_
  have hH0 := hH
  have hlN : 0 < ls.length := by unfold cfgOk at hcfg; omega
  have hlb2 : ∀ l ∈ ls, l.length ≤ 1000000 := fun l hl => by have := hlb l hl; omega
  have hb2 : (baseOf w).h b13 = some (.cells [.int .i64 c.shards, .int .i64 c.slots, .int .i64 c.workers, .int .i64 c.width, .int .u64 c.unit, .slice (some ⟨bl, 0, none⟩) Ql.length Ql.length].toArray 28 (0, 0)) := hH.c0
  have hP : RLists (.slice (some ⟨bl, 0, none⟩) Ql.length Ql.length) ls (baseOf w).h := ListsC.rl hH.p1
  have hT1 : Rd encI tv turns (baseOf w).h := Rd.up _ _ hT hH.ro
  replace hH := holds_start w
  refine g_region (l := [0, 1, 2, 3]) rfl ?_
  refine o_ldN (lv rfl) rfl lk_28 rfl ⟨_, _, _, hH.old hb2, _, rfl, rfl, ?_⟩
  refine vM (lv rfl) rfl rfl ?_
  refine o_call (lv rfl) rfl en_11 rfl (law27_Trace (R := baseOf _) (c := c) (ls := ls) (turns := turns) (most := 60) hcfg hP hls hlN hlb2 hT1 htb htI (by omega) hH) ?_
  rintro _ w hH
  have hH1 := hH; obtain ⟨R1, hR1⟩ : ∃ R1, R1 = baseOf w := ⟨_, rfl⟩; have hX : RPoints _ _ R1.h := (by rw [hR1]; exact PtsC.rp hH); replace hP : RLists (.slice (some ⟨bl, 0, none⟩) Ql.length Ql.length) ls R1.h := (by rw [hR1]; exact RLists.up _ _ hP hH.ro); replace hb2 := hH.ro _ _ hb2; replace hb2 : R1.h b13 = some (.cells [.int .i64 c.shards, .int .i64 c.slots, .int .i64 c.workers, .int .i64 c.width, .int .u64 c.unit, .slice (some ⟨bl, 0, none⟩) Ql.length Ql.length].toArray 28 (0, 0)) := (by rw [hR1]; exact hb2); replace hH : Go.Lt.Holds R1 [] w := (by rw [hR1]; exact holds_start w); have hlen := trace_len c ls turns 60; have hpk0 : ∀ x ∈ traceOf c ls turns 60, x.ret.packets.length ≤ 100 := trace_pk2 c ls turns 60; generalize traceOf c ls turns 60 = L0 at *
  refine vA (lv rfl) rfl rfl ?_
  refine g_seq ?_
  refine g_seq ?_
  refine g_region (l := [0, 1, 2]) rfl ?_
  refine vM (lv rfl) rfl rfl ?_
  refine o_call (lv rfl) rfl en_12 rfl (play_Mod n 2 hn (by omega) (by omega) hH) ?_
  rintro _ w ⟨rfl, hH⟩
  refine o_v (lv rfl) rfl (r_eq rfl rfl) ?_
  refine g_join (fun e w => ∃ (e0 : Env) (xv : Value) (L : List Point), RPoints xv L (hp w) ∧ L.length ≤ 60 ∧ (∀ x ∈ L, x.ret.packets.length ≤ 101) ∧ e = J e0 [(13, .pointer (some ⟨b13, 0, none⟩)), (14, xv)] ∧ Go.Lt.Holds R1 [] w) (fun kk hkk => ?_) ?_
  ·refine g_if rfl (fun c0 => ?_) (fun c0 => ?_)
   ·refine g_region (l := [0, 1, 2, 3, 4, 5]) rfl ?_
    refine vM (lv rfl) rfl rfl ?_
    refine vM (lv rfl) rfl rfl ?_
    refine vM (lv rfl) rfl rfl ?_
    refine vM (lv rfl) rfl rfl ?_
    refine o_call (lv rfl) rfl en_13 rfl (law27_Bent hX (by omega) hpk0 kind at_ n hk ha hn hH) ?_
    rintro _ w ⟨l', hX', hl', hp', hH⟩
    refine vA (lv rfl) rfl rfl ?_
    (have hg : md n 2 = 0 := c0
     exact hkk _ _ ⟨_, _, l', hX', by omega, hp', (J_self (has_s rfl (has_s rfl has_0))), (hH.sel (by repeat' (first | exact Sel.refl _)))⟩)
   ·refine g_skip ?_
    (have hg : ¬ md n 2 = 0 := c0
     exact hkk _ _ ⟨_, _, _, RPoints.up _ _ hX hH.ro, hlen, fun x hx => by have := hpk0 x hx; omega, (J_self (has_s rfl (has_s rfl has_0))), (hH.sel (by repeat' (first | exact Sel.refl _)))⟩)
  ·rintro _ w ⟨e0, xv, L, hX2, hlen2, hpk2, rfl, hH⟩
   have hH2 := hH
   have hpk3 : ∀ x ∈ L, x.ret.packets.length ≤ 1000 := fun x hx => by have := hpk2 x hx; omega
   have hbl := book_le (c := c) hls (l := L) (by omega)
   have hbk := book_keys (c := c) hls (l := L) (by omega)
   clear hX hlen hpk0
   obtain ⟨R2, hR2⟩ : ∃ R2, R2 = baseOf w := ⟨_, rfl⟩
   have hX : RPoints xv L R2.h := by rw [hR2]; exact hX2
   replace hP : RLists (.slice (some ⟨bl, 0, none⟩) Ql.length Ql.length) ls R2.h := by rw [hR2]; exact RLists.up _ _ hP hH.ro
   replace hb2 := hH.ro _ _ hb2
   replace hb2 : R2.h b13 = some (.cells [.int .i64 c.shards, .int .i64 c.slots, .int .i64 c.workers, .int .i64 c.width, .int .u64 c.unit, .slice (some ⟨bl, 0, none⟩) Ql.length Ql.length].toArray 28 (0, 0)) := by rw [hR2]; exact hb2
   replace hH : Go.Lt.Holds R2 [] w := by rw [hR2]; exact holds_start w
   refine g_seq ?_
   refine g_region (l := [0, 1, 2, 3, 4, 5, 6, 7]) rfl ?_
   refine o_ldN (lv rfl) rfl lk_28 rfl ⟨_, _, _, hH.old hb2, _, rfl, rfl, ?_⟩
   refine vM (lv rfl) rfl rfl ?_
   refine o_call (lv rfl) rfl en_22 rfl (left_n hP hX hls (by omega) hpk3 hH) ?_
   rintro _ w ⟨ov, out, rfl, hout, hH⟩
   refine vM (lv rfl) rfl rfl ?_
   refine o_v (lv rfl) rfl (r_ex rfl rfl) ?_
   refine o_v (lv rfl) rfl (r_ex rfl rfl) ?_
   refine vA (lv rfl) rfl rfl ?_
   refine vA (lv rfl) rfl rfl ?_
   refine g_seq ?_
   refine g_seq ?_
   refine g_region (l := [0, 1, 2, 3]) rfl ?_
   refine o_ldN (lv rfl) rfl lk_28 rfl ⟨_, _, _, hH.old hb2, _, rfl, rfl, ?_⟩
   refine vM (lv rfl) rfl rfl ?_
   refine o_call (lv rfl) rfl en_20 rfl (plays_nil hP hX hls (by omega) hH) ?_
   rintro _ w ⟨p, rfl, hp, hH⟩
   refine o_v (lv rfl) rfl (r_eqpn pp_42 rfl rfl) ?_
   rw [show p.isNone = decide (p = none) from by cases p <;> simp]
   refine g_if rfl (fun c1 => ?_) (fun c1 => ?_)
   ·have hpl := hp.1 (by rw [c1]; rfl)
    have hkv : ((plays c ls L).isSome && keptB (bookOf c ls L).1) = false := by rw [hpl]; rfl
    refine g_seq ?_
    refine g_region (l := [0, 1, 2, 3, 4, 5, 6, 7, 8, 9, 10, 11, 12, 13, 14]) rfl ?_
    refine o_call (lv rfl) rfl en_16 rfl (law28_awake hH) ?_
    rintro _ w ⟨rfl, hH⟩
    refine vM (lv rfl) rfl rfl ?_
    refine s_opsb (fun g7_1 => ?_) (fun g7_1 => ?_)
    ·refine o_ldN (lvg rfl rfl rfl) rfl lk_28 rfl ⟨_, _, _, hH.old hb2, _, rfl, rfl, ?_⟩
     refine vM (lvg rfl rfl rfl) rfl rfl ?_
     refine o_call (lvg rfl rfl rfl) rfl en_23 rfl (fair_Kept (c := c) hP hX hls (by omega) hH) ?_
     rintro _ w ⟨rfl, hH⟩
     rw [hkv]
     refine o_v (lvg rfl rfl rfl) rfl (r_not rfl) ?_
     refine o_v (lv rfl) rfl (r_pickT rfl rfl) ?_
     refine vM (lv rfl) rfl rfl ?_
     refine s_opsb (fun g7_7 => ?_) (fun g7_7 => ?_)
     ·refine o_ldN (lvg rfl rfl rfl) rfl lk_28 rfl ⟨_, _, _, hH.old hb2, _, rfl, rfl, ?_⟩
      refine vM (lvg rfl rfl rfl) rfl rfl ?_
      refine o_call (lvg rfl rfl rfl) rfl en_24 rfl (fair_Left (c := c) hP hX hls (by omega) hbl hbk hH) ?_
      rintro _ w ⟨lo, hH, hno, hso⟩
      obtain ⟨oa, ocap, rfl, -⟩ := hH.rd.len; first | (have hg : p = none := c1; skip) | (have hg : ¬ p = none := c1; have hlo := lo_out hls (by omega) hme hso hout; have hlol : lo.length ≤ 2147483648 := (by have := rLeft_len hlo.1; omega); have hloe : decide (lo = out) = true := (by rw [hlo.2, decide_eq_true_eq]))
      refine o_v (lvg rfl rfl rfl) rfl (r_len el_48 rfl) ?_
      refine o_v (lvg rfl rfl rfl) rfl (r_eq rfl rfl) ?_
      refine o_v (lv rfl) rfl (r_pickT rfl rfl) ?_
      refine vA (lv rfl) rfl rfl ?_
      refine g_rq Tryz.func7 (res_t rfl res_0) ?_
      first
      | (have hg : p = none := c1
         have hlz := hno hpl
         exact ⟨bv (by rw [hlz]; rfl), by have hZ := hH; subst hR2 hR1; have hH := hH0.merge (hH1.merge (hH2.merge hZ)); exact (hH.sel (by repeat' (first | exact Sel.refl _ | refine Sel.skip _ ?_)))⟩)
      | (have hg : ¬ p = none := c1
         exact ⟨bv rfl, by have hZ := hH; subst hR2 hR1; have hH := hH0.merge (hH1.merge (hH2.merge hZ)); exact (hH.sel (by repeat' (first | exact Sel.refl _)))⟩)
     ·cases g7_7
    ·cases g7_1
   ·have hpl : plays c ls L ≠ none := fun h => c1 (by have := hp.2 h; simpa using this)
    obtain ⟨me, hme⟩ := Option.ne_none_iff_exists'.1 hpl
    have hkv : ((plays c ls L).isSome && keptB (bookOf c ls L).1) = true := by rw [Bool.and_eq_true]; exact ⟨by rw [hme]; rfl, book_kept hls (by omega) hme⟩
    have hlv : (rLeft ls L).isSome = true := kept_left hls (by omega) hme
    refine g_skip ?_
    refine g_seq ?_
    rw [hlv]
    refine g_region (l := [0, 1, 2, 3, 4, 5, 6, 7, 8, 9, 10, 11, 12, 13, 14, 15, 16]) rfl ?_
    refine o_call (lv rfl) rfl en_16 rfl (law28_awake hH) ?_
    rintro _ w ⟨rfl, hH⟩
    refine vM (lv rfl) rfl rfl ?_
    refine s_opsb (fun g8_1 => ?_) (fun g8_1 => ?_)
    ·refine vM (lvg rfl rfl rfl) rfl rfl ?_
     refine o_v (lv rfl) rfl (r_pickT rfl rfl) ?_
     refine vM (lv rfl) rfl rfl ?_
     refine s_opsb (fun g8_4 => ?_) (fun g8_4 => ?_)
     ·refine o_ldN (lvg rfl rfl rfl) rfl lk_28 rfl ⟨_, _, _, hH.old hb2, _, rfl, rfl, ?_⟩
      refine vM (lvg rfl rfl rfl) rfl rfl ?_
      refine o_call (lvg rfl rfl rfl) rfl en_23 rfl (fair_Kept (c := c) hP hX hls (by omega) hH) ?_
      rintro _ w ⟨rfl, hH⟩
      rw [hkv]
      refine o_v (lv rfl) rfl (r_pickT rfl rfl) ?_
      refine vM (lv rfl) rfl rfl ?_
      refine s_opsb (fun g8_9 => ?_) (fun g8_9 => ?_)
      ·refine o_ldN (lvg rfl rfl rfl) rfl lk_28 rfl ⟨_, _, _, hH.old hb2, _, rfl, rfl, ?_⟩
       refine vM (lvg rfl rfl rfl) rfl rfl ?_
       refine o_call (lvg rfl rfl rfl) rfl en_24 rfl (fair_Left (c := c) hP hX hls (by omega) hbl hbk hH) ?_
       rintro _ w ⟨lo, hH, hno, hso⟩
       obtain ⟨oa, ocap, rfl, -⟩ := hH.rd.len; first | (have hg : p = none := c1; skip) | (have hg : ¬ p = none := c1; have hlo := lo_out hls (by omega) hme hso hout; have hlol : lo.length ≤ 2147483648 := (by have := rLeft_len hlo.1; omega); have hloe : decide (lo = out) = true := (by rw [hlo.2, decide_eq_true_eq]))
       refine vM (lvg rfl rfl rfl) rfl rfl ?_
       refine o_call (lvg rfl rfl rfl) rfl en_25 rfl (help_PlainP (R := baseOf _) (F := []) hH.rd hH.p1.rd hlol (holds_start _)) ?_
       rintro _ w ⟨rfl, hH'⟩
       rw [hloe]; replace hH := hH.merge hH'
       refine o_v (lv rfl) rfl (r_pickT rfl rfl) ?_
       refine vA (lv rfl) rfl rfl ?_
       refine g_rq Tryz.func7 (res_t rfl res_0) ?_
       first
       | (have hg : p = none := c1
          have hlz := hno hpl
          exact ⟨bv (by rw [hlz]; rfl), by have hZ := hH; subst hR2 hR1; have hH := hH0.merge (hH1.merge (hH2.merge hZ)); exact (hH.sel (by repeat' (first | exact Sel.refl _)))⟩)
       | (have hg : ¬ p = none := c1
          exact ⟨bv rfl, by have hZ := hH; subst hR2 hR1; have hH := hH0.merge (hH1.merge (hH2.merge hZ)); exact (hH.sel (by repeat' (first | exact Sel.refl _ | refine Sel.skip _ ?_)))⟩)
      ·cases g8_9
     ·cases g8_4
    ·cases g8_1
end
end Go.Proofs.YtkdbglfdgeldpaaGreat
