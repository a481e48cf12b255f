/- Contract of package law28: FairTold answers true. Condition: the input is only read. -/
import Derived.Test.YtkdbglfdgeldpaaGreatBound
namespace Go.Proofs.YtkdbglfdgeldpaaGreat
open Go.Lt
theorem flt_comm {x y : Packet} (h : y.flow ≠ x.flow) (f : Int) : flt f [y] ++ flt f [x] = flt f [x] ++ flt f [y] := by
  rw [flt_one, flt_one]
  by_cases h1 : y.flow = f
  ·have h2 : ¬ x.flow = f := fun h2 => h (by rw [h1, h2])
   rw [if_pos h1, if_neg h2]; rfl
  ·rw [if_neg h1]; simp
theorem flt_cons (f : Int) (x : Packet) (l : List Packet) : flt f (x :: l) = flt f [x] ++ flt f l := flt_append f [x] l
theorem takeP_flt {x : Packet} (f : Int) : ∀ {l l2 : List Packet}, takeP x l = some l2 → flt f l = flt f [x] ++ flt f l2
  | [], l2, h => by unfold takeP at h; simp at h
  | y :: l, l2, h => by
    unfold takeP firstF at h
    rw [List.findIdx_cons] at h
    by_cases hy : y.flow = x.flow
    ·rw [show (y.flow == x.flow) = true from by simpa using hy] at h
     simp only [cond_true, List.getElem?_cons_zero] at h
     split at h
     ·rename_i e
      subst e
      simp at h
      subst h
      exact flt_cons f _ _
     ·cases h
    ·rw [show (y.flow == x.flow) = false from by simpa using hy] at h
     simp only [cond_false, List.getElem?_cons_succ] at h
     split at h
     ·cases h
     ·rename_i q hq
      split at h
      ·rename_i e
       have ih := takeP_flt f (x := x) (l := l) (l2 := l.eraseIdx (l.findIdx fun p => p.flow == x.flow)) (by unfold takeP firstF; rw [hq]; simp only; rw [if_pos e])
       simp only [Option.some.injEq] at h
       subst h
       rw [List.eraseIdx_cons_succ, flt_cons, ih, flt_cons f y (l.eraseIdx (l.findIdx fun p => p.flow == x.flow)), ← List.append_assoc, ← List.append_assoc, flt_comm hy]
      ·cases h
theorem takeAll_flt (f : Int) : ∀ (xs l l' : List Packet), takeAll xs l = some l' → flt f l = flt f xs ++ flt f l'
  | [], l, l', h => by cases h; simp [flt]
  | x :: xs, l, l', h => by
    unfold takeAll at h
    cases h1 : takeP x l with
    | none => rw [h1] at h; cases h
    | some l2 =>
      rw [h1] at h
      rw [takeP_flt f h1, takeAll_flt f xs l2 l' h, flt_cons f x xs, List.append_assoc]
/-- What a point brings in of a flow. -/
def inAt (ls : List (List Call)) (f : Int) (x : Point) : List Packet := if (callOf ls x).1.op = 3 ∧ (callOf ls x).1.flow = f ∧ x.ret.e = 0 then [⟨f, (callOf ls x).1.a, (callOf ls x).1.b⟩] else []
theorem leftIn_flt (ls : List (List Call)) (f : Int) (inn : List Packet) (x : Point) : flt f (leftIn ls inn x) = flt f inn ++ inAt ls f x := by
  unfold leftIn inAt
  by_cases h : came ls x
  ·rw [if_pos h, flt_append, flt_one]
   unfold came at h
   by_cases h2 : (callOf ls x).1.flow = f
   ·rw [if_pos h2, if_pos ⟨h.1, h2, h.2⟩, h2]
   ·rw [if_neg h2, if_neg (fun h3 => h2 h3.2.1)]
  ·rw [if_neg h, if_neg (fun h3 => h ⟨h3.1, h3.2.2⟩), List.append_nil]
theorem leftL_flt (ls : List (List Call)) (f : Int) : ∀ (l : List Point) (inn out : List Packet), leftL ls l inn = some out → flt f inn ++ l.flatMap (inAt ls f) = l.flatMap (fun x => flt f x.ret.packets) ++ flt f out
  | [], inn, out, h => by cases h; simp
  | x :: l, inn, out, h => by
    unfold leftL at h
    cases h1 : takeAll x.ret.packets (leftIn ls inn x) with
    | none => rw [h1] at h; cases h
    | some i2 =>
      rw [h1] at h
      have ih := leftL_flt ls f l i2 out h
      have h2 := takeAll_flt f _ _ _ h1
      rw [leftIn_flt] at h2
      rw [List.flatMap_cons, List.flatMap_cons, ← List.append_assoc, h2, List.append_assoc, ih, List.append_assoc]
theorem told_eq {ls : List (List Call)} {l : List Point} {lo : List Packet} (h : rLeft ls l = some lo) (f : Int) : l.flatMap (inAt ls f) = l.flatMap (fun x => flt f x.ret.packets) ++ flt f lo := by
  unfold rLeft at h
  obtain ⟨o, h1, rfl⟩ := Option.map_eq_some_iff.1 h
  have := leftL_flt ls f l [] o h1
  have h2 := (sortF_spec o [] .nil).2 f
  unfold sortF
  rw [h2]
  simpa [flt] using this
theorem left_srt {ls : List (List Call)} {l : List Point} {lo : List Packet} (h : rLeft ls l = some lo) : SrtF lo := by
  unfold rLeft at h
  obtain ⟨o, h1, rfl⟩ := Option.map_eq_some_iff.1 h
  exact (sortF_spec o [] .nil).1
theorem srt_at {lo : List Packet} (h : SrtF lo) {i : Nat} {p q : Packet} (hi : 1 ≤ i) (hp : lo[i - 1]? = some p) (hq : lo[i]? = some q) : p.flow ≤ q.flow := by
  obtain ⟨h1, e1⟩ := List.getElem?_eq_some_iff.1 hp
  obtain ⟨h2, e2⟩ := List.getElem?_eq_some_iff.1 hq
  have := List.pairwise_iff_getElem.1 h (i - 1) i h1 h2 (by omega)
  rw [e1, e2] at this; exact this
theorem playL_call {ls : List (List Call)} : ∀ (l : List Point) (m me : Mdl) (last : Option Int), playL ls l m last = some me → ∀ x ∈ l, (callOf ls x).2 = true
  | [], _, _, _, _, x, hx => by cases hx
  | y :: l, m, me, last, h, x, hx => by
    by_cases hy : (callOf ls y).2 = false ∨ tooLate last y ∨ (m.do (callOf ls y).1).1 ≠ y.ret
    ·rw [playL_no hy] at h; cases h
    ·have h1 : (callOf ls y).2 = true := by
       cases hc : (callOf ls y).2 with
       | true => rfl
       | false => exact absurd (.inl hc) hy
     have h2 : ¬ tooLate last y := fun h' => hy (.inr (.inl h'))
     have h3 : (m.do (callOf ls y).1).1 = y.ret := Classical.byContradiction fun h' => hy (.inr (.inr h'))
     rw [playL_yes h1 h2 h3] at h
     rcases List.mem_cons.1 hx with rfl | hx
     ·exact h1
     ·exact playL_call l _ me _ h x hx
theorem call_at {ls : List (List Call)} (hb : ∀ l ∈ ls, ∀ y ∈ l, bCall y) {x : Point} (h : (callOf ls x).2 = true) : ∃ (u p : Nat) (l : List Call), x.who = u ∧ x.place = p ∧ ls[u]? = some l ∧ l[p]? = some (callOf ls x).1 := by
  unfold callOf at h ⊢
  split at h
  ·cases h
  ·rename_i h0
   cases h1 : ls[x.who.toNat]? with
   | none => rw [h1] at h; cases h
   | some l =>
     rw [h1] at h
     dsimp only at h
     split at h
     ·cases h
     ·rename_i h2
      cases h3 : l[x.place.toNat]? with
      | none => rw [h3] at h; cases h
      | some y =>
        have hy := hb l (List.mem_of_getElem? h1) y (List.mem_of_getElem? h3)
        refine ⟨x.who.toNat, x.place.toNat, l, by omega, by omega, h1, ?_⟩
        rw [if_neg h0]
        dsimp only
        rw [if_neg h2, h3]
        dsimp only
        rw [if_neg (by unfold bCall at hy; omega)]
theorem take_S {α : Type} {l : List α} {i : Nat} {x : α} (h : l[i]? = some x) : l.take (i + 1) = l.take i ++ [x] := by
  rw [List.take_add_one, h]; rfl
section
variable {R : Base} {F : List HP} {w : World}
theorem kept_true {c : Config} {ls : List (List Call)} {l : List Point} {me : Mdl} (hls : listsOk ls) (hl : l.length ≤ 1000000) (hme : plays c ls l = some me) : ((plays c ls l).isSome && keptB (bookOf c ls l).1) = true := by rw [Bool.and_eq_true]; exact ⟨by rw [hme]; rfl, book_kept hls hl hme⟩
set_option maxHeartbeats 1000000 in
theorem law28_FairTold {wv lv0 tv : Value} {ws : List Int} {l : List Call} {turns : List Int} (cf : Config) (h1 : I cf.shards) (h2 : I cf.slots) (h3 : I cf.workers) (h4 : I cf.width) (h5 : U cf.unit) (hW : Rd encI wv ws R.h) (hwl : ws.length ≤ 9223372036854775807) (hws : ∀ x ∈ ws, I x)
    (hL : Rd encC lv0 l R.h) (hll : l.length ≤ 9223372036854775807) (hlc : ∀ c ∈ l, c.ok) (hT : Rd encI tv turns R.h) (htb : turns.length ≤ 9223372036854775807) (htI : ∀ t ∈ turns, I t) (hH : Go.Lt.Holds R F w) :
    Ret Tryz.prog 8 [vCfg cf, wv, lv0, tv] w fun v w' => v = .bool true ∧ Go.Lt.Holds R F w' := by
  refine ret_of_g (n := 168) Tryz.func8 rfl rfl (by simp) ?_
  refine g_seq ?_
  refine g_region (l := [0, 1]) rfl ?_
  refine o_box (lv rfl) rfl (cs := [_, _, _, _, _]) rfl rfl hH ?_
  intro b4 w hH
  refine vA (lv rfl) rfl rfl ?_
  refine g_seq ?_
  refine g_region (l := [0, 1, 2, 3, 4, 5]) rfl ?_
  refine o_ldN (lv rfl) rfl lk_24 rfl ⟨_, _, _, hH.c0, [_, _, _, _, _], rfl, rfl, ?_⟩
  refine vM (lv rfl) rfl rfl ?_
  refine vM (lv rfl) rfl rfl ?_
  refine o_call (lv rfl) rfl en_19 rfl (law28_Busy cf h1 h2 h3 h4 h5 hW hwl hws hL hll hlc hH) ?_
  rintro _ w ⟨c, v, ls, rfl, hcfg, hl2, hlb, hH⟩
  obtain ⟨bl, Ql, rfl, -, -⟩ := ListsC.op hH
  refine o_al (lv rfl) rfl ze_28 hH ?_
  intro b9 w hH
  refine o_st (lv rfl) rfl lk_28 rfl (vs := [_, _, _, _, _, _]) rfl rfl (by exact hH) rfl rfl (by simp) rfl ?_
  intro w hH; dsimp only [setL, List.set] at hH
  refine g_seq ?_
  have hH0 := hH
  obtain ⟨hls, hlN, hlb2, hbc⟩ := busy_ok hl2 hlb
  obtain ⟨me, hme⟩ := trace_plays turns 60 hcfg hbc
  have hpl : plays c ls (traceOf c ls turns 60) ≠ none := by rw [hme]; simp
  have hb2 : (baseOf w).h b9 = some (.cells [.int .i64 c.shards, .int .i64 c.slots, .int .i64 c.workers, .int .i64 c.width, .int .u64 c.unit, .slice (some ⟨bl, 0, none⟩) Ql.length Ql.length].toArray 28 (0, 0)) := hH.c0
  have hP : RLists (.slice (some ⟨bl, 0, none⟩) Ql.length Ql.length) ls (baseOf w).h := ListsC.rl hH.p1
  have hT1 : Rd encI tv turns (baseOf w).h := Rd.up _ _ hT hH.ro
  replace hH := holds_start w
  refine g_region (l := [0, 1, 2, 3]) rfl ?_
  refine o_ldN (lv rfl) rfl lk_28 rfl ⟨_, _, _, hH.old hb2, _, rfl, rfl, ?_⟩
  refine vM (lv rfl) rfl rfl ?_
  refine o_call (lv rfl) rfl en_11 rfl (law27_Trace (R := baseOf _) (c := c) (ls := ls) (turns := turns) (most := 60) hcfg hP hls hlN hlb2 hT1 htb htI (by omega) hH) ?_
  rintro _ w hH
  have hH1 := hH; obtain ⟨xa, xcap, rfl⟩ := PtsC.len hH; obtain ⟨R1, hR1⟩ : ∃ R1, R1 = baseOf w := ⟨_, rfl⟩; have hX : RPoints _ _ R1.h := (by rw [hR1]; exact PtsC.rp hH); replace hP : RLists (.slice (some ⟨bl, 0, none⟩) Ql.length Ql.length) ls R1.h := (by rw [hR1]; exact RLists.up _ _ hP hH.ro); replace hb2 := hH.ro _ _ hb2; replace hb2 : R1.h b9 = some (.cells [.int .i64 c.shards, .int .i64 c.slots, .int .i64 c.workers, .int .i64 c.width, .int .u64 c.unit, .slice (some ⟨bl, 0, none⟩) Ql.length Ql.length].toArray 28 (0, 0)) := (by rw [hR1]; exact hb2); replace hH : Go.Lt.Holds R1 [] w := (by rw [hR1]; exact holds_start w); have hlen := trace_len c ls turns 60; have hpk := trace_pk c ls turns 60; have hfg := f_good (c := c) hls (l := traceOf c ls turns 60) (by omega); have hbk := book_keys (c := c) hls (l := traceOf c ls turns 60) (by omega); have hbe := book_le (c := c) hls (l := traceOf c ls turns 60) (by omega); generalize traceOf c ls turns 60 = L at *
  refine vA (lv rfl) rfl rfl ?_
  refine g_seq ?_
  refine g_seq ?_
  refine g_region (l := [0, 1, 2, 3, 4, 5, 6, 7]) rfl ?_
  refine o_call (lv rfl) rfl en_16 rfl (law28_awake hH) ?_
  rintro _ w ⟨rfl, hH⟩
  refine o_v (lv rfl) rfl (r_not rfl) ?_
  refine vM (lv rfl) rfl rfl ?_
  refine s_opsb (fun g3_2 => ?_) (fun g3_2 => ?_)
  ·simp at g3_2
  ·refine o_ldN (lvg rfl rfl rfl) rfl lk_28 rfl ⟨_, _, _, hH.old hb2, _, rfl, rfl, ?_⟩
   refine vM (lvg rfl rfl rfl) rfl rfl ?_
   refine o_call (lvg rfl rfl rfl) rfl en_23 rfl (fair_Kept (c := c) hP hX hls (by omega) hH) ?_
   rintro _ w ⟨rfl, hH⟩
   rw [kept_true hls (by omega) hme]
   refine o_v (lvg rfl rfl rfl) rfl (r_not rfl) ?_
   refine o_v (lv rfl) rfl (r_pickF rfl rfl) ?_
   refine g_false rfl ?_
   refine g_skip ?_
   refine g_seq ?_
   refine g_region (l := [0, 1, 2, 3]) rfl ?_
   refine o_ldN (lv rfl) rfl lk_28 rfl ⟨_, _, _, hH.old hb2, _, rfl, rfl, ?_⟩
   refine vM (lv rfl) rfl rfl ?_
   refine o_call (lv rfl) rfl en_24 rfl (fair_Left (c := c) hP hX hls (by omega) hbe hbk hH) ?_
   rintro _ w ⟨lo, hH, -, hso⟩
   obtain ⟨la, lcap, rfl, -⟩ := hH.rd.len; have hlo := (lo_out hls (by omega) hme hso rfl).1; have hlol := rLeft_len hlo; have hH2 := hH; obtain ⟨R2, hR2⟩ : ∃ R2, R2 = baseOf w := ⟨_, rfl⟩; have hLo : Rd encP (.slice la lo.length lcap) lo R2.h := (by rw [hR2]; exact hH.rd); replace hX : RPoints _ _ R2.h := (by rw [hR2]; exact RPoints.up _ _ hX hH.ro); replace hP : RLists (.slice (some ⟨bl, 0, none⟩) Ql.length Ql.length) ls R2.h := (by rw [hR2]; exact RLists.up _ _ hP hH.ro); replace hb2 := hH.ro _ _ hb2; replace hb2 : R2.h b9 = some (.cells [.int .i64 c.shards, .int .i64 c.slots, .int .i64 c.workers, .int .i64 c.width, .int .u64 c.unit, .slice (some ⟨bl, 0, none⟩) Ql.length Ql.length].toArray 28 (0, 0)) := (by rw [hR2]; exact hb2); replace hH : Go.Lt.Holds R2 [] w := (by rw [hR2]; exact holds_start w); obtain ⟨S, hSL, hSr, hSp⟩ := hX; obtain ⟨vs, hvs, hrd, hin⟩ := hP; have hcall := (playL_call _ _ _ _ (playL_of hme).2); have hsrt := left_srt hlo; have hQl : Ql.length = vs.length := (by obtain ⟨_, _, h, -⟩ := hrd.len; exact (Value.slice.inj h).2.1)
   refine vA (lv rfl) rfl rfl ?_
   refine g_seq ?_
   refine g_seq ?_
   subst hSL
   rw [List.length_map]; rw [List.length_map] at hlen hlol
   refine g_region (l := [0]) rfl ?_
   refine vA (lv rfl) rfl rfl ?_
   refine g_block ?_
   refine g_loop (fun mm e w => ∃ (i : Nat) (e0 : Env), 1 ≤ i ∧ i ≤ lo.length + 1 ∧ mm = lo.length + 1 - i ∧ e = J e0 [(9, .pointer (some ⟨b9, 0, none⟩)), (10, .slice xa S.length xcap), (11, .slice la lo.length lcap), (12, .int .i64 i)] ∧ Go.Lt.Holds R2 [] w) lo.length ⟨1, _, by omega, by omega, by omega, (J_self (has_s rfl (has_s rfl (has_s rfl (has_s rfl has_0))))), (hH.sel (by repeat' (first | exact Sel.refl _)))⟩ ?_
   rintro mm _ w ⟨i, e1, hi1, hi, hm, rfl, hH⟩ hback
   refine g_seq ?_
   refine g_seq ?_
   refine g_region (l := [0, 1, 2, 3]) rfl ?_
   refine vM (lv rfl) rfl rfl ?_
   refine vM (lv rfl) rfl rfl ?_
   refine o_v (lv rfl) rfl (r_len el_48 rfl) ?_
   refine o_v (lv rfl) rfl (r_lt rfl rfl) ?_
   refine g_if rfl (fun c1 => ?_) (fun c1 => ?_)
   ·have hil : i < lo.length := by omega
    obtain ⟨q, hq⟩ : ∃ q, lo[i]? = some q := ⟨_, List.getElem?_eq_getElem hil⟩
    obtain ⟨p, hp⟩ : ∃ p, lo[i - 1]? = some p := ⟨_, List.getElem?_eq_getElem (by omega)⟩
    have hpq := srt_at hsrt hi1 hp hq
    obtain ⟨bq, oq, csq, Tq, hqe, hbq, hcq0⟩ := Rd.el hkP hLo hq
    subst hqe
    obtain ⟨_, _, csm, Tm, hme2, hbm, hcm0⟩ := Rd.el hkP hLo hp
    cases hme2
    have hcA := hcq0 0 _ rfl
    have hcB := hcm0 0 _ rfl
    refine g_skip ?_
    refine g_seq ?_
    refine g_block ?_
    refine g_seq ?_
    refine rD mixed hH fun w hH => ?_
    refine pM 0 (lv rfl) rfl rfl ?_
    refine pM 1 (lv rfl) rfl rfl ?_
    refine d_p (i := 2) (lv rfl) rfl (fun w => (r_ia el_48 rfl rfl ?_ ?_)) (by kernel_rfl) ?_; omega; omega
    refine pF 3 (lv rfl) rfl fa_54_0 rfl ?_
    refine d_ld (i := 4) [] (lv rfl) rfl lk_3 rfl (by kernel_rfl) ⟨_, _, _, hH.old hbq, _, hcA, ?_⟩
    refine pM 5 (lv rfl) rfl rfl ?_
    refine pM 6 (lv rfl) rfl rfl ?_
    refine d_p (i := 7) (lv rfl) rfl (fun w => (r_subI rfl rfl (by omega))) (by kernel_rfl) ?_
    rw [show ((i : Int) - 1) = ((i - 1 : Nat) : Int) from by omega]
    refine d_p (i := 8) (lv rfl) rfl (fun w => (r_ia el_48 rfl rfl ?_ ?_)) (by kernel_rfl) ?_; omega; omega
    refine pF 9 (lv rfl) rfl fa_54_0 rfl ?_
    refine d_ld (i := 10) [] (lv rfl) rfl lk_3 rfl (by kernel_rfl) ⟨_, _, _, hH.old hbm, _, hcB, ?_⟩
    refine d_p (i := 11) (lv rfl) rfl (fun w => (r_lt rfl rfl)) (by kernel_rfl) ?_
    refine d_end (by kernel_rfl) ?_
    refine g_if rfl (fun c2 => ?_) (fun c2 => ?_)
    ·exact absurd c2 (by omega)
    ·refine g_skip ?_
     refine g_inBlock ?_
     refine g_region (l := [0, 1, 2]) rfl ?_
     refine vM (lv rfl) rfl rfl ?_
     refine o_v (lv rfl) rfl (r_addI rfl rfl ?_) ?_; omega
     refine vA (lv rfl) rfl rfl ?_
     exact hback _ _ _ ⟨i + 1, _, by omega, by omega, rfl, (J_self (has_s rfl (has_s rfl (has_s rfl (has_s rfl has_0))))), (hH.sel (by repeat' (first | exact Sel.refl _)))⟩ (by omega)
   ·refine g_exit rfl ?_
    refine g_seq ?_
    refine g_seq ?_
    refine g_region (l := [0]) rfl ?_
    refine vA (lv rfl) rfl rfl ?_
    refine g_block ?_
    refine g_loop (fun mm e w => ∃ (i : Nat) (e0 : Env), i ≤ 3 ∧ mm = 3 - i ∧ e = J e0 [(9, .pointer (some ⟨b9, 0, none⟩)), (10, .slice xa S.length xcap), (11, .slice la lo.length lcap), (13, .int .i64 i)] ∧ Go.Lt.Holds R2 [] w) 3 ⟨0, _, by omega, rfl, (J_self (has_s rfl (has_s rfl (has_s rfl (has_s rfl has_0))))), (hH.sel (by repeat' (first | exact Sel.refl _)))⟩ ?_
    clear hback
    rintro mm _ w ⟨i, e1, hi, hm, rfl, hH⟩ hback
    refine g_seq ?_
    refine g_seq ?_
    refine g_region (l := [0, 1]) rfl ?_
    refine vM (lv rfl) rfl rfl ?_
    refine o_v (lv rfl) rfl (r_lt rfl rfl) ?_
    refine g_if rfl (fun c3 => ?_) (fun c3 => ?_)
    ·refine g_skip ?_
     refine g_seq ?_
     refine g_block ?_
     refine g_seq ?_
     refine g_region (l := [0, 1]) rfl ?_
     refine vA (lv rfl) rfl rfl ?_
     refine vA (lv rfl) rfl rfl ?_
     refine g_seq ?_
     refine g_seq ?_
     refine g_region (l := [0]) rfl ?_
     refine vA (lv rfl) rfl rfl ?_
     refine g_block ?_
     replace hH := Holds.vnil 54 3 encP (Holds.vnil 54 3 encP hH)
     refine g_loop (fun mm e w => ∃ (k : Nat) (e0 : Env) (ins outs : List Packet) (ia oa : Option Addr) (ic oc : Nat), k ≤ S.length ∧ mm = S.length - k ∧ (ins = ((S.map Prod.fst).take k).flatMap (inAt ls i) ∧ outs = ((S.map Prod.fst).take k).flatMap (fun x => flt i x.ret.packets)) ∧ (ins.length ≤ k ∧ outs.length ≤ 16 * k) ∧ e = J e0 [(9, .pointer (some ⟨b9, 0, none⟩)), (10, .slice xa S.length xcap), (11, .slice la lo.length lcap), (13, .int .i64 i), (14, .slice ia ins.length ic), (15, .slice oa outs.length oc), (16, .int .i64 k)] ∧ Go.Lt.Holds R2 [Vec 54 3 encP (.slice ia ins.length ic) ins, Vec 54 3 encP (.slice oa outs.length oc) outs] w) S.length ⟨0, _, [], [], none, none, 0, 0, by omega, by omega, ⟨by simp, by simp⟩, ⟨by simp, by simp⟩, (J_self (has_s rfl (has_s rfl (has_s rfl (has_s rfl (has_s rfl (has_s rfl (has_s rfl has_0)))))))), (hH.sel (by repeat' (first | exact Sel.refl _)))⟩ ?_
     rintro mm2 _ w ⟨k, e2, ins, outs, ia, oa, ic, oc, hk, hm2, ⟨hins, houts⟩, ⟨hil, hol⟩, rfl, hH⟩ hback2
     refine g_seq ?_
     refine g_seq ?_
     refine g_region (l := [0, 1, 2, 3]) rfl ?_
     refine vM (lv rfl) rfl rfl ?_
     refine vM (lv rfl) rfl rfl ?_
     refine o_v (lv rfl) rfl (r_len el_30 rfl) ?_
     refine o_v (lv rfl) rfl (r_lt rfl rfl) ?_
     refine g_if rfl (fun c4 => ?_) (fun c4 => ?_)
     ·have hkl : k < S.length := by omega
      obtain ⟨⟨x, xv⟩, hq⟩ : ∃ q, S[k]? = some q := ⟨_, List.getElem?_eq_getElem hkl⟩
      have hx : (S.map Prod.fst)[k]? = some x := by rw [List.getElem?_map, hq]; rfl
      have hxm := List.mem_of_getElem? hx
      obtain ⟨u, pl, l', hu, hpl2, hlu, hlp⟩ := call_at hbc (hcall x hxm)
      have hxp := hpk x hxm
      have hul : u < ls.length := (List.getElem?_eq_some_iff.1 hlu).1
      have hpl3 : pl < l'.length := (List.getElem?_eq_some_iff.1 hlp).1
      have hl53 := (hlb l' (List.mem_of_getElem? hlu)).1
      have hdb := hbc l' (List.mem_of_getElem? hlu) _ (List.mem_of_getElem? hlp)
      obtain ⟨v', hv'⟩ : ∃ v', vs[u]? = some v' := ⟨_, List.getElem?_eq_getElem (by omega)⟩
      have hrl := hin _ _ _ hv' hlu
      obtain ⟨va, vcap, rfl, -⟩ := hrl.len
      have hqr := hSp _ (List.mem_of_getElem? hq)
      dsimp only at hqr
      obtain ⟨pa, pcap, rfl, -⟩ := hqr.len
      obtain ⟨bx, ox, csx, Tx, hxe, hbx, hcx0⟩ := Rd.el hkPt hSr hq
      subst hxe
      have hcx1 := hcx0 1 _ rfl
      have hcx2 := hcx0 2 _ rfl
      have hcx3 := hcx0 3 _ rfl
      have hcx4 := hcx0 4 _ rfl
      dsimp only at hcx1 hcx2 hcx3 hcx4
      rw [hu] at hcx1
      rw [hpl2] at hcx2
      obtain ⟨_, _, csl, Tl, hle, hbl2, hcl0⟩ := Rd.el hkV hrd hv'
      cases hle
      have hcl := hcl0 0 _ rfl
      obtain ⟨bc, oc2, csc, Tc, hce, hbc2, hcc0⟩ := Rd.el hkC hrl hlp
      subst hce
      have hcc := dt_of hcc0
      refine g_skip ?_
      refine g_seq ?_
      refine g_block ?_
      refine g_seq ?_
      refine rD mixed hH fun w hH => ?_
      refine pF 0 (lv rfl) rfl fa_28_1 rfl ?_
      refine d_ld (i := 1) [17] (lv rfl) rfl lk_25 rfl (by kernel_rfl) ⟨_, _, _, hH.old hb2, _, rfl, ?_⟩
      refine pM 2 (lv rfl) rfl rfl ?_
      refine pM 3 (lv rfl) rfl rfl ?_
      refine d_p (i := 4) (lv rfl) rfl (fun w => (r_ia el_30 rfl rfl ?_ ?_)) (by kernel_rfl) ?_; omega; omega
      refine pF 5 (lv rfl) rfl fa_59_1 rfl ?_
      refine d_ld (i := 6) [17] (lv rfl) rfl lk_3 rfl (by kernel_rfl) ⟨_, _, _, hH.old hbx, _, hcx1, ?_⟩
      refine d_p (i := 7) (lv rfl) rfl (fun w => (r_ia el_25 rfl rfl ?_ ?_)) (by kernel_rfl) ?_; omega; omega
      refine d_ld (i := 8) [17] (lv rfl) rfl lk_39 rfl (by kernel_rfl) ⟨_, _, _, hH.old hbl2, _, hcl, ?_⟩
      refine pM 9 (lv rfl) rfl rfl ?_
      refine pM 10 (lv rfl) rfl rfl ?_
      refine d_p (i := 11) (lv rfl) rfl (fun w => (r_ia el_30 rfl rfl ?_ ?_)) (by kernel_rfl) ?_; omega; omega
      refine pF 12 (lv rfl) rfl fa_59_2 rfl ?_
      refine d_ld (i := 13) [17] (lv rfl) rfl lk_3 rfl (by kernel_rfl) ⟨_, _, _, hH.old hbx, _, hcx2, ?_⟩
      refine d_p (i := 14) (lv rfl) rfl (fun w => (r_ia el_39 rfl rfl ?_ ?_)) (by kernel_rfl) ?_; omega; omega
      refine d_ldN (i := 15) [17] (lv rfl) rfl lk_46 rfl (by kernel_rfl) ⟨_, _, _, hH.old hbc2, _, hcc, rfl, ?_⟩
      refine d_l (j := 16) (by kernel_rfl) ?_
      refine o_al (lv rfl) rfl ze_46 hH ?_
      intro b17 w hH
      refine ⟨(keeps_cons (fun _ => (by exact hH.old ‹_›)) (keeps_cons (fun _ => (by exact hH.old ‹_›)) (keeps_cons (fun _ => (by exact hH.old ‹_›)) (keeps_cons (fun _ => (by exact hH.old ‹_›)) (keeps_cons (fun _ => (by exact hH.old ‹_›)) trivial))))), ?_⟩
      refine d_l (j := 17) (by kernel_rfl) ?_
      refine o_st (lv rfl) rfl lk_46 rfl (vs := [_, _, _, _]) rfl rfl (by exact hH) rfl rfl (by simp) rfl ?_
      intro w hH; dsimp only [setL, List.set] at hH
      refine ⟨(keeps_in rfl (keeps_in rfl (keeps_in rfl (keeps_in rfl (keeps_in rfl trivial))))), ?_⟩
      refine d_end (by kernel_rfl) ?_
      refine g_seq ?_
      refine g_seq ?_
      refine g_join (fun e w => ∃ (e0 : Env), e = J e0 [(9, .pointer (some ⟨b9, 0, none⟩)), (10, .slice (some ⟨bx, ox, none⟩) S.length xcap), (11, .slice la lo.length lcap), (13, .int .i64 i), (14, .slice ia ins.length ic), (15, .slice oa outs.length oc), (16, .int .i64 k), (17, .pointer (some ⟨b17, 0, none⟩)), (99, .bool (decide ((callOf ls x).1.op = 3 ∧ (callOf ls x).1.flow = i ∧ x.ret.e = 0)))] ∧ Go.Lt.Holds R2 [cel b17 [.int .i64 (callOf ls x).1.op, .int .i64 (callOf ls x).1.flow, .int .i64 (callOf ls x).1.a, .int .i64 (callOf ls x).1.b] 46, Vec 54 3 encP (.slice ia ins.length ic) ins, Vec 54 3 encP (.slice oa outs.length oc) outs] w) (fun kk hkk => ?_) ?_
      ·refine g_region (l := [0, 1, 2, 3, 4, 5, 6, 7, 8, 9, 10, 11, 12, 13, 14, 15, 16, 17]) rfl ?_
       refine o_v (lv rfl) rfl (r_fa fa_46_0 rfl) ?_
       refine o_ld (lv rfl) rfl lk_3 rfl ⟨_, _, _, hH.c0, _, rfl, ?_⟩
       refine o_v (lv rfl) rfl (r_eq rfl rfl) ?_
       refine vM (lv rfl) rfl rfl ?_
       refine s_ops (fun g19_3 => ?_) (fun g19_3 => ?_)
       ·refine o_v (lvg rfl rfl rfl) rfl (r_fa fa_46_1 rfl) ?_
        refine o_ld (lvg rfl rfl rfl) rfl lk_3 rfl ⟨_, _, _, hH.c0, _, rfl, ?_⟩
        refine vM (lvg rfl rfl rfl) rfl rfl ?_
        refine o_v (lvg rfl rfl rfl) rfl (r_eq rfl rfl) ?_
        refine o_v (lv rfl) rfl (r_pickT rfl rfl) ?_
        refine vM (lv rfl) rfl rfl ?_
        refine s_ops (fun g19_9 => ?_) (fun g19_9 => ?_)
        ·refine vM (lvg rfl rfl rfl) rfl rfl ?_
         refine vM (lvg rfl rfl rfl) rfl rfl ?_
         refine o_v (lvg rfl rfl rfl) rfl (r_ia el_30 rfl rfl ?_ ?_) ?_; omega; omega
         refine o_v (lvg rfl rfl rfl) rfl (r_fa fa_59_3 rfl) ?_
         refine o_v (lvg rfl rfl rfl) rfl (r_fa fa_57_0 rfl) ?_
         refine o_ld (lvg rfl rfl rfl) rfl lk_55 rfl ⟨_, _, _, hH.old hbx, _, hcx3, ?_⟩
         refine o_v (lvg rfl rfl rfl) rfl (r_eq rfl rfl) ?_
         refine o_v (lv rfl) rfl (r_pickT rfl rfl) ?_
         (have hg : (callOf ls x).1.flow = i := g19_9
          have hde : decide ((callOf ls x).1.op = 3 ∧ (callOf ls x).1.flow = i ∧ x.ret.e = 0) = decide (x.ret.e = 0) := by rw [decide_eq_decide]; exact ⟨fun h => h.2.2, fun h => ⟨g19_3, hg, h⟩⟩
          exact hkk _ _ ⟨_, by rw [hde]; exact (J_self (has_s rfl (has_s rfl (has_s rfl (has_s rfl (has_s rfl (has_s rfl (has_s rfl (has_s rfl (has_s rfl has_0)))))))))), (hH.sel (by repeat' (first | exact Sel.refl _)))⟩)
        ·refine o_no rfl rfl rfl rfl ?_
         refine o_no rfl rfl rfl rfl ?_
         refine o_no rfl rfl rfl rfl ?_
         refine o_no rfl rfl rfl rfl ?_
         refine o_no rfl rfl rfl rfl ?_
         refine o_no rfl rfl rfl rfl ?_
         refine o_no rfl rfl rfl rfl ?_
         refine o_v (lv rfl) rfl (r_pickF rfl rfl) ?_
         (have hg : ¬ (callOf ls x).1.flow = i := g19_9
          have hde : decide ((callOf ls x).1.op = 3 ∧ (callOf ls x).1.flow = i ∧ x.ret.e = 0) = false := decide_eq_false (fun h => hg h.2.1)
          exact hkk _ _ ⟨_, by rw [hde]; exact (J_self (has_s rfl (has_s rfl (has_s rfl (has_s rfl (has_s rfl (has_s rfl (has_s rfl (has_s rfl (has_s rfl has_0)))))))))), (hH.sel (by repeat' (first | exact Sel.refl _)))⟩)
       ·refine o_no rfl rfl rfl rfl ?_
        refine o_no rfl rfl rfl rfl ?_
        refine o_no rfl rfl rfl rfl ?_
        refine o_no rfl rfl rfl rfl ?_
        refine o_v (lv rfl) rfl (r_pickF rfl rfl) ?_
        refine vM (lv rfl) rfl rfl ?_
        refine o_no rfl rfl rfl rfl ?_
        refine o_no rfl rfl rfl rfl ?_
        refine o_no rfl rfl rfl rfl ?_
        refine o_no rfl rfl rfl rfl ?_
        refine o_no rfl rfl rfl rfl ?_
        refine o_no rfl rfl rfl rfl ?_
        refine o_no rfl rfl rfl rfl ?_
        refine o_v (lv rfl) rfl (r_pickF rfl rfl) ?_
        (have hg : ¬ (callOf ls x).1.op = 3 := g19_3
         have hde : decide ((callOf ls x).1.op = 3 ∧ (callOf ls x).1.flow = i ∧ x.ret.e = 0) = false := decide_eq_false (fun h => hg h.1)
         exact hkk _ _ ⟨_, by rw [hde]; exact (J_self (has_s rfl (has_s rfl (has_s rfl (has_s rfl (has_s rfl (has_s rfl (has_s rfl (has_s rfl (has_s rfl has_0)))))))))), (hH.sel (by repeat' (first | exact Sel.refl _)))⟩)
      ·rintro _ w ⟨e3, rfl, hH⟩
       refine g_join (fun e w => ∃ (e0 : Env) (ia : Option Addr) (ic : Nat) (ins2 : List Packet), ins2 = ins ++ inAt ls i x ∧ ins2.length ≤ k + 1 ∧ e = J e0 [(9, .pointer (some ⟨b9, 0, none⟩)), (10, .slice (some ⟨bx, ox, none⟩) S.length xcap), (11, .slice la lo.length lcap), (13, .int .i64 i), (14, .slice ia ins2.length ic), (15, .slice oa outs.length oc), (16, .int .i64 k)] ∧ Go.Lt.Holds R2 [Vec 54 3 encP (.slice ia ins2.length ic) ins2, Vec 54 3 encP (.slice oa outs.length oc) outs] w) (fun kk hkk => ?_) ?_
       ·refine g_if rfl (fun c5 => ?_) (fun c5 => ?_)
        ·refine g_region (l := [0, 1, 2, 3, 4, 5, 6, 7, 8, 9]) rfl ?_
         refine vM (lv rfl) rfl rfl ?_
         refine vM (lv rfl) rfl rfl ?_
         refine o_v (lv rfl) rfl (r_fa fa_46_2 rfl) ?_
         refine o_ld (lv rfl) rfl lk_3 rfl ⟨_, _, _, hH.c0, _, rfl, ?_⟩
         refine o_v (lv rfl) rfl (r_fa fa_46_3 rfl) ?_
         refine o_ld (lv rfl) rfl lk_3 rfl ⟨_, _, _, hH.c0, _, rfl, ?_⟩
         refine o_v (lv rfl) rfl (r_bld (ps := [_, _, _]) (cs := [_, _, _]) pl_54 rfl rfl) ?_
         refine o_bs (lv rfl) rfl el_48 ze_54 rfl rfl rfl (ps := [_]) rfl rfl rfl (cs := [_, _, _]) rfl hH ?_
         intro b107 w hH
         refine o_app (enc := encP) (lv rfl) rfl el_48 ze_54 rfl (fun _ => rfl) (fun _ => rfl) rfl rfl (by exact hH.p2) (rd_of_cel [(⟨i, (callOf ls x).1.a, (callOf ls x).1.b⟩ : Packet)] (by exact hH.c0) rfl) (by simp; omega) (by simp; omega) ?_
         intro v108 w hH; obtain ⟨a108, k108, rfl, -⟩ := hH.rd.len
         refine vA (lv rfl) rfl rfl ?_
         (have hg : (callOf ls x).1.op = 3 ∧ (callOf ls x).1.flow = i ∧ x.ret.e = 0 := c5
          have hat : ins ++ inAt ls i x = ins ++ [⟨i, (callOf ls x).1.a, (callOf ls x).1.b⟩] := by unfold inAt; rw [if_pos hg]
          exact hkk _ _ ⟨_, _, _, _, hat.symm, by simp; omega, (J_self (has_s rfl (has_s rfl (has_s rfl (has_s rfl (has_s rfl (has_s rfl (has_s rfl has_0)))))))), (hH.sel (by repeat' (first | exact Sel.refl _ | refine Sel.q0 ?_ | refine Sel.q2 ?_ | refine Sel.skip _ ?_)))⟩)
        ·refine g_skip ?_
         (have hg : ¬ ((callOf ls x).1.op = 3 ∧ (callOf ls x).1.flow = i ∧ x.ret.e = 0) := c5
          have hat : ins ++ inAt ls i x = ins := by unfold inAt; rw [if_neg hg, List.append_nil]
          exact hkk _ _ ⟨_, _, _, _, hat.symm, by omega, (J_self (has_s rfl (has_s rfl (has_s rfl (has_s rfl (has_s rfl (has_s rfl (has_s rfl has_0)))))))), (hH.sel (by repeat' (first | exact Sel.refl _ | refine Sel.q1 ?_ | refine Sel.skip _ ?_)))⟩)
       ·rintro _ w ⟨e4, ia, ic, ins2, hins2, hil2, rfl, hH⟩
        refine g_seq ?_
        refine g_region (l := [0]) rfl ?_
        refine vA (lv rfl) rfl rfl ?_
        refine g_block ?_
        refine g_loop (fun mm e w => ∃ (j : Nat) (e0 : Env) (outs2 : List Packet) (oa : Option Addr) (oc : Nat), j ≤ x.ret.packets.length ∧ mm = x.ret.packets.length - j ∧ outs2 = outs ++ flt i (x.ret.packets.take j) ∧ outs2.length ≤ 16 * k + j ∧ e = J e0 [(9, .pointer (some ⟨b9, 0, none⟩)), (10, .slice (some ⟨bx, ox, none⟩) S.length xcap), (11, .slice la lo.length lcap), (13, .int .i64 i), (14, .slice ia ins2.length ic), (15, .slice oa outs2.length oc), (16, .int .i64 k), (18, .int .i64 j)] ∧ Go.Lt.Holds R2 [Vec 54 3 encP (.slice ia ins2.length ic) ins2, Vec 54 3 encP (.slice oa outs2.length oc) outs2] w) x.ret.packets.length ⟨0, _, outs, oa, oc, by omega, by omega, by simp [flt], by omega, (J_self (has_s rfl (has_s rfl (has_s rfl (has_s rfl (has_s rfl (has_s rfl (has_s rfl (has_s rfl has_0))))))))), (hH.sel (by repeat' (first | exact Sel.refl _)))⟩ ?_
        rintro mm3 _ w ⟨j, e5, outs2, oa, oc, hj, hm3, houts2, hol2, rfl, hH⟩ hback3
        refine g_seq ?_
        refine g_seq ?_
        refine g_region (l := [0, 1, 2, 3, 4, 5, 6, 7, 8]) rfl ?_
        refine vM (lv rfl) rfl rfl ?_
        refine vM (lv rfl) rfl rfl ?_
        refine vM (lv rfl) rfl rfl ?_
        refine o_v (lv rfl) rfl (r_ia el_30 rfl rfl ?_ ?_) ?_; omega; omega
        refine o_v (lv rfl) rfl (r_fa fa_59_3 rfl) ?_
        refine o_v (lv rfl) rfl (r_fa fa_57_1 rfl) ?_
        refine o_ld (lv rfl) rfl lk_48 rfl ⟨_, _, _, hH.old hbx, _, hcx4, ?_⟩
        refine o_v (lv rfl) rfl (r_len el_48 rfl) ?_
        refine o_v (lv rfl) rfl (r_lt rfl rfl) ?_
        refine g_if rfl (fun c6 => ?_) (fun c6 => ?_)
        ·have hjl : j < x.ret.packets.length := by omega
         obtain ⟨p, hp⟩ : ∃ p, x.ret.packets[j]? = some p := ⟨_, List.getElem?_eq_getElem hjl⟩
         obtain ⟨bp, op_, csp, Tp, hpe, hbp, hcp0⟩ := Rd.el hkP hqr hp
         subst hpe
         have hcp := hcp0 0 _ rfl
         have hcpN := dt_of hcp0
         have htk := take_S hp
         refine g_skip ?_
         refine g_seq ?_
         refine g_block ?_
         refine g_seq ?_
         refine g_region (l := [0, 1, 2, 3, 4, 5, 6, 7, 8, 9, 10, 11]) rfl ?_
         refine vM (lv rfl) rfl rfl ?_
         refine vM (lv rfl) rfl rfl ?_
         refine o_v (lv rfl) rfl (r_ia el_30 rfl rfl ?_ ?_) ?_; omega; omega
         refine o_v (lv rfl) rfl (r_fa fa_59_3 rfl) ?_
         refine o_v (lv rfl) rfl (r_fa fa_57_1 rfl) ?_
         refine o_ld (lv rfl) rfl lk_48 rfl ⟨_, _, _, hH.old hbx, _, hcx4, ?_⟩
         refine vM (lv rfl) rfl rfl ?_
         refine o_v (lv rfl) rfl (r_ia el_48 rfl rfl ?_ ?_) ?_; omega; omega
         refine o_v (lv rfl) rfl (r_fa fa_54_0 rfl) ?_
         refine o_ld (lv rfl) rfl lk_3 rfl ⟨_, _, _, hH.old hbp, _, hcp, ?_⟩
         refine vM (lv rfl) rfl rfl ?_
         refine o_v (lv rfl) rfl (r_eq rfl rfl) ?_
         refine g_if rfl (fun c7 => ?_) (fun c7 => ?_)
         ·refine g_region (l := [0, 1, 2, 3, 4, 5, 6, 7, 8, 9, 10, 11, 12]) rfl ?_
          refine vM (lv rfl) rfl rfl ?_
          refine vM (lv rfl) rfl rfl ?_
          refine vM (lv rfl) rfl rfl ?_
          refine o_v (lv rfl) rfl (r_ia el_30 rfl rfl ?_ ?_) ?_; omega; omega
          refine o_v (lv rfl) rfl (r_fa fa_59_3 rfl) ?_
          refine o_v (lv rfl) rfl (r_fa fa_57_1 rfl) ?_
          refine o_ld (lv rfl) rfl lk_48 rfl ⟨_, _, _, hH.old hbx, _, hcx4, ?_⟩
          refine vM (lv rfl) rfl rfl ?_
          refine o_v (lv rfl) rfl (r_ia el_48 rfl rfl ?_ ?_) ?_; omega; omega
          refine o_ldN (lv rfl) rfl lk_54 rfl ⟨_, _, _, hH.old hbp, _, hcpN, rfl, ?_⟩
          refine o_bs (lv rfl) rfl el_48 ze_54 rfl rfl rfl (ps := [_]) rfl rfl rfl (cs := [_, _, _]) rfl hH ?_
          intro b142 w hH
          refine o_app (enc := encP) (lv rfl) rfl el_48 ze_54 rfl (fun _ => rfl) (fun _ => rfl) rfl rfl (by exact hH.p2) (rd_of_cel [p] (by exact hH.c0) rfl) (by simp; omega) (by simp; omega) ?_
          intro v143 w hH; obtain ⟨a143, k143, rfl, -⟩ := hH.rd.len
          refine vA (lv rfl) rfl rfl ?_
          refine g_inBlock ?_
          refine g_region (l := [0, 1, 2]) rfl ?_
          refine vM (lv rfl) rfl rfl ?_
          refine o_v (lv rfl) rfl (r_addI rfl rfl ?_) ?_; omega
          refine vA (lv rfl) rfl rfl ?_
          (have hg : p.flow = i := c7
           have e1 : outs2 ++ [p] = outs ++ flt i (x.ret.packets.take (j + 1)) := by rw [htk, flt_append, flt_one, if_pos hg, houts2, List.append_assoc]
           exact hback3 _ _ _ ⟨j + 1, _, _, _, _, by omega, rfl, e1, by simp; omega, (J_self (has_s rfl (has_s rfl (has_s rfl (has_s rfl (has_s rfl (has_s rfl (has_s rfl (has_s rfl has_0))))))))), (hH.sel (by repeat' (first | exact Sel.refl _ | refine Sel.q0 ?_ | refine Sel.q2 ?_ | refine Sel.skip _ ?_)))⟩ (by omega))
         ·refine g_skip ?_
          refine g_inBlock ?_
          refine g_region (l := [0, 1, 2]) rfl ?_
          refine vM (lv rfl) rfl rfl ?_
          refine o_v (lv rfl) rfl (r_addI rfl rfl ?_) ?_; omega
          refine vA (lv rfl) rfl rfl ?_
          (have hg : ¬ p.flow = i := c7
           have e1 : outs2 = outs ++ flt i (x.ret.packets.take (j + 1)) := by rw [htk, flt_append, flt_one, if_neg hg, houts2, List.append_nil]
           exact hback3 _ _ _ ⟨j + 1, _, _, _, _, by omega, rfl, e1, by omega, (J_self (has_s rfl (has_s rfl (has_s rfl (has_s rfl (has_s rfl (has_s rfl (has_s rfl (has_s rfl has_0))))))))), (hH.sel (by repeat' (first | exact Sel.refl _)))⟩ (by omega))
        ·refine g_exit rfl ?_
         refine g_inBlock ?_
         refine g_region (l := [0, 1, 2]) rfl ?_
         refine vM (lv rfl) rfl rfl ?_
         refine o_v (lv rfl) rfl (r_addI rfl rfl ?_) ?_; omega
         refine vA (lv rfl) rfl rfl ?_
         have hjn : j = x.ret.packets.length := by omega
         have htk := take_S hx
         have e1 : ins2 = ((S.map Prod.fst).take (k + 1)).flatMap (inAt ls i) := by rw [htk, List.flatMap_append, ← hins, hins2]; simp
         have e2 : outs2 = ((S.map Prod.fst).take (k + 1)).flatMap (fun x => flt i x.ret.packets) := by rw [htk, List.flatMap_append, ← houts, houts2, hjn, List.take_length]; simp
         exact hback2 _ _ _ ⟨k + 1, _, _, _, _, _, _, _, by omega, rfl, ⟨e1, e2⟩, ⟨by omega, by omega⟩, (J_self (has_s rfl (has_s rfl (has_s rfl (has_s rfl (has_s rfl (has_s rfl (has_s rfl has_0)))))))), (hH.sel (by repeat' (first | exact Sel.refl _)))⟩ (by omega)
     ·refine g_exit rfl ?_
      refine g_seq ?_
      refine g_seq ?_
      refine g_region (l := [0]) rfl ?_
      refine vA (lv rfl) rfl rfl ?_
      refine g_block ?_
      refine g_loop (fun mm e w => ∃ (j : Nat) (e0 : Env) (outs2 : List Packet) (oa : Option Addr) (oc : Nat), j ≤ lo.length ∧ mm = lo.length - j ∧ outs2 = outs ++ flt i (lo.take j) ∧ outs2.length ≤ 16 * k + j ∧ e = J e0 [(9, .pointer (some ⟨b9, 0, none⟩)), (10, .slice xa S.length xcap), (11, .slice la lo.length lcap), (13, .int .i64 i), (14, .slice ia ins.length ic), (15, .slice oa outs2.length oc), (19, .int .i64 j)] ∧ Go.Lt.Holds R2 [Vec 54 3 encP (.slice ia ins.length ic) ins, Vec 54 3 encP (.slice oa outs2.length oc) outs2] w) lo.length ⟨0, _, outs, oa, oc, by omega, by omega, by simp [flt], by omega, (J_self (has_s rfl (has_s rfl (has_s rfl (has_s rfl (has_s rfl (has_s rfl (has_s rfl has_0)))))))), (hH.sel (by repeat' (first | exact Sel.refl _)))⟩ ?_
      rintro mm4 _ w ⟨j, e5, outs2, oa, oc, hj, hm4, houts2, hol2, rfl, hH⟩ hback4
      refine g_seq ?_
      refine g_seq ?_
      refine g_region (l := [0, 1, 2, 3]) rfl ?_
      refine vM (lv rfl) rfl rfl ?_
      refine vM (lv rfl) rfl rfl ?_
      refine o_v (lv rfl) rfl (r_len el_48 rfl) ?_
      refine o_v (lv rfl) rfl (r_lt rfl rfl) ?_
      refine g_if rfl (fun c8 => ?_) (fun c8 => ?_)
      ·have hjl : j < lo.length := by omega
       obtain ⟨p, hp⟩ : ∃ p, lo[j]? = some p := ⟨_, List.getElem?_eq_getElem hjl⟩
       obtain ⟨bq, oq, csq, Tq, hqe, hbq, hcq0⟩ := Rd.el hkP hLo hp
       subst hqe
       have hcA := hcq0 0 _ rfl
       have hcAN := dt_of hcq0
       have htk := take_S hp
       refine g_skip ?_
       refine g_seq ?_
       refine g_block ?_
       refine g_seq ?_
       refine g_region (l := [0, 1, 2, 3, 4, 5, 6]) rfl ?_
       refine vM (lv rfl) rfl rfl ?_
       refine vM (lv rfl) rfl rfl ?_
       refine o_v (lv rfl) rfl (r_ia el_48 rfl rfl ?_ ?_) ?_; omega; omega
       refine o_v (lv rfl) rfl (r_fa fa_54_0 rfl) ?_
       refine o_ld (lv rfl) rfl lk_3 rfl ⟨_, _, _, hH.old hbq, _, hcA, ?_⟩
       refine vM (lv rfl) rfl rfl ?_
       refine o_v (lv rfl) rfl (r_eq rfl rfl) ?_
       refine g_if rfl (fun c9 => ?_) (fun c9 => ?_)
       ·refine g_region (l := [0, 1, 2, 3, 4, 5, 6, 7]) rfl ?_
        refine vM (lv rfl) rfl rfl ?_
        refine vM (lv rfl) rfl rfl ?_
        refine vM (lv rfl) rfl rfl ?_
        refine o_v (lv rfl) rfl (r_ia el_48 rfl rfl ?_ ?_) ?_; omega; omega
        refine o_ldN (lv rfl) rfl lk_54 rfl ⟨_, _, _, hH.old hbq, _, hcAN, rfl, ?_⟩
        refine o_bs (lv rfl) rfl el_48 ze_54 rfl rfl rfl (ps := [_]) rfl rfl rfl (cs := [_, _, _]) rfl hH ?_
        intro b162 w hH
        refine o_app (enc := encP) (lv rfl) rfl el_48 ze_54 rfl (fun _ => rfl) (fun _ => rfl) rfl rfl (by exact hH.p2) (rd_of_cel [p] (by exact hH.c0) rfl) (by simp; omega) (by simp; omega) ?_
        intro v163 w hH; obtain ⟨a163, k163, rfl, -⟩ := hH.rd.len
        refine vA (lv rfl) rfl rfl ?_
        refine g_inBlock ?_
        refine g_region (l := [0, 1, 2]) rfl ?_
        refine vM (lv rfl) rfl rfl ?_
        refine o_v (lv rfl) rfl (r_addI rfl rfl ?_) ?_; omega
        refine vA (lv rfl) rfl rfl ?_
        (have hg : p.flow = i := c9
         have e1 : outs2 ++ [p] = outs ++ flt i (lo.take (j + 1)) := by rw [htk, flt_append, flt_one, if_pos hg, houts2, List.append_assoc]
         exact hback4 _ _ _ ⟨j + 1, _, _, _, _, by omega, rfl, e1, by simp; omega, (J_self (has_s rfl (has_s rfl (has_s rfl (has_s rfl (has_s rfl (has_s rfl (has_s rfl has_0)))))))), (hH.sel (by repeat' (first | exact Sel.refl _ | refine Sel.q0 ?_ | refine Sel.q2 ?_ | refine Sel.skip _ ?_)))⟩ (by omega))
       ·refine g_skip ?_
        refine g_inBlock ?_
        refine g_region (l := [0, 1, 2]) rfl ?_
        refine vM (lv rfl) rfl rfl ?_
        refine o_v (lv rfl) rfl (r_addI rfl rfl ?_) ?_; omega
        refine vA (lv rfl) rfl rfl ?_
        (have hg : ¬ p.flow = i := c9
         have e1 : outs2 = outs ++ flt i (lo.take (j + 1)) := by rw [htk, flt_append, flt_one, if_neg hg, houts2, List.append_nil]
         exact hback4 _ _ _ ⟨j + 1, _, _, _, _, by omega, rfl, e1, by omega, (J_self (has_s rfl (has_s rfl (has_s rfl (has_s rfl (has_s rfl (has_s rfl (has_s rfl has_0)))))))), (hH.sel (by repeat' (first | exact Sel.refl _)))⟩ (by omega))
      ·refine g_exit rfl ?_
       refine g_seq ?_
       have hkn : k = S.length := by omega
       have hjn : j = lo.length := by omega
       have hinl : ins.length ≤ 2147483648 := by omega
       have hsame : ins = outs2 := by
         rw [hins, houts2, houts, hkn, hjn, List.take_length, show S.length = (S.map Prod.fst).length from by simp, List.take_length]
         exact told_eq hlo i
       refine g_region (l := [0, 1, 2, 3]) rfl ?_
       refine vM (lv rfl) rfl rfl ?_
       refine vM (lv rfl) rfl rfl ?_
       refine o_call (lv rfl) rfl en_25 rfl (help_PlainP (R := baseOf _) (F := []) hH.rd hH.p1.rd hinl (holds_start _)) ?_
       rintro _ w ⟨rfl, hH'⟩
       replace hH := hH.merge hH'
       refine o_v (lv rfl) rfl (r_notD rfl) ?_
       refine g_if rfl (fun c10 => ?_) (fun c10 => ?_)
       ·exact absurd hsame c10
       ·refine g_skip ?_
        refine g_inBlock ?_
        refine g_region (l := [0, 1, 2]) rfl ?_
        refine vM (lv rfl) rfl rfl ?_
        refine o_v (lv rfl) rfl (r_addI rfl rfl ?_) ?_; omega
        refine vA (lv rfl) rfl rfl ?_
        exact hback _ _ _ ⟨i + 1, _, by omega, rfl, (J_self (has_s rfl (has_s rfl (has_s rfl (has_s rfl has_0))))), (hH.sel (by repeat' (first | exact Sel.refl _ | refine Sel.skip _ ?_)))⟩ (by omega)
    ·refine g_exit rfl ?_
     refine g_seq ?_
     refine g_region (l := [0]) rfl ?_
     refine vA (lv rfl) rfl rfl ?_
     refine g_rq Tryz.func8 (res_t rfl res_0) ?_
     exact ⟨rfl, by have hZ := hH; subst hR2 hR1; have hH := hH0.merge (hH1.merge (hH2.merge hZ)); exact (hH.sel (by repeat' (first | exact Sel.refl _ | refine Sel.skip _ ?_)))⟩
end
end Go.Proofs.YtkdbglfdgeldpaaGreat
