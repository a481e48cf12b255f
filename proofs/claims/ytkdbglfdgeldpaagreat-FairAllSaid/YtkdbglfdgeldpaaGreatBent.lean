/- Contract of package law27: points of which one is changed. Condition: the points are only read. -/
import Derived.Test.YtkdbglfdgeldpaaGreatTrace
set_option linter.unusedVariables false
namespace Go.Proofs.YtkdbglfdgeldpaaGreat
open Go.Lt
def pok (q : Point × Option Addr × Nat) (h : Hp) : Prop := Rd encP (.slice q.2.1 q.1.ret.packets.length q.2.2) q.1.ret.packets h
theorem rpo_list : ∀ (sl : List (Point × Value)) (h : Hp), (∀ q ∈ sl, Rd encP q.2 q.1.ret.packets h) → ∃ S : Pl, S.map pov = sl ∧ ∀ q ∈ S, pok q h
  | [], h, _ => ⟨[], rfl, by simp⟩
  | q :: sl, h, hq => by
    obtain ⟨S, hS, hp⟩ := rpo_list sl h fun x hx => hq x (List.mem_cons_of_mem _ hx)
    have h1 := hq q (List.mem_cons_self ..)
    obtain ⟨a, cap, hv, -⟩ := h1.len
    refine ⟨(q.1, a, cap) :: S, by rw [List.map_cons, hS]; congr 1; obtain ⟨x, v⟩ := q; simp only at hv; subst hv; rfl, ?_⟩
    intro y hy
    rcases List.mem_cons.1 hy with rfl | hy
    ·unfold pok; rw [← hv]; exact h1
    ·exact hp y hy
theorem rpo {v : Value} {l : List Point} {h : Hp} (hX : RPoints v l h) : ∃ S : Pl, S.map (·.1) = l ∧ Rd encPo v S h ∧ ∀ q ∈ S, pok q h := by
  obtain ⟨sl, rfl, hr, hp⟩ := hX
  obtain ⟨S, rfl, hS⟩ := rpo_list sl h hp
  refine ⟨S, by rw [List.map_map]; rfl, ?_, hS⟩
  rcases hr with ⟨hv, hS⟩ | ⟨b, off, cap, cs, T, hv, hb, hl, hx⟩
  ·exact .inl ⟨hv, by simpa using hS⟩
  ·exact .inr ⟨b, off, cap, cs, T, by rw [List.length_map] at hv; exact hv, hb, by rw [List.length_map] at hl; exact hl, by rw [flat_encPt] at hx; exact hx⟩
theorem rp_of {v : Value} {S : Pl} {h : Hp} (hr : Rd encPo v S h) (hS : ∀ q ∈ S, pok q h) : RPoints v (S.map (·.1)) h := by
  refine ⟨S.map pov, by rw [List.map_map]; rfl, ?_, ?_⟩
  ·rcases hr with ⟨hv, hS⟩ | ⟨b, off, cap, cs, T, hv, hb, hl, hx⟩
   ·exact .inl ⟨hv, by rw [hS]; rfl⟩
   ·exact .inr ⟨b, off, cap, cs, T, by rw [List.length_map]; exact hv, hb, by rw [List.length_map]; exact hl, by rw [flat_encPt]; exact hx⟩
  ·intro q hq
   obtain ⟨s, hs, rfl⟩ := List.mem_map.1 hq
   exact hS s hs
theorem setL_at (vs : List Value) {A B cs : List Value} {off : Nat} (hc : cs = A ++ B) (ho : off = A.length) (hl : vs.length ≤ B.length) : setL cs off vs = A ++ (vs ++ B.drop vs.length) := by
  subst hc ho; exact setL_flat vs A B hl
theorem flat_split {α : Type} {enc : α → List Value} {l : List α} {i : Nat} {x : α} (hx : l[i]? = some x) : flat enc l = flat enc (l.take i) ++ (enc x ++ flat enc (l.drop (i + 1))) := by
  obtain ⟨h, he⟩ := List.getElem?_eq_some_iff.1 hx
  conv => lhs; rw [← List.take_append_drop i l, List.drop_eq_getElem_cons h, he]
  rw [flat_append]; rfl
theorem flat_set_at {α : Type} {enc : α → List Value} {l : List α} {i : Nat} (hi : i < l.length) (y : α) : flat enc (l.set i y) = flat enc (l.take i) ++ (enc y ++ flat enc (l.drop (i + 1))) := by
  rw [List.set_eq_take_append_cons_drop, if_pos hi, flat_append]; rfl
theorem setL_flatN {α : Type} {enc : α → List Value} {k : Nat} (hk : ∀ x, (enc x).length = k) {l : List α} {rest : List Value} {i off : Nat} {x : α} (hi : i < l.length) (ho : off = i * k) : setL (flat enc l ++ rest) off (enc x) = flat enc (l.set i x) ++ rest := by
  have hx := List.getElem?_eq_getElem hi
  rw [setL_at (enc x) (A := flat enc (l.take i)) (B := enc l[i] ++ (flat enc (l.drop (i + 1)) ++ rest)) (by rw [flat_split hx]; simp) (by rw [flat_length hk, ho, List.length_take, Nat.min_eq_left (Nat.le_of_lt hi)]) (by simp [hk]), flat_set_at hi]
  rw [hk, ← hk l[i], List.drop_left]
  simp
/-- The ret of element i is written. -/
theorem setL_ret {S : Pl} {rest : List Value} {i off : Nat} {q : Point × Option Addr × Nat} (hq : S[i]? = some q) (ho : off = i * 7 + 3) (r : Rt) (a : Option Addr) (c : Nat) :
    setL (flat encPo S ++ rest) off [.int .i64 r.e, .slice a r.packets.length c, .int .i64 r.n, .int .u64 r.v] = flat encPo (S.set i ({ q.1 with ret := r }, a, c)) ++ rest := by
  have hi := (List.getElem?_eq_some_iff.1 hq).1
  rw [setL_at _ (A := flat encPo (S.take i) ++ [.int .i64 q.1.step, .int .i64 q.1.who, .int .i64 q.1.place]) (B := [.int .i64 q.1.ret.e, .slice q.2.1 q.1.ret.packets.length q.2.2, .int .i64 q.1.ret.n, .int .u64 q.1.ret.v] ++ (flat encPo (S.drop (i + 1)) ++ rest))
    (by rw [flat_split hq]; simp [encPo]) (by rw [List.length_append, flat_length hkPo, ho]; simp; omega) (by simp), flat_set_at hi]
  simp [encPo]
theorem flat_dropN {α : Type} {enc : α → List Value} {k : Nat} (hk : ∀ x, (enc x).length = k) {l : List α} {rest : List Value} {i off : Nat} {x : α} (hx : l[i]? = some x) (ho : off = i * k) : ((flat enc l ++ rest).drop off).take k = enc x := by
  have hi := (List.getElem?_eq_some_iff.1 hx).1
  have h1 : (flat enc (l.take i)).length = off := by rw [flat_length hk, ho, List.length_take, Nat.min_eq_left (Nat.le_of_lt hi)]
  rw [flat_split hx, List.append_assoc, List.append_assoc, ← h1, List.drop_left, ← hk x, List.take_left]
theorem flat_ret {S : Pl} {rest : List Value} {i off : Nat} {q : Point × Option Addr × Nat} (hx : S[i]? = some q) (ho : off = i * 7 + 3) : ((flat encPo S ++ rest).drop off).take 4 = [.int .i64 q.1.ret.e, .slice q.2.1 q.1.ret.packets.length q.2.2, .int .i64 q.1.ret.n, .int .u64 q.1.ret.v] := by
  have h := flat_dropN (rest := rest) (off := i * 7) hkPo hx rfl
  have h2 : ((flat encPo S ++ rest).drop off).take 4 = (((flat encPo S ++ rest).drop (i * 7)).take 7).drop 3 := by
    rw [List.drop_take, List.drop_drop, ho]
  rw [h2, h]; rfl
theorem d_slc {P : Program} {n : Nat} {e : Env} {w : World} {ops : Array Oper} {K : Env → World → Prop} {ty : TypeId} {LP : List Prom} {fuel : Nat} {listed : Array Bool} {i : Nat} {d : Option Tmp} {T E k by_ b o len cap : Nat} {x : Operand} {lo hi : Option Operand} (l h : Nat)
    (hl : Live ops e i d (.slice T x lo hi none) ty) (hd : dOk n d = true) (ht : elm P T = some (E, k, by_)) (hx : ev e x = .slice (some ⟨b, o, none⟩) len cap)
    (hlo : BndIs e lo l 0) (hhi : BndIs e hi h len) (h1 : l ≤ h) (h2 : h ≤ cap) (hc : chk0 ops listed i = true) (kk : ∀ o', (l < cap → o' = o + l * k) → OPD P n ops LP fuel (listed.setIfInBounds i true) K (updO e d (.slice (some ⟨b, o', none⟩) (h - l) (cap - l))) w) :
    OPD P n ops LP (fuel + 1) listed K e w := by
  refine d_p hl hd (fun w' => ?_) hc (kk (if cap = l then o else o + l * k) (fun h => by rw [if_neg (by omega)]))
  obtain ⟨o', hr, ho, ho2⟩ := r_sl (P := P) (w := w') (ty := ty) ht hx hlo hhi h1 h2
  rw [hr]
  by_cases hcl : cap = l
  ·rw [ho2 hcl, if_pos hcl]
  ·rw [ho (by omega), if_neg hcl]
theorem pok.up {q : Point × Option Addr × Nat} {h k : Hp} (hp : pok q h) (s : Sub h k) : pok q k := Rd.up _ _ hp s
section
variable {R : Base} {F : List HP} {w : World}
abbrev qCells (q : Point × Option Addr × Nat) : List Value := [.int .i64 q.1.step, .int .i64 q.1.who, .int .i64 q.1.place, .int .i64 q.1.ret.e, .slice q.2.1 q.1.ret.packets.length q.2.2, .int .i64 q.1.ret.n, .int .u64 q.1.ret.v]
theorem put2 {a b : HP} (h : Holds R (a :: b :: F) w) : Holds R (a :: b :: (fun _ => True) :: F) w := (h.put (p := fun _ => True) trivial).p1.p2.p1
theorem bent_fin {v : Value} {S : Pl} {l : List Point} {q : Point × Option Addr × Nat} {G : HP} {k : Nat} (hl : l.length ≤ 1000) (hSl : S.length = l.length) (hSr : ∀ q ∈ S, pok q R.h ∧ q.1.ret.packets.length ≤ 100) (hq : pok q (hp w)) (hqp : q.1.ret.packets.length ≤ 101)
    (hH : Holds R (Vec 59 7 encPo v (S.set k q) :: G :: F) w) : ∃ l', RPoints v l' (hp w) ∧ l'.length ≤ l.length ∧ (∀ x ∈ l', x.ret.packets.length ≤ 101) ∧ Holds R F w := by
  refine ⟨(S.set k q).map (·.1), rp_of hH.rd ?_, by simp [hSl], ?_, hH.drop.drop⟩
  ·intro x hx
   rcases List.mem_or_eq_of_mem_set hx with h | h
   ·exact (hSr x h).1.up hH.ro
   ·subst h; exact hq
  ·intro x hx
   obtain ⟨y, hy, rfl⟩ := List.mem_map.1 hx
   rcases List.mem_or_eq_of_mem_set hy with h | h
   ·have := (hSr y h).2; omega
   ·subst h; exact hqp
set_option maxHeartbeats 1000000 in
theorem law27_Bent {xv : Value} {l : List Point} (hX : RPoints xv l R.h) (hl : l.length ≤ 1000) (hpk : ∀ x ∈ l, x.ret.packets.length ≤ 100) (kind at_ n : Int) (hk : I kind) (ha : I at_) (hn : I n) (hH : Holds R F w) :
    Ret Tryz.prog 13 [xv, .int .i64 kind, .int .i64 at_, .int .i64 n] w fun v w' => ∃ l', RPoints v l' (hp w') ∧ l'.length ≤ l.length ∧ (∀ x ∈ l', x.ret.packets.length ≤ 101) ∧ Holds R F w' := by
  obtain ⟨S0, rfl, hr0, hS0⟩ := rpo hX
  obtain ⟨xa, xcap, rfl, hxc⟩ := hr0.len
  rw [List.length_map] at hl
  have hSr0 : ∀ q ∈ S0, pok q R.h ∧ q.1.ret.packets.length ≤ 100 := fun q hq => ⟨hS0 q hq, hpk q.1 (List.mem_map.2 ⟨q, hq, rfl⟩)⟩
  have hb5 := md_b n (n := 5) (by omega)
  have hb7 := md_b n (n := 7) (by omega)
  have hb3 := md_b n (n := 3) (by omega)
  refine ret_of_g (n := 106) Tryz.func13 rfl rfl (by simp) ?_
  refine g_seq ?_
  refine g_region (l := [0]) rfl ?_
  refine vA (lv rfl) rfl rfl ?_
  refine g_seq ?_
  refine g_region (l := [0, 1, 2]) rfl ?_
  refine vM (lv rfl) rfl rfl ?_
  refine o_app (enc := encPo) (lv rfl) rfl el_30 ze_59 rfl (fun _ => rfl) (fun _ => rfl) rfl rfl (hH.vnil _ _ _) (Rd.up _ _ hr0 hH.ro) (by simp; omega) (by simp; omega) ?_
  intro v14 w hH; obtain ⟨a14, k14, rfl, -⟩ := hH.rd.len
  refine vA (lv rfl) rfl rfl ?_
  rw [List.nil_append] at hH ⊢
  refine g_seq ?_
  refine g_seq ?_
  refine g_region (l := [0, 1, 2]) rfl ?_
  refine vM (lv rfl) rfl rfl ?_
  refine o_v (lv rfl) rfl (r_len el_30 rfl) ?_
  refine o_v (lv rfl) rfl (r_eq rfl rfl) ?_
  refine g_if rfl (fun c0 => ?_) (fun c0 => ?_)
  ·refine g_seq ?_
   refine g_region (l := [0, 1]) rfl ?_
   refine vM (lv rfl) rfl rfl ?_
   refine vA (lv rfl) rfl rfl ?_
   refine g_rq Tryz.func13 (res_t rfl res_0) ?_
   (have hz : (S0.length : Int) = 0 := c0
    exact ⟨_, rp_of hH.rd (fun q hq => (hS0 q hq).up hH.ro), by simp, (fun x hx => by have := hpk x hx; omega), hH.drop⟩)
  ·have hpos : 0 < S0.length := by omega
   have hba := md_b at_ (n := (S0.length : Int)) (by omega)
   have hbn := md_b n (n := (S0.length : Int)) (by omega)
   obtain ⟨k, hke⟩ : ∃ k : Nat, md at_ S0.length = k := ⟨(md at_ S0.length).toNat, by omega⟩
   obtain ⟨j, hje⟩ : ∃ j : Nat, md n S0.length = j := ⟨(md n S0.length).toNat, by omega⟩
   obtain ⟨q, hq⟩ : ∃ q, S0[k]? = some q := ⟨_, List.getElem?_eq_getElem (by omega)⟩
   obtain ⟨q2, hq2⟩ : ∃ q, S0[j]? = some q := ⟨_, List.getElem?_eq_getElem (by omega)⟩
   have hqr := hSr0 q (List.mem_of_getElem? hq)
   have hqr2 := hSr0 q2 (List.mem_of_getElem? hq2)
   obtain ⟨bo, co, rest, hve, hvl, hvr, hH⟩ := vec_cel hH hpos
   obtain ⟨hva, -, hvk⟩ := Value.slice.inj hve
   rw [hva, hvk]
   have hco : ((flat encPo S0 ++ rest).drop (0 + ((k : Int)).toNat * 7)).take 7 = encPo q := flat_dropN hkPo hq (by omega)
   have hcr : ((flat encPo S0 ++ rest).drop (0 + ((j : Int)).toNat * 7 + 3)).take 4 = _ := flat_ret hq2 (by omega)
   refine g_skip ?_
   refine g_seq ?_
   refine g_region (l := [0, 1, 2, 3, 4]) rfl ?_
   refine vM (lv rfl) rfl rfl ?_
   refine vM (lv rfl) rfl rfl ?_
   refine o_v (lv rfl) rfl (r_len el_30 rfl) ?_
   refine o_call (lv rfl) rfl en_12 rfl (play_Mod at_ _ ha (by omega) (by omega) hH) ?_
   rintro _ w ⟨rfl, hH⟩
   rw [hke]
   refine vA (lv rfl) rfl rfl ?_
   refine g_seq ?_
   refine g_region (l := [0, 1, 2, 3, 4, 5]) rfl ?_
   refine vM (lv rfl) rfl rfl ?_
   refine vM (lv rfl) rfl rfl ?_
   refine o_v (lv rfl) rfl (r_ia el_30 rfl rfl ?_ ?_) ?_; omega; omega
   refine o_ldN (lv rfl) rfl lk_59 rfl ⟨_, _, _, hH.c0, _, hco, rfl, ?_⟩
   refine o_al (lv rfl) rfl ze_59 hH ?_
   intro b11 w hH
   refine o_st (lv rfl) rfl lk_59 rfl (vs := [_, _, _, _, _, _, _]) rfl rfl (by exact hH) rfl rfl (by simp) rfl ?_
   intro w hH; dsimp only [setL, List.set] at hH
   refine g_seq ?_
   refine g_seq ?_
   refine g_region (l := [0, 1]) rfl ?_
   refine vM (lv rfl) rfl rfl ?_
   refine o_call (lv rfl) rfl en_12 rfl (play_Mod kind 9 hk (by omega) (by omega) hH) ?_
   rintro _ w ⟨rfl, hH⟩
   refine g_join (fun e w => ∃ (e0 : Env) (S : Pl) (q : Point × Option Addr × Nat) (G : HP), S.length = S0.length ∧ (∀ q ∈ S, pok q R.h ∧ q.1.ret.packets.length ≤ 100) ∧ q.1.ret.packets.length ≤ 101 ∧ (∀ w, Holds R (G :: F) w → pok q (hp w)) ∧ e = J e0 [(9, .slice (some ⟨bo, 0, none⟩) S0.length co), (10, .int .i64 k), (11, .pointer (some ⟨b11, 0, none⟩))] ∧ Holds R (cel b11 (qCells q) 59 :: cel bo (flat encPo S ++ rest) 59 :: G :: F) w) (fun kk hkk => ?_) ?_
   ·refine g_block ?_
    refine g_seq ?_
    refine g_region (l := [0, 1]) rfl ?_
    refine o_v (lv rfl) rfl (r_eq rfl rfl) ?_
    refine vA (lv rfl) rfl rfl ?_
    refine g_if rfl (fun c1 => ?_) (fun c1 => ?_)
    ·refine g_region (l := [0, 1, 2, 3, 4, 5, 6, 7]) rfl ?_
     refine o_bs (lv rfl) rfl el_85 ze_55 rfl rfl rfl (ps := [_, _, _, _, _, _, _]) rfl rfl rfl (cs := [_, _, _, _, _, _, _]) rfl hH ?_
     intro b32 w hH
     refine vM (lv rfl) rfl rfl ?_
     refine o_call (lv rfl) rfl en_12 rfl (play_Mod n _ hn (by omega) (by omega) hH) ?_
     rintro _ w ⟨rfl, hH⟩
     obtain ⟨e7, he7⟩ : ∃ e7 : Int, ([Value.int .i64 0, .int .i64 10, .int .i64 9, .int .i64 5, .int .i64 1, .int .i64 8, .int .i64 6] : List Value)[0 + (md n 7).toNat * 1]? = some (.int .i64 e7) := by
       rcases (by omega : md n 7 = 0 ∨ md n 7 = 1 ∨ md n 7 = 2 ∨ md n 7 = 3 ∨ md n 7 = 4 ∨ md n 7 = 5 ∨ md n 7 = 6) with h | h | h | h | h | h | h <;> rw [h] <;> exact ⟨_, rfl⟩
     have hce := he7
     refine o_v (lv rfl) rfl (r_ia el_85 rfl rfl ?_ ?_) ?_; omega; omega
     refine o_ld (lv rfl) rfl lk_55 rfl ⟨_, _, _, hH.c0, _, hce, ?_⟩
     refine o_v (lv rfl) rfl (r_fa fa_59_3 rfl) ?_
     refine o_v (lv rfl) rfl (r_fa fa_57_0 rfl) ?_
     refine o_st (lv rfl) rfl lk_55 rfl (vs := [_]) rfl rfl (by exact hH.p1) rfl rfl (by simp) rfl ?_
     intro w hH; dsimp only [setL, List.set] at hH
     refine g_inBlock ?_
     (have hg : md kind 9 = 0 := c1
      have hx : Holds R (cel b11 (qCells ({ q.1 with ret := { q.1.ret with e := e7 } }, q.2.1, q.2.2)) 59 :: cel bo (flat encPo S0 ++ rest) 59 :: (fun _ => True) :: F) w := put2 (hH.sel (by repeat' (first | exact Sel.refl _ | refine Sel.q0 ?_ | refine Sel.q1 ?_ | refine Sel.skip _ ?_)))
      exact hkk _ _ ⟨_, S0, ({ q.1 with ret := { q.1.ret with e := e7 } }, q.2.1, q.2.2), fun _ => True, rfl, hSr0, (Nat.le_trans hqr.2 (by omega)), (fun w hw => pok.up (q := (q.1, q.2.1, q.2.2)) hqr.1 hw.ro), (J_self (has_s rfl (has_s rfl (has_s rfl has_0)))), hx⟩)
    ·refine g_seq ?_
     refine g_region (l := [0, 1]) rfl ?_
     refine o_v (lv rfl) rfl (r_eq rfl rfl) ?_
     refine vA (lv rfl) rfl rfl ?_
     refine g_if rfl (fun c2 => ?_) (fun c2 => ?_)
     ·refine g_region (l := [0, 1, 2, 3]) rfl ?_
      refine vM (lv rfl) rfl rfl ?_
      refine o_v (lv rfl) rfl (r_fa fa_59_3 rfl) ?_
      refine o_v (lv rfl) rfl (r_fa fa_57_2 rfl) ?_
      refine o_st (lv rfl) rfl lk_3 rfl (vs := [_]) rfl rfl (by exact hH) rfl rfl (by simp) rfl ?_
      intro w hH; dsimp only [setL, List.set] at hH
      refine g_inBlock ?_
      (have hg : md kind 9 = 1 := c2
       have hx : Holds R (cel b11 (qCells ({ q.1 with ret := { q.1.ret with n := n } }, q.2.1, q.2.2)) 59 :: cel bo (flat encPo S0 ++ rest) 59 :: (fun _ => True) :: F) w := put2 (hH.sel (by repeat' (first | exact Sel.refl _)))
       exact hkk _ _ ⟨_, S0, ({ q.1 with ret := { q.1.ret with n := n } }, q.2.1, q.2.2), fun _ => True, rfl, hSr0, (Nat.le_trans hqr.2 (by omega)), (fun w hw => pok.up (q := (q.1, q.2.1, q.2.2)) hqr.1 hw.ro), (J_self (has_s rfl (has_s rfl (has_s rfl has_0)))), hx⟩)
     ·refine g_seq ?_
      refine g_region (l := [0, 1]) rfl ?_
      refine o_v (lv rfl) rfl (r_eq rfl rfl) ?_
      refine vA (lv rfl) rfl rfl ?_
      refine g_if rfl (fun c3 => ?_) (fun c3 => ?_)
      ·refine g_region (l := [0, 1, 2]) rfl ?_
       refine vM (lv rfl) rfl rfl ?_
       refine o_v (lv rfl) rfl (r_fa fa_59_0 rfl) ?_
       refine o_st (lv rfl) rfl lk_3 rfl (vs := [_]) rfl rfl (by exact hH) rfl rfl (by simp) rfl ?_
       intro w hH; dsimp only [setL, List.set] at hH
       refine g_inBlock ?_
       (have hg : md kind 9 = 2 := c3
        have hx : Holds R (cel b11 (qCells ({ q.1 with step := n }, q.2.1, q.2.2)) 59 :: cel bo (flat encPo S0 ++ rest) 59 :: (fun _ => True) :: F) w := put2 (hH.sel (by repeat' (first | exact Sel.refl _)))
        exact hkk _ _ ⟨_, S0, ({ q.1 with step := n }, q.2.1, q.2.2), fun _ => True, rfl, hSr0, (Nat.le_trans hqr.2 (by omega)), (fun w hw => pok.up (q := (q.1, q.2.1, q.2.2)) hqr.1 hw.ro), (J_self (has_s rfl (has_s rfl (has_s rfl has_0)))), hx⟩)
      ·refine g_seq ?_
       refine g_region (l := [0, 1]) rfl ?_
       refine o_v (lv rfl) rfl (r_eq rfl rfl) ?_
       refine vA (lv rfl) rfl rfl ?_
       refine g_if rfl (fun c4 => ?_) (fun c4 => ?_)
       ·refine g_region (l := [0, 1, 2, 3, 4]) rfl ?_
        refine vM (lv rfl) rfl rfl ?_
        refine o_call (lv rfl) rfl en_12 rfl (play_Mod n _ hn (by omega) (by omega) hH) ?_
        rintro _ w ⟨rfl, hH⟩
        refine o_v (lv rfl) rfl (r_subI rfl rfl ?_) ?_; omega
        refine o_v (lv rfl) rfl (r_fa fa_59_1 rfl) ?_
        refine o_st (lv rfl) rfl lk_3 rfl (vs := [_]) rfl rfl (by exact hH) rfl rfl (by simp) rfl ?_
        intro w hH; dsimp only [setL, List.set] at hH
        refine g_inBlock ?_
        (have hg : md kind 9 = 3 := c4
         have hx : Holds R (cel b11 (qCells ({ q.1 with who := md n 5 - 1 }, q.2.1, q.2.2)) 59 :: cel bo (flat encPo S0 ++ rest) 59 :: (fun _ => True) :: F) w := put2 (hH.sel (by repeat' (first | exact Sel.refl _)))
         exact hkk _ _ ⟨_, S0, ({ q.1 with who := md n 5 - 1 }, q.2.1, q.2.2), fun _ => True, rfl, hSr0, (Nat.le_trans hqr.2 (by omega)), (fun w hw => pok.up (q := (q.1, q.2.1, q.2.2)) hqr.1 hw.ro), (J_self (has_s rfl (has_s rfl (has_s rfl has_0)))), hx⟩)
       ·refine g_seq ?_
        refine g_region (l := [0, 1]) rfl ?_
        refine o_v (lv rfl) rfl (r_eq rfl rfl) ?_
        refine vA (lv rfl) rfl rfl ?_
        refine g_if rfl (fun c5 => ?_) (fun c5 => ?_)
        ·refine g_region (l := [0, 1, 2, 3, 4]) rfl ?_
         refine vM (lv rfl) rfl rfl ?_
         refine o_call (lv rfl) rfl en_12 rfl (play_Mod n _ hn (by omega) (by omega) hH) ?_
         rintro _ w ⟨rfl, hH⟩
         refine o_v (lv rfl) rfl (r_subI rfl rfl ?_) ?_; omega
         refine o_v (lv rfl) rfl (r_fa fa_59_2 rfl) ?_
         refine o_st (lv rfl) rfl lk_3 rfl (vs := [_]) rfl rfl (by exact hH) rfl rfl (by simp) rfl ?_
         intro w hH; dsimp only [setL, List.set] at hH
         refine g_inBlock ?_
         (have hg : md kind 9 = 4 := c5
          have hx : Holds R (cel b11 (qCells ({ q.1 with place := md n 7 - 1 }, q.2.1, q.2.2)) 59 :: cel bo (flat encPo S0 ++ rest) 59 :: (fun _ => True) :: F) w := put2 (hH.sel (by repeat' (first | exact Sel.refl _)))
          exact hkk _ _ ⟨_, S0, ({ q.1 with place := md n 7 - 1 }, q.2.1, q.2.2), fun _ => True, rfl, hSr0, (Nat.le_trans hqr.2 (by omega)), (fun w hw => pok.up (q := (q.1, q.2.1, q.2.2)) hqr.1 hw.ro), (J_self (has_s rfl (has_s rfl (has_s rfl has_0)))), hx⟩)
        ·refine g_seq ?_
         refine g_region (l := [0, 1]) rfl ?_
         refine o_v (lv rfl) rfl (r_eq rfl rfl) ?_
         refine vA (lv rfl) rfl rfl ?_
         refine g_if rfl (fun c6 => ?_) (fun c6 => ?_)
         ·refine g_seq ?_
          refine g_region (l := [0, 1, 2, 3, 4]) rfl ?_
          refine vM (lv rfl) rfl rfl ?_
          refine vM (lv rfl) rfl rfl ?_
          refine o_v (lv rfl) rfl (r_len el_30 rfl) ?_
          refine o_call (lv rfl) rfl en_12 rfl (play_Mod n _ hn (by omega) (by omega) hH) ?_
          rintro _ w ⟨rfl, hH⟩
          rw [hje]
          refine vA (lv rfl) rfl rfl ?_
          refine rD mixed hH fun w hH => ?_
          refine pM 0 (lv rfl) rfl rfl ?_
          refine pM 1 (lv rfl) rfl rfl ?_
          refine pM 2 (lv rfl) rfl rfl ?_
          refine pM 3 (lv rfl) rfl rfl ?_
          refine d_p (i := 4) (lv rfl) rfl (fun w => (r_ia el_30 rfl rfl ?_ ?_)) (by kernel_rfl) ?_; omega; omega
          refine pF 5 (lv rfl) rfl fa_59_3 rfl ?_
          refine d_ldN (i := 6) [10, 13] (lv rfl) rfl lk_57 rfl (by kernel_rfl) ⟨_, _, _, hH.c1, _, hcr, rfl, ?_⟩
          refine pF 7 (lv rfl) rfl fa_59_3 rfl ?_
          refine d_ldN (i := 8) [10, 13] (lv rfl) rfl lk_57 rfl (by kernel_rfl) ⟨_, _, _, hH.c0, [_, _, _, _], rfl, rfl, ?_⟩
          refine pF 9 (lv rfl) rfl fa_59_3 rfl ?_
          refine d_l (j := 10) (by kernel_rfl) ?_
          refine o_st (lv rfl) rfl lk_57 rfl (vs := [_, _, _, _]) rfl rfl (by exact hH) rfl rfl (by simp) rfl ?_
          intro w hH; dsimp only [setL, List.set] at hH
          refine ⟨(keeps_in rfl (keeps_in rfl trivial)), ?_⟩
          refine d_p (i := 11) (lv rfl) rfl (fun w => (r_ia el_30 rfl rfl ?_ ?_)) (by kernel_rfl) ?_; omega; omega
          refine pF 12 (lv rfl) rfl fa_59_3 rfl ?_
          refine d_l (j := 13) (by kernel_rfl) ?_
          refine o_st (lv rfl) rfl lk_57 rfl rfl (vs := [_, _, _, _]) rfl (by exact hH.p1) rfl rfl ?_ (setL_ret hq2 (by omega) q.1.ret q.2.1 q.2.2) ?_
          ·have h7 := flat_length hkPo S0
           rw [List.length_append, h7]; simp only [List.length_cons, List.length_nil]; omega
          intro w hH
          refine ⟨(keeps_in rfl (keeps_in rfl trivial)), ?_⟩
          refine d_end (by kernel_rfl) ?_
          refine g_inBlock ?_
          (have hg : md kind 9 = 5 := c6
           have hx : Holds R (cel b11 (qCells ({ q.1 with ret := q2.1.ret }, q2.2.1, q2.2.2)) 59 :: cel bo (flat encPo (S0.set j ({ q2.1 with ret := q.1.ret }, q.2.1, q.2.2)) ++ rest) 59 :: (fun _ => True) :: F) w := put2 (hH.sel (by repeat' (first | exact Sel.refl _ | refine Sel.q1 ?_)))
           exact hkk _ _ ⟨_, _, ({ q.1 with ret := q2.1.ret }, q2.2.1, q2.2.2), fun _ => True, by simp, (fun x hx => by
             rcases List.mem_or_eq_of_mem_set hx with h | h
             ·exact hSr0 x h
             ·subst h; exact hqr), (Nat.le_trans hqr2.2 (by omega)), (fun w hw => pok.up (q := (q2.1, q2.2.1, q2.2.2)) hqr2.1 hw.ro), (J_self (has_s rfl (has_s rfl (has_s rfl has_0)))), hx⟩)
         ·refine g_seq ?_
          refine g_region (l := [0, 1]) rfl ?_
          refine o_v (lv rfl) rfl (r_eq rfl rfl) ?_
          refine vA (lv rfl) rfl rfl ?_
          refine g_if rfl (fun c7 => ?_) (fun c7 => ?_)
          ·refine g_region (l := [0, 1, 2, 3, 4, 5, 6, 7, 8, 9, 10, 11]) rfl ?_
           refine o_v (lv rfl) rfl (r_fa fa_59_3 rfl) ?_
           refine o_v (lv rfl) rfl (r_fa fa_57_1 rfl) ?_
           refine o_ld (lv rfl) rfl lk_48 rfl ⟨_, _, _, hH.c0, _, rfl, ?_⟩
           refine o_app (enc := encP) (lv rfl) rfl el_48 ze_54 rfl (fun _ => rfl) (fun _ => rfl) rfl rfl (hH.vnil _ _ _) (Rd.up _ _ hqr.1 hH.ro) (by simp; omega) (by simp; omega) ?_
           intro v83 w hH; obtain ⟨a83, k83, rfl, -⟩ := hH.rd.len
           refine vM (lv rfl) rfl rfl ?_
           refine o_call (lv rfl) rfl en_12 rfl (play_Mod n _ hn (by omega) (by omega) hH) ?_
           rintro _ w ⟨rfl, hH⟩
           refine o_v (lv rfl) rfl (r_bld (ps := [_, _]) (cs := [_, _, _]) pl_54 rfl rfl) ?_
           refine o_bs (lv rfl) rfl el_48 ze_54 rfl rfl rfl (ps := [_]) rfl rfl rfl (cs := [_, _, _]) rfl hH ?_
           intro b87 w hH
           refine o_app (enc := encP) (lv rfl) rfl el_48 ze_54 rfl (fun _ => rfl) (fun _ => rfl) rfl rfl (by exact hH.p1) (rd_of_cel [(⟨md n 3, 1, 0⟩ : Packet)] (by exact hH.c0) rfl) (by simp; omega) (by simp; omega) ?_
           intro v88 w hH; obtain ⟨a88, k88, rfl, -⟩ := hH.rd.len
           refine o_v (lv rfl) rfl (r_fa fa_59_3 rfl) ?_
           refine o_v (lv rfl) rfl (r_fa fa_57_1 rfl) ?_
           refine o_st (lv rfl) rfl lk_48 rfl (vs := [_]) rfl rfl (by exact hH.p2) rfl rfl (by simp) rfl ?_
           intro w hH; dsimp only [setL, List.set] at hH
           refine g_inBlock ?_
           (have hg : md kind 9 = 6 := c7
            exact hkk _ _ ⟨_, S0, ({ q.1 with ret := { q.1.ret with packets := ([] : List Packet) ++ q.1.ret.packets ++ [(⟨md n 3, 1, 0⟩ : Packet)] } }, a88, k88), Vec 54 3 encP (.slice a88 (([] : List Packet) ++ q.1.ret.packets ++ [(⟨md n 3, 1, 0⟩ : Packet)]).length k88) (([] : List Packet) ++ q.1.ret.packets ++ [(⟨md n 3, 1, 0⟩ : Packet)]), rfl, hSr0, (by have := hqr.2; simp; omega), (fun w hw => by unfold pok; exact hw.rd), (J_self (has_s rfl (has_s rfl (has_s rfl has_0)))), (hH.sel (by repeat' (first | exact Sel.refl _ | refine Sel.q0 ?_ | refine Sel.q2 ?_ | refine Sel.skip _ ?_)))⟩)
          ·refine g_seq ?_
           refine g_region (l := [0, 1]) rfl ?_
           refine o_v (lv rfl) rfl (r_eq rfl rfl) ?_
           refine vA (lv rfl) rfl rfl ?_
           refine g_if rfl (fun c8 => ?_) (fun c8 => ?_)
           ·refine g_seq ?_
            refine rD mixed hH fun w hH => ?_
            have hry : Rd encPo (.slice (some ⟨bo, 0, none⟩) S0.length co) S0 (hp w) := (vec_uncel (T := 59) (L := F) (k := 7) (enc := encPo) (l := S0) (rest := rest) ((hH.sel (by repeat' (first | exact Sel.refl _ | refine Sel.q1 ?_ | refine Sel.skip _ ?_)))) rfl rfl hvl hvr).rd
            have hH7 : Holds R (Vec 59 7 encPo (.slice (some ⟨bo, 0, none⟩) k co) (S0.take k) :: F) w := vec_uncel (rest := flat encPo (S0.drop k) ++ rest) (cs := flat encPo S0 ++ rest) (hH.sel (by repeat' (first | exact Sel.refl _ | refine Sel.q1 ?_ | refine Sel.skip _ ?_))) (by rw [← List.append_assoc, ← flat_append, List.take_append_drop]) (by simp; omega) (by simp; omega) (by simp [flat_length hkPo, hvr]; omega)
            replace hH := hH7
            refine pM 0 (lv rfl) rfl rfl ?_
            refine pM 1 (lv rfl) rfl rfl ?_
            refine d_slc (i := 2) 0 k (lv rfl) rfl el_30 rfl bnd_n (bnd_s rfl) (by omega) (by omega) (by kernel_rfl) (fun o1 ho1 => ?_)
            obtain rfl : o1 = 0 := by have := ho1 (by omega); omega
            refine pM 3 (lv rfl) rfl rfl ?_
            refine pM 4 (lv rfl) rfl rfl ?_
            refine d_p (i := 5) (lv rfl) rfl (fun w => (r_addI rfl rfl ?_)) (by kernel_rfl) ?_; omega
            refine d_slc (i := 6) (k + 1) S0.length (lv rfl) rfl el_30 rfl (bnd_s rfl) bnd_n (by omega) (by omega) (by kernel_rfl) (fun o2 ho2 => ?_)
            refine d_l (j := 7) (by kernel_rfl) ?_
            refine o_app (enc := encPo) (lv rfl) rfl el_30 ze_59 rfl (fun _ => rfl) (fun _ => rfl) rfl rfl (by exact hH) (Rd.drop hkPo hry (by omega) ho2) (by simp; omega) (by simp; omega) ?_
            intro v100 w hH; obtain ⟨a100, k100, rfl, -⟩ := hH.rd.len
            refine ⟨trivial, ?_⟩
            refine pA 8 (lv rfl) rfl rfl ?_
            refine d_end (by kernel_rfl) ?_
            refine g_rq Tryz.func13 (res_t rfl res_0) ?_
            (have h7 : md kind 9 = 7 := c8
             have hmm : ∀ x ∈ S0.take k ++ S0.drop (k + 1), x ∈ S0 := fun x hx => (List.mem_append.1 hx).elim List.mem_of_mem_take List.mem_of_mem_drop
             exact ⟨_, rp_of hH.rd (fun q hq => (hS0 q (hmm q hq)).up hH.ro), by simp; omega, (fun x hx => by
               obtain ⟨y, hy, rfl⟩ := List.mem_map.1 hx
               have := (hSr0 y (hmm y hy)).2; omega), hH.drop⟩)
           ·refine g_seq ?_
            refine g_region (l := [0, 1]) rfl ?_
            refine vM (lv rfl) rfl rfl ?_
            refine vA (lv rfl) rfl rfl ?_
            refine g_rq Tryz.func13 (res_t rfl res_0) ?_
            (have h7 : ¬ md kind 9 = 7 := c8
             have hV : Holds R (Vec 59 7 encPo (.slice (some ⟨bo, 0, none⟩) S0.length co) S0 :: F) w := vec_uncel (rest := rest) (hH.sel (by repeat' (first | exact Sel.refl _ | refine Sel.q1 ?_ | refine Sel.skip _ ?_))) rfl rfl hvl hvr
             exact ⟨_, rp_of hV.rd (fun q hq => (hS0 q hq).up hV.ro), by simp, (fun x hx => by have := hpk x hx; omega), hV.drop⟩)
   ·rintro _ w ⟨e0, S, q', G, hSl, hSr, hqp, hG, rfl, hH⟩
    refine g_seq ?_
    refine g_region (l := [0, 1, 2, 3, 4]) rfl ?_
    refine vM (lv rfl) rfl rfl ?_
    refine vM (lv rfl) rfl rfl ?_
    refine o_ldN (lv rfl) rfl lk_59 rfl ⟨_, _, _, hH.c0, [_, _, _, _, _, _, _], rfl, rfl, ?_⟩
    refine o_v (lv rfl) rfl (r_ia el_30 rfl rfl ?_ ?_) ?_; omega; omega
    refine o_st (lv rfl) rfl lk_59 rfl rfl (vs := [_, _, _, _, _, _, _]) rfl (by exact hH.p1) rfl rfl ?_ (setL_flatN (i := k) (x := q') hkPo (by omega) (by omega)) ?_
    ·have h7 := flat_length hkPo S
     rw [List.length_append, h7]; simp only [List.length_cons, List.length_nil]; omega
    intro w hH
    refine g_seq ?_
    refine g_region (l := [0, 1]) rfl ?_
    refine vM (lv rfl) rfl rfl ?_
    refine vA (lv rfl) rfl rfl ?_
    refine g_rq Tryz.func13 (res_t rfl res_0) ?_
    (have hqp' := hqp
     have hq := hG _ (show Holds R (G :: F) w from (hH.sel (by repeat' (first | exact Sel.refl _ | refine Sel.q2 ?_ | refine Sel.skip _ ?_))))
     have hV : Holds R (Vec 59 7 encPo (.slice (some ⟨bo, 0, none⟩) S0.length co) (S.set k q') :: G :: F) w := vec_uncel (rest := rest) (hH.sel (by repeat' (first | exact Sel.refl _ | refine Sel.q0 ?_ | refine Sel.q1 ?_ | refine Sel.skip _ ?_))) rfl (by simp; omega) (by simp; omega) (by rw [hvr, List.length_set, hSl])
     exact bent_fin (by simp; omega) (by simp; omega) hSr hq hqp hV)
end
end Go.Proofs.YtkdbglfdgeldpaaGreat
