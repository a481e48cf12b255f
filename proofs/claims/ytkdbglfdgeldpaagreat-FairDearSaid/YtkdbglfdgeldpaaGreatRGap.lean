/- Contracts of the reference of layer 28: how far two flows are apart. Condition: costs are small. -/
import Derived.Test.YtkdbglfdgeldpaaGreatGap
import Derived.Test.YtkdbglfdgeldpaaGreatLtH
namespace Go.Proofs.YtkdbglfdgeldpaaGreat
open Go.Lt
theorem flat_set : ∀ (l : List Int) (rest : List Value) (i : Nat) (x : Int), i < l.length → (flat encI l ++ rest).set i (.int .i64 x) = flat encI (l.set i x) ++ rest
  | [], _, _, _, h => by simp at h
  | y :: l, rest, 0, x, _ => rfl
  | y :: l, rest, i + 1, x, h => by
    have ih := flat_set l rest i x (by simpa using h)
    show (.int .i64 y :: (flat encI l ++ rest)).set (i + 1) _ = .int .i64 y :: (flat encI (l.set i x) ++ rest)
    rw [List.set_cons_succ, ih]
theorem flat_at {l : List Int} {rest : List Value} {i : Nat} {x : Int} (h : l[i]? = some x) : (flat encI l ++ rest)[i]? = some (.int .i64 x) := by
  have hlt := (List.getElem?_eq_some_iff.1 h).1
  have := flat_get hkI l i 0 x h (by omega)
  simp only [Nat.mul_one, Nat.add_zero] at this
  have hl := flat_length hkI l
  rw [List.getElem?_append_left (by omega), this]
  rfl
theorem setL_flatI {l : List Int} {rest : List Value} {i off : Nat} {x : Int} (h : i < l.length) (ho : off = i) : setL (flat encI l ++ rest) off [.int .i64 x] = flat encI (l.set i x) ++ rest := by
  subst ho; exact flat_set l rest off x h
theorem take_set_drop (L : List Int) (d : Int) (j : Nat) (y : Int) (hy : L[j]? = some y) : ((L.map (· + d)).take j ++ L.drop j).set j (y + d) = (L.map (· + d)).take (j + 1) ++ L.drop (j + 1) := by
  obtain ⟨hlt, he⟩ := List.getElem?_eq_some_iff.1 hy
  have h1 : ((L.map (· + d)).take j).length = j := by simp; omega
  rw [List.drop_eq_getElem_cons hlt, List.set_append_right _ _ (by omega), h1, Nat.sub_self, List.set_cons_zero, List.take_add_one, List.getElem?_map, hy]
  simp
theorem playL_ok {ls : List (List Call)} (hls : listsOk ls) : ∀ (l : List Point) (m : Mdl) (last : Option Int) (n : Nat) {m' : Mdl}, m.ok n → n + l.length ≤ 1000000 → playL ls l m last = some m' → ∀ x ∈ l, x.ret.ok
  | [], _, _, _, _, _, _, _ => by simp
  | x :: l, m, last, n, m', hm, hn, h => by
    simp only [List.length_cons] at hn
    have hdo := Mdl.do_ok hm (by omega) (callOf_ok hls x)
    rw [playL_S] at h
    split at h
    ·cases h
    ·rename_i hc
     intro y hy
     rcases List.mem_cons.1 hy with rfl | hy
     ·have : (m.do (callOf ls y).1).1 = y.ret := Classical.byContradiction fun hne => hc (.inr (.inr hne))
      rw [← this]; exact hdo.2.1
     ·exact playL_ok hls l _ _ (n + 1) hdo.1 (by omega) h y hy
theorem plays_ok {c : Config} {ls : List (List Call)} {l : List Point} {m : Mdl} (hls : listsOk ls) (hl : l.length ≤ 1000000) (h : plays c ls l = some m) : ∀ x ∈ l, x.ret.ok := by
  unfold plays at h
  split at h
  ·rename_i hc; exact playL_ok hls _ _ _ 0 (mkMdl_ok c hc) (by omega) h
  ·cases h
def rD1 (m : Mdl) (f : Int) (d : Int) (p : Packet) : Int := if p.flow = f then d + costOf p.len (m.s.rate p.flow) else d
def rD2 (m : Mdl) (f g : Int) (d : Int) (p : Packet) : Int := if p.flow = g then rD1 m f d p - costOf p.len (m.s.rate p.flow) else rD1 m f d p
def rTells (m : Mdl) (f g : Int) : List Packet → Int → Option Int
  | [], d => some d
  | p :: ps, d => if costOf p.len (m.s.rate p.flow) ≤ 4611686018427387904 ∧ smallI (rD1 m f d p) ∧ smallI (rD2 m f g d p) then rTells m f g ps (rD2 m f g d p) else none
theorem rTells_S {m : Mdl} {f g : Int} {p : Packet} {ps : List Packet} {d r : Int} (h : rTells m f g (p :: ps) d = some r) :
    costOf p.len (m.s.rate p.flow) ≤ 4611686018427387904 ∧ smallI (rD1 m f d p) ∧ smallI (rD2 m f g d p) ∧ rTells m f g ps (rD2 m f g d p) = some r := by
  unfold rTells at h
  split at h
  ·rename_i hc; exact ⟨hc.1, hc.2.1, hc.2.2, h⟩
  ·cases h
structure Rs where
  m : Mdl
  fr : List Int
  most : Int
def rFrom (m : Mdl) (f g : Int) (fr : List Int) : List Int := if m.s.lenAt f < 1 ∨ m.s.lenAt g < 1 then [] else fr ++ [0]
def mostS (a v : Int) : Int := max (max a v) (-v)
def rEnd (f g : Int) (m' : Mdl) (s : Rs) (d : Int) : Rs := ⟨m', (rFrom s.m f g s.fr).map (· + d), if both m' f g = true then ((rFrom s.m f g s.fr).map (· + d)).foldl mostS s.most else s.most⟩
def rgapL (f g : Int) (ls : List (List Call)) : List Point → Rs → Option Rs
  | [], s => some s
  | x :: l, s => match rTells s.m f g x.ret.packets 0 with
    | none => none
    | some d => if ∀ v ∈ (rFrom s.m f g s.fr).map (· + d), smallI v then rgapL f g ls l (rEnd f g (s.m.do (callOf ls x).1).2 s d) else none
theorem rgapL_S {f g : Int} {ls : List (List Call)} {x : Point} {l : List Point} {s r : Rs} (h : rgapL f g ls (x :: l) s = some r) :
    ∃ d, rTells s.m f g x.ret.packets 0 = some d ∧ (∀ v ∈ (rFrom s.m f g s.fr).map (· + d), smallI v) ∧ rgapL f g ls l (rEnd f g (s.m.do (callOf ls x).1).2 s d) = some r := by
  unfold rgapL at h
  split at h
  ·cases h
  ·rename_i d hd
   split at h
   ·rename_i hc; exact ⟨d, hd, hc, h⟩
   ·cases h
theorem mostS_small {l : List Int} : ∀ {a : Int}, 0 ≤ a ∧ a < 4611686018427387904 → (∀ v ∈ l, smallI v) → 0 ≤ l.foldl mostS a ∧ l.foldl mostS a < 4611686018427387904 := by
  induction l with
  | nil => intro a h _; exact h
  | cons v l ih =>
    intro a h hv
    have h1 := hv v (List.mem_cons_self ..)
    unfold smallI at h1
    simp only [List.foldl_cons]
    refine ih ?_ fun x hx => hv x (List.mem_cons_of_mem _ hx)
    unfold mostS; omega
def rGap (c : Config) (ls : List (List Call)) (l : List Point) (f g : Int) : Int × Int × Bool :=
  if f = g ∨ plays c ls l = none then (0, 0, false)
  else if lim ≤ (sums c ls l f g).all then (0, 0, false)
  else match rgapL f g ls l ⟨mkMdl c, [], 0⟩ with
    | none => (0, 0, false)
    | some s => (s.most, (sums c ls l f g).a + (sums c ls l f g).b, true)
def RGood (c : Config) (ls : List (List Call)) (l : List Point) (f g : Int) : Prop :=
  f ≠ g → plays c ls l ≠ none → (sums c ls l f g).all < lim → (∃ s, rgapL f g ls l ⟨mkMdl c, [], 0⟩ = some s) ∧ (sums c ls l f g).ok ∧ (sums c ls l f g).a + (sums c ls l f g).b ≤ 18446744073709551615
instance (o : Option Mdl) : Decidable (o = none) := match o with
  | none => .isTrue rfl
  | some _ => .isFalse (fun h => by cases h)
section
variable {R : Base} {F : List HP} {w : World}
abbrev plCells (c : Config) (lsv : Value) : List Value := [.int .i64 c.shards, .int .i64 c.slots, .int .i64 c.workers, .int .i64 c.width, .int .u64 c.unit, lsv]
set_option maxHeartbeats 1000000 in
theorem r27_Gap {c : Config} {lsv xv : Value} {ls : List (List Call)} {l : List Point} (hP : RLists lsv ls R.h) (hX : RPoints xv l R.h) (hls : listsOk ls) (hl : l.length ≤ 1000000) (f g : Int) (hgd : RGood c ls l f g) (hH : Holds R F w) :
    Ret Tryz.prog 15 [vPlan c lsv, xv, .int .i64 f, .int .i64 g] w fun v w' => v = .tuple #[.int .u64 (rGap c ls l f g).1, .int .u64 (rGap c ls l f g).2.1, .bool (rGap c ls l f g).2.2] ∧ Holds R F w' := by
  have hX' := hX
  obtain ⟨sl, rfl, hsr, hsp⟩ := hX'
  obtain ⟨a, cap, rfl, -⟩ := hsr.len
  by_cases hfg : f = g
  ·rw [show rGap c ls (sl.map Prod.fst) f g = (0, 0, false) from by unfold rGap; rw [if_pos (.inl hfg)]]
   refine ret_of_g (n := 166) Tryz.func15 rfl rfl (by simp) ?_
   refine g_seq ?_
   refine g_region (l := [0, 1, 2, 3]) rfl ?_
   refine o_box (lv rfl) rfl (cs := [_, _, _, _, _, _]) rfl rfl hH ?_
   intro b4 w hH
   refine vA (lv rfl) rfl rfl ?_
   refine vA (lv rfl) rfl rfl ?_
   refine vA (lv rfl) rfl rfl ?_
   refine g_seq ?_
   refine g_seq ?_
   refine g_region (l := [0, 1, 2, 3, 4, 5, 6, 7, 8]) rfl ?_
   refine vM (lv rfl) rfl rfl ?_
   refine vM (lv rfl) rfl rfl ?_
   refine o_v (lv rfl) rfl (r_eq rfl rfl) ?_
   refine vM (lv rfl) rfl rfl ?_
   refine s_ops (fun g1_3 => ?_) (fun g1_3 => ?_)
   ·refine o_no rfl rfl rfl rfl ?_
    refine o_no rfl rfl rfl rfl ?_
    refine o_no rfl rfl rfl rfl ?_
    refine o_no rfl rfl rfl rfl ?_
    refine o_v (lv rfl) rfl (r_pickT rfl rfl) ?_
    refine g_true rfl ?_
    refine g_seq ?_
    refine g_region (l := [0, 1, 2]) rfl ?_
    refine vA (lv rfl) rfl rfl ?_
    refine vA (lv rfl) rfl rfl ?_
    refine vA (lv rfl) rfl rfl ?_
    refine g_rq Tryz.func15 (res_t rfl (res_t rfl (res_t rfl res_0))) ?_
    exact ⟨rfl, (hH.sel (by repeat' (first | exact Sel.refl _ | refine Sel.skip _ ?_)))⟩
   ·exact absurd hfg g1_3
  cases hp0 : plays c ls (sl.map Prod.fst) with
  | none =>
    rw [show rGap c ls (sl.map Prod.fst) f g = (0, 0, false) from by unfold rGap; rw [if_pos (.inr hp0)]]
    refine ret_of_g (n := 166) Tryz.func15 rfl rfl (by simp) ?_
    refine g_seq ?_
    refine g_region (l := [0, 1, 2, 3]) rfl ?_
    refine o_box (lv rfl) rfl (cs := [_, _, _, _, _, _]) rfl rfl hH ?_
    intro b4 w hH
    refine vA (lv rfl) rfl rfl ?_
    refine vA (lv rfl) rfl rfl ?_
    refine vA (lv rfl) rfl rfl ?_
    refine g_seq ?_
    refine g_seq ?_
    refine g_region (l := [0, 1, 2, 3, 4, 5, 6, 7, 8]) rfl ?_
    refine vM (lv rfl) rfl rfl ?_
    refine vM (lv rfl) rfl rfl ?_
    refine o_v (lv rfl) rfl (r_eq rfl rfl) ?_
    refine vM (lv rfl) rfl rfl ?_
    refine s_ops (fun g1_3 => ?_) (fun g1_3 => ?_)
    ·exact absurd g1_3 hfg
    ·refine o_ldN (lvg rfl rfl rfl) rfl lk_28 rfl ⟨_, _, _, hH.c0, [_, _, _, _, _, _], rfl, rfl, ?_⟩
     refine vM (lvg rfl rfl rfl) rfl rfl ?_
     refine o_call (lvg rfl rfl rfl) rfl en_20 rfl (r27_Plays (c := c) hP hX hls hl hH) ?_
     rintro _ w hv
     rw [hp0] at hv; obtain ⟨rfl, hH⟩ := hv
     refine o_v (lvg rfl rfl rfl) rfl (r_eqpn pp_42 rfl rfl) ?_
     refine o_v (lv rfl) rfl (r_pickF rfl rfl) ?_
     refine g_true rfl ?_
     refine g_seq ?_
     refine g_region (l := [0, 1, 2]) rfl ?_
     refine vA (lv rfl) rfl rfl ?_
     refine vA (lv rfl) rfl rfl ?_
     refine vA (lv rfl) rfl rfl ?_
     refine g_rq Tryz.func15 (res_t rfl (res_t rfl (res_t rfl res_0))) ?_
     exact ⟨rfl, (hH.sel (by repeat' (first | exact Sel.refl _ | refine Sel.skip _ ?_)))⟩
  | some m0 =>
    have hcfg : cfgOk c := by
      unfold plays at hp0
      split at hp0
      ·assumption
      ·cases hp0
    have hplen := plays_len hp0
    rw [List.length_map] at hl
    have hl' : (sl.map Prod.fst).length ≤ 1000000 := by rw [List.length_map]; exact hl
    by_cases hall : lim ≤ (sums c ls (sl.map Prod.fst) f g).all
    ·rw [show rGap c ls (sl.map Prod.fst) f g = (0, 0, false) from by unfold rGap; rw [if_neg (by rw [hp0]; simp [hfg]), if_pos hall]]
     refine ret_of_g (n := 166) Tryz.func15 rfl rfl (by simp) ?_
     refine g_seq ?_
     refine g_region (l := [0, 1, 2, 3]) rfl ?_
     refine o_box (lv rfl) rfl (cs := [_, _, _, _, _, _]) rfl rfl hH ?_
     intro b4 w hH
     refine vA (lv rfl) rfl rfl ?_
     refine vA (lv rfl) rfl rfl ?_
     refine vA (lv rfl) rfl rfl ?_
     refine g_seq ?_
     refine g_seq ?_
     refine g_region (l := [0, 1, 2, 3, 4, 5, 6, 7, 8]) rfl ?_
     refine vM (lv rfl) rfl rfl ?_
     refine vM (lv rfl) rfl rfl ?_
     refine o_v (lv rfl) rfl (r_eq rfl rfl) ?_
     refine vM (lv rfl) rfl rfl ?_
     refine s_ops (fun g1_3 => ?_) (fun g1_3 => ?_)
     ·exact absurd g1_3 hfg
     ·refine o_ldN (lvg rfl rfl rfl) rfl lk_28 rfl ⟨_, _, _, hH.c0, [_, _, _, _, _, _], rfl, rfl, ?_⟩
      refine vM (lvg rfl rfl rfl) rfl rfl ?_
      refine o_call (lvg rfl rfl rfl) rfl en_20 rfl (r27_Plays (c := c) hP hX hls hl' hH) ?_
      rintro _ w hv
      rw [hp0] at hv; obtain ⟨bp0, rfl, hH⟩ := hv
      refine o_v (lvg rfl rfl rfl) rfl (r_eqpn pp_42 rfl rfl) ?_
      refine o_v (lv rfl) rfl (r_pickF rfl rfl) ?_
      refine g_false rfl ?_
      refine g_skip ?_
      refine g_seq ?_
      refine g_region (l := [0, 1, 2, 3, 4, 5, 6, 7, 8, 9, 10, 11]) rfl ?_
      refine o_ldN (lv rfl) rfl lk_28 rfl ⟨_, _, _, hH.c1, [_, _, _, _, _, _], rfl, rfl, ?_⟩
      refine vM (lv rfl) rfl rfl ?_
      refine vM (lv rfl) rfl rfl ?_
      refine vM (lv rfl) rfl rfl ?_
      refine o_call (lv rfl) rfl en_47 rfl (r27_Sums hcfg hP hX hls hl' f g hH) ?_
      rintro _ w ⟨rfl, hH⟩
      refine vM (lv rfl) rfl rfl ?_
      refine o_v (lv rfl) rfl (r_ex rfl rfl) ?_
      refine o_v (lv rfl) rfl (r_ex rfl rfl) ?_
      refine o_v (lv rfl) rfl (r_ex rfl rfl) ?_
      refine vA (lv rfl) rfl rfl ?_
      refine vA (lv rfl) rfl rfl ?_
      refine vA (lv rfl) rfl rfl ?_
      refine g_seq ?_
      refine g_seq ?_
      refine g_region (l := [0, 1]) rfl ?_
      refine vM (lv rfl) rfl rfl ?_
      refine o_v (lv rfl) rfl (r_ge rfl rfl) ?_
      refine g_if rfl (fun c1 => ?_) (fun c1 => ?_)
      ·refine g_seq ?_
       refine g_region (l := [0, 1, 2]) rfl ?_
       refine vA (lv rfl) rfl rfl ?_
       refine vA (lv rfl) rfl rfl ?_
       refine vA (lv rfl) rfl rfl ?_
       refine g_rq Tryz.func15 (res_t rfl (res_t rfl (res_t rfl res_0))) ?_
       exact ⟨rfl, (hH.sel (by repeat' (first | exact Sel.refl _ | refine Sel.skip _ ?_)))⟩
      ·exact absurd hall c1
    ·obtain ⟨⟨rs, hrs⟩, hsok, hab⟩ := hgd hfg (by rw [hp0]; simp) (by unfold lim at *; omega)
     rw [show rGap c ls (sl.map Prod.fst) f g = (rs.most, (sums c ls (sl.map Prod.fst) f g).a + (sums c ls (sl.map Prod.fst) f g).b, true) from by unfold rGap; rw [if_neg (by rw [hp0]; simp [hfg]), if_neg hall, hrs]]
     have hsa := hsok.2.1
     have hsb := hsok.2.2
     unfold U at hsa hsb
     rw [show sl.map Prod.fst = (sl.map Prod.fst).drop 0 from rfl] at hrs
     refine ret_of_g (n := 166) Tryz.func15 rfl rfl (by simp) ?_
     refine g_seq ?_
     refine g_region (l := [0, 1, 2, 3]) rfl ?_
     refine o_box (lv rfl) rfl (cs := [_, _, _, _, _, _]) rfl rfl hH ?_
     intro b4 w hH
     refine vA (lv rfl) rfl rfl ?_
     refine vA (lv rfl) rfl rfl ?_
     refine vA (lv rfl) rfl rfl ?_
     refine g_seq ?_
     refine g_seq ?_
     refine g_region (l := [0, 1, 2, 3, 4, 5, 6, 7, 8]) rfl ?_
     refine vM (lv rfl) rfl rfl ?_
     refine vM (lv rfl) rfl rfl ?_
     refine o_v (lv rfl) rfl (r_eq rfl rfl) ?_
     refine vM (lv rfl) rfl rfl ?_
     refine s_ops (fun g1_3 => ?_) (fun g1_3 => ?_)
     ·exact absurd g1_3 hfg
     ·refine o_ldN (lvg rfl rfl rfl) rfl lk_28 rfl ⟨_, _, _, hH.c0, [_, _, _, _, _, _], rfl, rfl, ?_⟩
      refine vM (lvg rfl rfl rfl) rfl rfl ?_
      refine o_call (lvg rfl rfl rfl) rfl en_20 rfl (r27_Plays (c := c) hP hX hls hl' hH) ?_
      rintro _ w hv
      rw [hp0] at hv; obtain ⟨bp0, rfl, hH⟩ := hv
      refine o_v (lvg rfl rfl rfl) rfl (r_eqpn pp_42 rfl rfl) ?_
      refine o_v (lv rfl) rfl (r_pickF rfl rfl) ?_
      refine g_false rfl ?_
      refine g_skip ?_
      refine g_seq ?_
      refine g_region (l := [0, 1, 2, 3, 4, 5, 6, 7, 8, 9, 10, 11]) rfl ?_
      refine o_ldN (lv rfl) rfl lk_28 rfl ⟨_, _, _, hH.c1, [_, _, _, _, _, _], rfl, rfl, ?_⟩
      refine vM (lv rfl) rfl rfl ?_
      refine vM (lv rfl) rfl rfl ?_
      refine vM (lv rfl) rfl rfl ?_
      refine o_call (lv rfl) rfl en_47 rfl (r27_Sums hcfg hP hX hls hl' f g hH) ?_
      rintro _ w ⟨rfl, hH⟩
      refine vM (lv rfl) rfl rfl ?_
      refine o_v (lv rfl) rfl (r_ex rfl rfl) ?_
      refine o_v (lv rfl) rfl (r_ex rfl rfl) ?_
      refine o_v (lv rfl) rfl (r_ex rfl rfl) ?_
      refine vA (lv rfl) rfl rfl ?_
      refine vA (lv rfl) rfl rfl ?_
      refine vA (lv rfl) rfl rfl ?_
      refine g_seq ?_
      refine g_seq ?_
      refine g_region (l := [0, 1]) rfl ?_
      refine vM (lv rfl) rfl rfl ?_
      refine o_v (lv rfl) rfl (r_ge rfl rfl) ?_
      refine g_if rfl (fun c1 => ?_) (fun c1 => ?_)
      ·exact absurd c1 hall
      ·refine g_skip ?_
       refine g_seq ?_
       refine g_region (l := [0, 1, 2, 3]) rfl ?_
       refine o_v (lv rfl) rfl (r_fa fa_28_0 rfl) ?_
       refine o_ldN (lv rfl) rfl lk_24 rfl ⟨_, _, _, hH.c1, [_, _, _, _, _], rfl, rfl, ?_⟩
       refine o_call (lv rfl) rfl en_42 rfl (r09_NewModel c hH) ?_
       rintro _ w ⟨bm, rfl, hH⟩
       refine vA (lv rfl) rfl rfl ?_
       refine g_seq ?_
       refine g_region (l := [0]) rfl ?_
       refine vA (lv rfl) rfl rfl ?_
       refine g_seq ?_
       refine g_region (l := [0]) rfl ?_
       refine vA (lv rfl) rfl rfl ?_
       refine g_seq ?_
       refine g_seq ?_
       refine g_region (l := [0]) rfl ?_
       refine vA (lv rfl) rfl rfl ?_
       refine g_block ?_
       refine g_loop (fun mm e w => ∃ (k : Nat) (e0 : Env) (mk : Mdl) (fr : List Int) (most : Int) (fv : Value), k ≤ sl.length ∧ mm = sl.length - k ∧ mk.ok k ∧ fr.length ≤ k ∧ (0 ≤ most ∧ most < 4611686018427387904) ∧ rgapL f g ls ((sl.map Prod.fst).drop k) ⟨mk, fr, most⟩ = some rs ∧
           e = J e0 [(1, .slice a sl.length cap), (2, .int .i64 f), (3, .int .i64 g), (4, .pointer (some ⟨b4, 0, none⟩)), (12, .int .u64 (sums c ls (sl.map Prod.fst) f g).a), (13, .int .u64 (sums c ls (sl.map Prod.fst) f g).b), (14, .pointer (some ⟨bm, 0, none⟩)), (15, .int .i64 most), (16, fv), (17, .int .i64 k)] ∧
           Holds R (RMdlC bm mk :: Vec 2 1 encI fv fr :: cel b4 (plCells c lsv) 28 :: F) w) sl.length ⟨0, _, mkMdl c, [], 0, _, by omega, by omega, mkMdl_ok c hcfg, by simp, by omega, hrs, (J_self (has_s rfl (has_s rfl (has_s rfl (has_s rfl (has_s rfl (has_s rfl (has_s rfl (has_s rfl (has_s rfl (has_s rfl has_0))))))))))), Holds.p1 (Holds.vnil _ _ _ (hH.sel (by repeat' (first | exact Sel.refl _ | refine Sel.q0 ?_ | refine Sel.q1 ?_ | refine Sel.skip _ ?_))))⟩ ?_
       rintro mm _ w ⟨k, e0, mk, fr, most, fv, hk, hm, hmk, hfl, hmost, hgo, rfl, hH⟩ hback
       obtain ⟨fa, fcap, rfl, -⟩ := hH.p1.rd.len
       refine g_seq ?_
       refine g_seq ?_
       refine g_region (l := [0, 1, 2, 3]) rfl ?_
       refine vM (lv rfl) rfl rfl ?_
       refine vM (lv rfl) rfl rfl ?_
       refine o_v (lv rfl) rfl (r_len el_30 rfl) ?_
       refine o_v (lv rfl) rfl (r_le rfl rfl) ?_
       refine g_if rfl (fun c2 => ?_) (fun c2 => ?_)
       ·refine g_skip ?_
        refine g_seq ?_
        refine g_block ?_
        refine g_seq ?_
        refine g_seq ?_
        refine g_join (fun e w => ∃ (e0 : Env), e = J e0 [(1, .slice a sl.length cap), (2, .int .i64 f), (3, .int .i64 g), (4, .pointer (some ⟨b4, 0, none⟩)), (12, .int .u64 (sums c ls (sl.map Prod.fst) f g).a), (13, .int .u64 (sums c ls (sl.map Prod.fst) f g).b), (14, .pointer (some ⟨bm, 0, none⟩)), (15, .int .i64 most), (16, .slice fa fr.length fcap), (17, .int .i64 k), (63, .bool (decide (mk.s.lenAt f < 1 ∨ mk.s.lenAt g < 1)))] ∧ Holds R (RMdlC bm mk :: Vec 2 1 encI (.slice fa fr.length fcap) fr :: cel b4 (plCells c lsv) 28 :: F) w) (fun kk hkk => ?_) ?_
        ·refine g_region (l := [0, 1, 2, 3, 4, 5, 6, 7, 8, 9]) rfl ?_
         refine vM (lv rfl) rfl rfl ?_
         refine vM (lv rfl) rfl rfl ?_
         refine o_call (lv rfl) rfl en_30 rfl (r09_Len hmk.2.1 _ hH) ?_
         rintro _ w ⟨rfl, hH⟩
         refine o_v (lv rfl) rfl (r_lt rfl rfl) ?_
         refine vM (lv rfl) rfl rfl ?_
         refine s_ops (fun g12_4 => ?_) (fun g12_4 => ?_)
         ·refine o_no rfl rfl rfl rfl ?_
          refine o_no rfl rfl rfl rfl ?_
          refine o_no rfl rfl rfl rfl ?_
          refine o_no rfl rfl rfl rfl ?_
          refine o_v (lv rfl) rfl (r_pickT rfl rfl) ?_
          (have hde : decide (mk.s.lenAt f < 1 ∨ mk.s.lenAt g < 1) = true := decide_eq_true (.inl g12_4)
           exact hkk _ _ ⟨_, by rw [hde]; exact (J_self (has_s rfl (has_s rfl (has_s rfl (has_s rfl (has_s rfl (has_s rfl (has_s rfl (has_s rfl (has_s rfl (has_s rfl (has_s rfl has_0)))))))))))), (hH.sel (by repeat' (first | exact Sel.refl _)))⟩)
         ·refine vM (lvg rfl rfl rfl) rfl rfl ?_
          refine vM (lvg rfl rfl rfl) rfl rfl ?_
          refine o_call (lvg rfl rfl rfl) rfl en_30 rfl (r09_Len hmk.2.1 _ hH) ?_
          rintro _ w ⟨rfl, hH⟩
          refine o_v (lvg rfl rfl rfl) rfl (r_lt rfl rfl) ?_
          refine o_v (lv rfl) rfl (r_pickF rfl rfl) ?_
          (have hde : decide (mk.s.lenAt f < 1 ∨ mk.s.lenAt g < 1) = decide (mk.s.lenAt g < 1) := by rw [decide_eq_decide]; exact ⟨fun h => h.resolve_left g12_4, .inr⟩
           exact hkk _ _ ⟨_, by rw [hde]; exact (J_self (has_s rfl (has_s rfl (has_s rfl (has_s rfl (has_s rfl (has_s rfl (has_s rfl (has_s rfl (has_s rfl (has_s rfl (has_s rfl has_0)))))))))))), (hH.sel (by repeat' (first | exact Sel.refl _)))⟩)
        ·rintro _ w ⟨e9, rfl, hH⟩
         refine g_join (fun e w => ∃ (e0 : Env) (fv1 : Value), e = J e0 [(1, .slice a sl.length cap), (2, .int .i64 f), (3, .int .i64 g), (4, .pointer (some ⟨b4, 0, none⟩)), (12, .int .u64 (sums c ls (sl.map Prod.fst) f g).a), (13, .int .u64 (sums c ls (sl.map Prod.fst) f g).b), (14, .pointer (some ⟨bm, 0, none⟩)), (15, .int .i64 most), (16, fv1), (17, .int .i64 k)] ∧ Holds R (RMdlC bm mk :: Vec 2 1 encI fv1 (rFrom mk f g fr) :: cel b4 (plCells c lsv) 28 :: F) w) (fun kk hkk => ?_) ?_
         ·refine g_if rfl (fun c3 => ?_) (fun c3 => ?_)
          ·refine g_region (l := [0]) rfl ?_
           refine vA (lv rfl) rfl rfl ?_
           (have hfr : rFrom mk f g fr = [] := by unfold rFrom; rw [if_pos c3]
            exact hkk _ _ ⟨_, _, (J_self (has_s rfl (has_s rfl (has_s rfl (has_s rfl (has_s rfl (has_s rfl (has_s rfl (has_s rfl (has_s rfl (has_s rfl has_0))))))))))), by rw [hfr]; exact Holds.p1 (Holds.vnil _ _ _ (hH.sel (by repeat' (first | exact Sel.refl _ | refine Sel.q0 ?_ | refine Sel.q1 ?_ | refine Sel.skip _ ?_))))⟩)
          ·refine g_region (l := [0, 1, 2, 3]) rfl ?_
           refine vM (lv rfl) rfl rfl ?_
           refine o_bs (lv rfl) rfl el_96 ze_2 rfl rfl rfl (ps := [_]) rfl rfl rfl (cs := [_]) rfl hH ?_
           intro b65 w hH
           refine o_app (enc := encI) (lv rfl) rfl el_96 ze_2 rfl (fun _ => rfl) (fun _ => rfl) rfl rfl (by exact hH.p2) (rd_of_cel [(0 : Int)] (by exact hH.c0) rfl) (by simp; omega) (by simp; omega) ?_
           intro v66 w hH; obtain ⟨a66, k66, rfl, -⟩ := hH.rd.len
           refine vA (lv rfl) rfl rfl ?_
           (have hfr : rFrom mk f g fr = fr ++ [0] := by unfold rFrom; rw [if_neg c3]
            exact hkk _ _ ⟨_, _, (J_self (has_s rfl (has_s rfl (has_s rfl (has_s rfl (has_s rfl (has_s rfl (has_s rfl (has_s rfl (has_s rfl (has_s rfl has_0))))))))))), by rw [hfr]; exact (hH.sel (by repeat' (first | exact Sel.refl _ | refine Sel.q0 ?_ | refine Sel.q1 ?_ | refine Sel.q2 ?_ | refine Sel.skip _ ?_)))⟩)
         ·rintro _ w ⟨e1, fv1, rfl, hH⟩
          have hfrl : (rFrom mk f g fr).length ≤ k + 1 := by unfold rFrom; split <;> simp; omega
          refine g_seq ?_
          refine g_seq ?_
          refine g_region (l := [0, 1, 2, 3]) rfl ?_
          refine vM (lv rfl) rfl rfl ?_
          refine vM (lv rfl) rfl rfl ?_
          refine o_v (lv rfl) rfl (r_len el_30 rfl) ?_
          refine o_v (lv rfl) rfl (r_eq rfl rfl) ?_
          refine g_if rfl (fun c4 => ?_) (fun c4 => ?_)
          ·refine g_exit rfl ?_
           refine g_seq ?_
           refine g_region (l := [0, 1, 2, 3, 4, 5, 6, 7]) rfl ?_
           refine vM (lv rfl) rfl rfl ?_
           refine o_v (lv rfl) rfl (r_cvU un_2 kn_22 rfl ?_) ?_; omega
           refine vM (lv rfl) rfl rfl ?_
           refine vM (lv rfl) rfl rfl ?_
           refine o_v (lv rfl) rfl (r_addU rfl rfl ?_) ?_; omega
           refine vA (lv rfl) rfl rfl ?_
           refine vA (lv rfl) rfl rfl ?_
           refine vA (lv rfl) rfl rfl ?_
           refine g_rq Tryz.func15 (res_t rfl (res_t rfl (res_t rfl res_0))) ?_
           rw [List.drop_of_length_le (by simp; omega)] at hgo
           cases hgo
           exact ⟨rfl, (hH.sel (by repeat' (first | exact Sel.refl _ | refine Sel.skip _ ?_)))⟩
          ·have hkl : k < sl.length := by omega
           obtain ⟨⟨x, pv⟩, hx⟩ : ∃ x, sl[k]? = some x := ⟨_, List.getElem?_eq_getElem hkl⟩
           have hxm : (sl.map Prod.fst)[k]? = some x := by rw [List.getElem?_map, hx]; rfl
           have hpr : Rd encP pv x.ret.packets R.h := hsp _ (List.mem_of_getElem? hx)
           have hx16 := hplen x (List.mem_of_getElem? hxm)
           have hxok := (plays_ok hls hl' hp0 x (List.mem_of_getElem? hxm)).2.2.2.1
           obtain ⟨pa, pcap, rfl, hpc⟩ := hpr.len
           obtain ⟨bp, op_, cs, T, hae, hbp, hcp0⟩ := Rd.el hkPt hsr hx
           have hsx : Value.slice a sl.length cap = .slice (some ⟨bp, op_, none⟩) sl.length cap := by rw [hae]
           rw [hae]; rw [hae] at hback
           have hcp := dt_of hcp0
           have hcps := hcp0 4 _ rfl
           have hco := callOf_ok hls x
           have hdo := Mdl.do_ok hmk (by omega) hco
           rw [drop_S hxm] at hgo
           obtain ⟨d, hd, hsm, hgo⟩ := rgapL_S hgo
           dsimp only at hd hsm hgo
           refine g_skip ?_
           refine g_seq ?_
           refine g_join (fun e w => ∃ (e0 : Env) (b18 : Nat), e = J e0 [(1, .slice (some ⟨bp, op_, none⟩) sl.length cap), (2, .int .i64 f), (3, .int .i64 g), (4, .pointer (some ⟨b4, 0, none⟩)), (12, .int .u64 (sums c ls (sl.map Prod.fst) f g).a), (13, .int .u64 (sums c ls (sl.map Prod.fst) f g).b), (14, .pointer (some ⟨bm, 0, none⟩)), (15, .int .i64 most), (16, fv1), (17, .int .i64 k), (18, .pointer (some ⟨b18, 0, none⟩))] ∧ Holds R (RMdlC bm mk :: Vec 2 1 encI fv1 (rFrom mk f g fr) :: cel b18 [.int .i64 (callOf ls x).1.op, .int .i64 (callOf ls x).1.flow, .int .i64 (callOf ls x).1.a, .int .i64 (callOf ls x).1.b] 46 :: cel b4 (plCells c lsv) 28 :: F) w) (fun kk hkk => ?_) ?_
           ·refine rD mixed hH fun w hH => ?_
            refine d_ldN (i := 0) [5, 10] (lv rfl) rfl lk_28 rfl (by kernel_rfl) ⟨_, _, _, hH.c2, [_, _, _, _, _, _], rfl, rfl, ?_⟩
            refine pM 1 (lv rfl) rfl rfl ?_
            refine pM 2 (lv rfl) rfl rfl ?_
            refine d_p (i := 3) (lv rfl) rfl (fun w => (r_ia el_30 rfl rfl ?_ ?_)) (by kernel_rfl) ?_; omega; omega
            refine d_ldN (i := 4) [5, 10] (lv rfl) rfl lk_59 rfl (by kernel_rfl) ⟨_, _, _, hH.old hbp, _, hcp, rfl, ?_⟩
            refine d_l2 (j := 5) (j2 := 9) (by kernel_rfl) ?_ ?_
            ·refine o_call (lv rfl) rfl en_48 rfl (r27_Call (c := c) hP (by have := hls.1; omega) x hH) ?_
             rintro _ w ⟨rfl, hH⟩
             refine ⟨(keeps_in rfl (keeps_in rfl trivial)), ?_⟩
             refine pM 6 (lv rfl) rfl rfl ?_
             refine pE 7 (lv rfl) rfl rfl rfl ?_
             refine pE 8 (lv rfl) rfl rfl rfl ?_
             refine d_l (j := 9) (by kernel_rfl) ?_
             refine o_al (lv rfl) rfl ze_46 hH ?_
             intro b18 w hH
             refine ⟨(keeps_cons (fun _ => (by exact hH.old ‹_›)) (keeps_cons (fun _ => (by exact hH.c3)) trivial)), ?_⟩
             refine d_l (j := 10) (by kernel_rfl) ?_
             refine o_st (lv rfl) rfl lk_46 rfl (vs := [_, _, _, _]) rfl rfl (by exact hH) rfl rfl (by simp) rfl ?_
             intro w hH; dsimp only [setL, List.set] at hH
             refine ⟨(keeps_in rfl (keeps_in rfl trivial)), ?_⟩
             refine pA 11 (lv rfl) rfl rfl ?_
             refine d_end (by kernel_rfl) ?_
             exact hkk _ _ ⟨_, _, (J_self (has_s rfl (has_s rfl (has_s rfl (has_s rfl (has_s rfl (has_s rfl (has_s rfl (has_s rfl (has_s rfl (has_s rfl (has_s rfl has_0)))))))))))), (hH.sel (by repeat' (first | exact Sel.refl _ | refine Sel.q1 ?_)))⟩
            ·refine o_al (lv rfl) rfl ze_46 hH ?_
             intro b18 w hH
             refine ⟨(keeps_cons (fun _ => (by exact hH.old ‹_›)) (keeps_cons (fun _ => (by exact hH.c3)) trivial)), ?_⟩
             refine d_l (j := 5) (by kernel_rfl) ?_
             refine o_call (lv rfl) rfl en_48 rfl (r27_Call (c := c) hP (by have := hls.1; omega) x hH) ?_
             rintro _ w ⟨rfl, hH⟩
             refine ⟨(keeps_in rfl (keeps_in rfl trivial)), ?_⟩
             refine pM 6 (lv rfl) rfl rfl ?_
             refine pE 7 (lv rfl) rfl rfl rfl ?_
             refine pE 8 (lv rfl) rfl rfl rfl ?_
             refine d_l (j := 10) (by kernel_rfl) ?_
             refine o_st (lv rfl) rfl lk_46 rfl (vs := [_, _, _, _]) rfl rfl (by exact hH) rfl rfl (by simp) rfl ?_
             intro w hH; dsimp only [setL, List.set] at hH
             refine ⟨(keeps_in rfl (keeps_in rfl trivial)), ?_⟩
             refine pA 11 (lv rfl) rfl rfl ?_
             refine d_end (by kernel_rfl) ?_
             exact hkk _ _ ⟨_, _, (J_self (has_s rfl (has_s rfl (has_s rfl (has_s rfl (has_s rfl (has_s rfl (has_s rfl (has_s rfl (has_s rfl (has_s rfl (has_s rfl has_0)))))))))))), (hH.sel (by repeat' (first | exact Sel.refl _ | refine Sel.q1 ?_)))⟩
           ·rintro _ w ⟨e2, b18, rfl, hH⟩
            refine g_seq ?_
            refine g_region (l := [0]) rfl ?_
            refine vA (lv rfl) rfl rfl ?_
            refine g_seq ?_
            refine g_seq ?_
            refine g_region (l := [0]) rfl ?_
            refine vA (lv rfl) rfl rfl ?_
            refine g_block ?_
            refine g_loop (fun mm e w => ∃ (j : Nat) (e0 : Env) (dd : Int) (fv1 : Value), j ≤ x.ret.packets.length ∧ mm = x.ret.packets.length - j ∧ smallI dd ∧ rTells mk f g (x.ret.packets.drop j) dd = some d ∧
                e = J e0 [(1, .slice (some ⟨bp, op_, none⟩) sl.length cap), (2, .int .i64 f), (3, .int .i64 g), (4, .pointer (some ⟨b4, 0, none⟩)), (12, .int .u64 (sums c ls (sl.map Prod.fst) f g).a), (13, .int .u64 (sums c ls (sl.map Prod.fst) f g).b), (14, .pointer (some ⟨bm, 0, none⟩)), (15, .int .i64 most), (16, fv1), (17, .int .i64 k), (18, .pointer (some ⟨b18, 0, none⟩)), (20, .int .i64 dd), (21, .int .i64 j)] ∧
                Holds R (RMdlC bm mk :: Vec 2 1 encI fv1 (rFrom mk f g fr) :: cel b18 [.int .i64 (callOf ls x).1.op, .int .i64 (callOf ls x).1.flow, .int .i64 (callOf ls x).1.a, .int .i64 (callOf ls x).1.b] 46 :: cel b4 (plCells c lsv) 28 :: F) w) x.ret.packets.length ⟨0, _, 0, _, by omega, by omega, by unfold smallI; omega, hd, (J_self (has_s rfl (has_s rfl (has_s rfl (has_s rfl (has_s rfl (has_s rfl (has_s rfl (has_s rfl (has_s rfl (has_s rfl (has_s rfl (has_s rfl (has_s rfl has_0)))))))))))))), (hH.sel (by repeat' (first | exact Sel.refl _)))⟩ ?_
            rintro mm2 _ w ⟨j, e1, dd, fv1, hj, hm2, hdd, hte, rfl, hH⟩ hback2
            obtain ⟨fa1, fcap1, rfl, -⟩ := hH.p1.rd.len
            have hdd' := hdd; unfold smallI at hdd'
            refine g_seq ?_
            refine g_seq ?_
            refine g_region (l := [0, 1, 2, 3, 4, 5, 6, 7, 8]) rfl ?_
            refine vM (lv rfl) rfl rfl ?_
            refine vM (lv rfl) rfl rfl ?_
            refine vM (lv rfl) rfl rfl ?_
            refine o_v (lv rfl) rfl (r_ia el_30 rfl rfl ?_ ?_) ?_; omega; omega
            refine o_v (lv rfl) rfl (r_fa fa_59_3 rfl) ?_
            refine o_v (lv rfl) rfl (r_fa fa_57_1 rfl) ?_
            refine o_ld (lv rfl) rfl lk_48 rfl ⟨_, _, _, hH.old hbp, _, hcps, ?_⟩
            refine o_v (lv rfl) rfl (r_len el_48 rfl) ?_
            refine o_v (lv rfl) rfl (r_lt rfl rfl) ?_
            refine g_if rfl (fun c5 => ?_) (fun c5 => ?_)
            ·have hjl : j < x.ret.packets.length := by omega
             obtain ⟨p, hp2⟩ : ∃ p, x.ret.packets[j]? = some p := ⟨_, List.getElem?_eq_getElem hjl⟩
             obtain ⟨bx, ox, csx, Tx, hpe, hbx, hcx0⟩ := Rd.el hkP hpr hp2
             rw [hpe]; rw [hpe] at hcps
             have hcx := dt_of hcx0
             have hpok := hxok p (List.mem_of_getElem? hp2)
             unfold Packet.ok I at hpok
             rw [show x.ret.packets.drop j = p :: x.ret.packets.drop (j + 1) from by
               obtain ⟨h1, h2⟩ := List.getElem?_eq_some_iff.1 hp2
               rw [List.drop_eq_getElem_cons h1, h2]] at hte
             obtain ⟨hr1, hr2, hr3, hr4⟩ := rTells_S hte
             have hr1' := hr1; unfold costOf at hr1'
             have hcu : U (satMul (max p.len 0) (mk.s.rate p.flow)) := satMul_U (by unfold U; omega) (rate_U hmk.2.1 _)
             have hcu' := hcu; unfold U at hcu'
             refine g_skip ?_
             refine g_seq ?_
             refine g_block ?_
             refine g_seq ?_
             refine g_region (l := [0, 1, 2, 3, 4, 5, 6, 7, 8, 9, 10]) rfl ?_
             refine vM (lv rfl) rfl rfl ?_
             refine vM (lv rfl) rfl rfl ?_
             refine o_v (lv rfl) rfl (r_ia el_30 rfl rfl ?_ ?_) ?_; omega; omega
             refine o_v (lv rfl) rfl (r_fa fa_59_3 rfl) ?_
             refine o_v (lv rfl) rfl (r_fa fa_57_1 rfl) ?_
             refine o_ld (lv rfl) rfl lk_48 rfl ⟨_, _, _, hH.old hbp, _, hcps, ?_⟩
             refine vM (lv rfl) rfl rfl ?_
             refine o_v (lv rfl) rfl (r_ia el_48 rfl rfl ?_ ?_) ?_; omega; omega
             refine o_ldN (lv rfl) rfl lk_54 rfl ⟨_, _, _, hH.old hbx, _, hcx, rfl, ?_⟩
             refine o_al (lv rfl) rfl ze_54 hH ?_
             intro b22 w hH
             refine o_st (lv rfl) rfl lk_54 rfl (vs := [_, _, _]) rfl rfl (by exact hH) rfl rfl (by simp) rfl ?_
             intro w hH; dsimp only [setL, List.set] at hH
             refine g_seq ?_
             refine rD mixed hH fun w hH => ?_
             refine pF 0 (lv rfl) rfl fa_54_1 rfl ?_
             refine d_ld (i := 1) [6] (lv rfl) rfl lk_3 rfl (by kernel_rfl) ⟨_, _, _, hH.c0, _, rfl, ?_⟩
             refine pM 2 (lv rfl) rfl rfl ?_
             refine pF 3 (lv rfl) rfl fa_54_0 rfl ?_
             refine d_ld (i := 4) [5, 6] (lv rfl) rfl lk_3 rfl (by kernel_rfl) ⟨_, _, _, hH.c0, _, rfl, ?_⟩
             refine d_l (j := 5) (by kernel_rfl) ?_
             refine o_call (lv rfl) rfl en_50 rfl (r27_rate hmk.2.1 _ (by exact hH.p1)) ?_
             rintro _ w ⟨rfl, hH⟩
             refine ⟨(keeps_in rfl (keeps_cons (fun _ => (by exact hH.c1)) trivial)), ?_⟩
             refine d_l (j := 6) (by kernel_rfl) ?_
             refine o_call (lv rfl) rfl en_49 rfl (r01_Cost p.len _ (by omega) (rate_U hmk.2.1 _) hH) ?_
             rintro _ w ⟨rfl, hH⟩
             refine ⟨(keeps_in rfl (keeps_in rfl trivial)), ?_⟩
             refine d_p (i := 7) (lv rfl) rfl (fun w => (r_cvI un_22 kn_2 rfl ?_)) (by kernel_rfl) ?_; omega
             refine pA 8 (lv rfl) rfl rfl ?_
             refine d_end (by kernel_rfl) ?_
             refine g_seq ?_
             refine g_seq ?_
             refine g_region (l := [0, 1, 2, 3]) rfl ?_
             refine o_v (lv rfl) rfl (r_fa fa_54_0 rfl) ?_
             refine o_ld (lv rfl) rfl lk_3 rfl ⟨_, _, _, hH.c1, _, rfl, ?_⟩
             refine vM (lv rfl) rfl rfl ?_
             refine o_v (lv rfl) rfl (r_eq rfl rfl) ?_
             refine g_if rfl (fun c6 => ?_) (fun c6 => ?_)
             ·have hq2 := hr2
              unfold rD1 smallI at hq2
              rw [if_pos c6] at hq2
              unfold costOf at hq2
              refine g_region (l := [0, 1, 2, 3]) rfl ?_
              refine vM (lv rfl) rfl rfl ?_
              refine vM (lv rfl) rfl rfl ?_
              refine o_v (lv rfl) rfl (r_addI rfl rfl ?_) ?_; omega
              refine vA (lv rfl) rfl rfl ?_
              refine g_seq ?_
              refine g_region (l := [0, 1, 2, 3]) rfl ?_
              refine o_v (lv rfl) rfl (r_fa fa_54_0 rfl) ?_
              refine o_ld (lv rfl) rfl lk_3 rfl ⟨_, _, _, hH.c1, _, rfl, ?_⟩
              refine vM (lv rfl) rfl rfl ?_
              refine o_v (lv rfl) rfl (r_eq rfl rfl) ?_
              refine g_if rfl (fun c7 => ?_) (fun c7 => ?_)
              ·have hq3 := hr3
               unfold rD2 rD1 smallI at hq3
               rw [if_pos c7] at hq3
               (rw [if_pos c6] at hq3)
               unfold costOf at hq3
               refine g_region (l := [0, 1, 2, 3]) rfl ?_
               refine vM (lv rfl) rfl rfl ?_
               refine vM (lv rfl) rfl rfl ?_
               refine o_v (lv rfl) rfl (r_subI rfl rfl ?_) ?_; omega
               refine vA (lv rfl) rfl rfl ?_
               refine g_inBlock ?_
               refine g_region (l := [0, 1, 2]) rfl ?_
               refine vM (lv rfl) rfl rfl ?_
               refine o_v (lv rfl) rfl (r_addI rfl rfl ?_) ?_; omega
               refine vA (lv rfl) rfl rfl ?_
               (have he : rD2 mk f g dd p = dd + satMul (max p.len 0) (mk.s.rate p.flow) - satMul (max p.len 0) (mk.s.rate p.flow) := by unfold rD2 rD1; rw [if_pos c7, if_pos c6]; try rfl
                rw [he] at hr3 hr4
                exact hback2 _ _ _ ⟨j + 1, _, _, _, by omega, rfl, hr3, hr4, (J_self (has_s rfl (has_s rfl (has_s rfl (has_s rfl (has_s rfl (has_s rfl (has_s rfl (has_s rfl (has_s rfl (has_s rfl (has_s rfl (has_s rfl (has_s rfl has_0)))))))))))))), (hH.sel (by repeat' (first | exact Sel.refl _ | refine Sel.q0 ?_ | refine Sel.q1 ?_ | refine Sel.skip _ ?_)))⟩ (by omega))
              ·refine g_skip ?_
               refine g_inBlock ?_
               refine g_region (l := [0, 1, 2]) rfl ?_
               refine vM (lv rfl) rfl rfl ?_
               refine o_v (lv rfl) rfl (r_addI rfl rfl ?_) ?_; omega
               refine vA (lv rfl) rfl rfl ?_
               (have he : rD2 mk f g dd p = dd + satMul (max p.len 0) (mk.s.rate p.flow) := by unfold rD2 rD1; rw [if_neg c7, if_pos c6]; try rfl
                rw [he] at hr3 hr4
                exact hback2 _ _ _ ⟨j + 1, _, _, _, by omega, rfl, hr3, hr4, (J_self (has_s rfl (has_s rfl (has_s rfl (has_s rfl (has_s rfl (has_s rfl (has_s rfl (has_s rfl (has_s rfl (has_s rfl (has_s rfl (has_s rfl (has_s rfl has_0)))))))))))))), (hH.sel (by repeat' (first | exact Sel.refl _ | refine Sel.q0 ?_ | refine Sel.q1 ?_ | refine Sel.skip _ ?_)))⟩ (by omega))
             ·refine g_skip ?_
              refine g_seq ?_
              refine g_region (l := [0, 1, 2, 3]) rfl ?_
              refine o_v (lv rfl) rfl (r_fa fa_54_0 rfl) ?_
              refine o_ld (lv rfl) rfl lk_3 rfl ⟨_, _, _, hH.c1, _, rfl, ?_⟩
              refine vM (lv rfl) rfl rfl ?_
              refine o_v (lv rfl) rfl (r_eq rfl rfl) ?_
              refine g_if rfl (fun c7 => ?_) (fun c7 => ?_)
              ·have hq3 := hr3
               unfold rD2 rD1 smallI at hq3
               rw [if_pos c7] at hq3
               (rw [if_neg c6] at hq3)
               unfold costOf at hq3
               refine g_region (l := [0, 1, 2, 3]) rfl ?_
               refine vM (lv rfl) rfl rfl ?_
               refine vM (lv rfl) rfl rfl ?_
               refine o_v (lv rfl) rfl (r_subI rfl rfl ?_) ?_; omega
               refine vA (lv rfl) rfl rfl ?_
               refine g_inBlock ?_
               refine g_region (l := [0, 1, 2]) rfl ?_
               refine vM (lv rfl) rfl rfl ?_
               refine o_v (lv rfl) rfl (r_addI rfl rfl ?_) ?_; omega
               refine vA (lv rfl) rfl rfl ?_
               (have he : rD2 mk f g dd p = dd - satMul (max p.len 0) (mk.s.rate p.flow) := by unfold rD2 rD1; rw [if_pos c7, if_neg c6]; try rfl
                rw [he] at hr3 hr4
                exact hback2 _ _ _ ⟨j + 1, _, _, _, by omega, rfl, hr3, hr4, (J_self (has_s rfl (has_s rfl (has_s rfl (has_s rfl (has_s rfl (has_s rfl (has_s rfl (has_s rfl (has_s rfl (has_s rfl (has_s rfl (has_s rfl (has_s rfl has_0)))))))))))))), (hH.sel (by repeat' (first | exact Sel.refl _ | refine Sel.q0 ?_ | refine Sel.q1 ?_ | refine Sel.skip _ ?_)))⟩ (by omega))
              ·refine g_skip ?_
               refine g_inBlock ?_
               refine g_region (l := [0, 1, 2]) rfl ?_
               refine vM (lv rfl) rfl rfl ?_
               refine o_v (lv rfl) rfl (r_addI rfl rfl ?_) ?_; omega
               refine vA (lv rfl) rfl rfl ?_
               (have he : rD2 mk f g dd p = dd := by unfold rD2 rD1; rw [if_neg c7, if_neg c6]; try rfl
                rw [he] at hr3 hr4
                exact hback2 _ _ _ ⟨j + 1, _, _, _, by omega, rfl, hr3, hr4, (J_self (has_s rfl (has_s rfl (has_s rfl (has_s rfl (has_s rfl (has_s rfl (has_s rfl (has_s rfl (has_s rfl (has_s rfl (has_s rfl (has_s rfl (has_s rfl has_0)))))))))))))), (hH.sel (by repeat' (first | exact Sel.refl _ | refine Sel.q0 ?_ | refine Sel.q1 ?_ | refine Sel.skip _ ?_)))⟩ (by omega))
            ·obtain rfl : dd = d := by
               rw [List.drop_of_length_le (by omega)] at hte; cases hte; rfl
             refine g_exit rfl ?_
             refine g_seq ?_
             refine g_region (l := [0, 1, 2]) rfl ?_
             refine vM (lv rfl) rfl rfl ?_
             refine o_ldN (lv rfl) rfl lk_46 rfl ⟨_, _, _, hH.c2, [_, _, _, _], rfl, rfl, ?_⟩
             refine o_call (lv rfl) rfl en_43 rfl (r09_Do hmk.1 hmk.2.1 (by have := hmk.2.2.1; omega) ⟨hmk.2.2.2.1, by have := hmk.2.2.2.2; omega⟩ _ hco (by exact hH)) ?_
             rintro _ w ⟨pv2, rfl, hH⟩
             refine g_seq ?_
             refine g_region (l := [0]) rfl ?_
             refine vA (lv rfl) rfl rfl ?_
             refine g_block ?_
             have hsm0 := mostS_small hmost hsm
             refine g_loop (fun mm e w => ∃ (j : Nat) (e0 : Env) (mo : Int) (fv2 : Value), j ≤ (rFrom mk f g fr).length ∧ mm = (rFrom mk f g fr).length - j ∧ (0 ≤ mo ∧ mo < 4611686018427387904) ∧ mo = (if both (mk.do (callOf ls x).1).2 f g = true then (((rFrom mk f g fr).map (· + dd)).take j).foldl mostS most else most) ∧
                 e = J e0 [(1, .slice (some ⟨bp, op_, none⟩) sl.length cap), (2, .int .i64 f), (3, .int .i64 g), (4, .pointer (some ⟨b4, 0, none⟩)), (12, .int .u64 (sums c ls (sl.map Prod.fst) f g).a), (13, .int .u64 (sums c ls (sl.map Prod.fst) f g).b), (14, .pointer (some ⟨bm, 0, none⟩)), (15, .int .i64 mo), (16, fv2), (17, .int .i64 k), (20, .int .i64 dd), (24, .int .i64 j)] ∧
                 Holds R (RMdlC bm (mk.do (callOf ls x).1).2 :: Vec 2 1 encI fv2 (((rFrom mk f g fr).map (· + dd)).take j ++ (rFrom mk f g fr).drop j) :: cel b4 (plCells c lsv) 28 :: F) w) (rFrom mk f g fr).length ⟨0, _, most, _, by omega, by omega, hmost, by simp, (J_self (has_s rfl (has_s rfl (has_s rfl (has_s rfl (has_s rfl (has_s rfl (has_s rfl (has_s rfl (has_s rfl (has_s rfl (has_s rfl (has_s rfl has_0))))))))))))), (hH.sel (by repeat' (first | exact Sel.refl _ | refine Sel.q1 ?_ | refine Sel.q2 ?_ | refine Sel.skip _ ?_)))⟩ ?_
             rintro mm3 _ w ⟨j, e2, mo, fv2, hj, hm3, hmo, hmoe, rfl, hH⟩ hback3
             have hLL : (((rFrom mk f g fr).map (· + dd)).take j ++ (rFrom mk f g fr).drop j).length = (rFrom mk f g fr).length := by simp; omega
             obtain ⟨fa2, fcap2, hfe, -⟩ := hH.p1.rd.len
             rw [hLL] at hfe
             subst hfe
             refine g_seq ?_
             refine g_seq ?_
             refine g_region (l := [0, 1, 2, 3]) rfl ?_
             refine vM (lv rfl) rfl rfl ?_
             refine vM (lv rfl) rfl rfl ?_
             refine o_v (lv rfl) rfl (r_len el_96 rfl) ?_
             refine o_v (lv rfl) rfl (r_lt rfl rfl) ?_
             refine g_if rfl (fun c8 => ?_) (fun c8 => ?_)
             ·have hjl : j < (rFrom mk f g fr).length := by omega
              obtain ⟨y, hy⟩ : ∃ y, (rFrom mk f g fr)[j]? = some y := ⟨_, List.getElem?_eq_getElem hjl⟩
              have hyv : (((rFrom mk f g fr).map (· + dd)).take j ++ (rFrom mk f g fr).drop j)[j]? = some y := by
                rw [List.getElem?_append_right (by simp; omega), List.getElem?_drop, ← hy]; congr 1; simp; omega
              have hys := hsm (y + dd) (List.mem_map.2 ⟨y, List.mem_of_getElem? hy, rfl⟩)
              unfold smallI at hys
              obtain ⟨bv, cv, rest, hve, hvl, hvr, hH⟩ := vec_cel hH.p1 (by omega)
              obtain ⟨hfa2, -, hfc2⟩ := Value.slice.inj hve
              rw [hfa2]
              have hcv : (flat encI (((rFrom mk f g fr).map (· + dd)).take j ++ (rFrom mk f g fr).drop j) ++ rest)[0 + ((j : Int)).toNat * 1]? = some (.int .i64 y) := by
                rw [show 0 + ((j : Int)).toNat * 1 = j from by omega]; exact flat_at hyv
              refine g_skip ?_
              refine g_seq ?_
              refine g_block ?_
              refine g_seq ?_
              refine g_region (l := [0, 1, 2, 3, 4, 5, 6, 7, 8, 9]) rfl ?_
              refine vM (lv rfl) rfl rfl ?_
              refine vM (lv rfl) rfl rfl ?_
              refine vM (lv rfl) rfl rfl ?_
              refine vM (lv rfl) rfl rfl ?_
              refine o_v (lv rfl) rfl (r_ia el_96 rfl rfl ?_ ?_) ?_; omega; omega
              refine o_ld (lv rfl) rfl lk_2 rfl ⟨_, _, _, hH.c0, _, hcv, ?_⟩
              refine vM (lv rfl) rfl rfl ?_
              refine o_v (lv rfl) rfl (r_addI rfl rfl ?_) ?_; omega
              refine o_v (lv rfl) rfl (r_ia el_96 rfl rfl ?_ ?_) ?_; omega; omega
              refine o_st (lv rfl) rfl lk_2 rfl rfl (vs := [_]) rfl hH rfl rfl ?_ (setL_flatI (i := j) (by omega) (by omega)) ?_
              ·have := flat_length hkI (((rFrom mk f g fr).map (· + dd)).take j ++ (rFrom mk f g fr).drop j)
               rw [List.length_append, this, hLL]
               simp only [List.length_singleton]
               omega
              intro w hH
              refine g_seq ?_
              rw [take_set_drop _ _ _ _ hy] at hH
              have hyv2 : (((rFrom mk f g fr).map (· + dd)).take (j + 1) ++ (rFrom mk f g fr).drop (j + 1))[j]? = some (y + dd) := by
                rw [List.getElem?_append_left (by simp; omega), List.getElem?_take, if_pos (by omega), List.getElem?_map, hy]; rfl
              have hcv : (flat encI (((rFrom mk f g fr).map (· + dd)).take (j + 1) ++ (rFrom mk f g fr).drop (j + 1)) ++ rest)[0 + ((j : Int)).toNat * 1]? = some (.int .i64 (y + dd)) := by
                rw [show 0 + ((j : Int)).toNat * 1 = j from by omega]; exact flat_at hyv2
              have hLL2 : (((rFrom mk f g fr).map (· + dd)).take (j + 1) ++ (rFrom mk f g fr).drop (j + 1)).length = (rFrom mk f g fr).length := by simp; omega
              replace hH := hH.p1
              refine g_region (l := [0, 1, 2, 3, 4, 5, 6, 7, 8, 9]) rfl ?_
              refine vM (lv rfl) rfl rfl ?_
              refine vM (lv rfl) rfl rfl ?_
              refine o_call (lv rfl) rfl en_30 rfl (r09_Len hdo.1.2.1 _ hH) ?_
              rintro _ w ⟨rfl, hH⟩
              refine o_v (lv rfl) rfl (r_gt rfl rfl) ?_
              refine vM (lv rfl) rfl rfl ?_
              refine s_ops (fun g32_4 => ?_) (fun g32_4 => ?_)
              ·refine vM (lvg rfl rfl rfl) rfl rfl ?_
               refine vM (lvg rfl rfl rfl) rfl rfl ?_
               refine o_call (lvg rfl rfl rfl) rfl en_30 rfl (r09_Len hdo.1.2.1 _ hH) ?_
               rintro _ w ⟨rfl, hH⟩
               refine o_v (lvg rfl rfl rfl) rfl (r_gt rfl rfl) ?_
               refine o_v (lv rfl) rfl (r_pickT rfl rfl) ?_
               refine g_if rfl (fun c9 => ?_) (fun c9 => ?_)
               ·refine rD mixed hH fun w hH => ?_
                refine pM 0 (lv rfl) rfl rfl ?_
                refine pM 1 (lv rfl) rfl rfl ?_
                refine pM 2 (lv rfl) rfl rfl ?_
                refine d_p (i := 3) (lv rfl) rfl (fun w => (r_ia el_96 rfl rfl ?_ ?_)) (by kernel_rfl) ?_; omega; omega
                refine d_ld (i := 4) [] (lv rfl) rfl lk_2 rfl (by kernel_rfl) ⟨_, _, _, hH.c1, _, hcv, ?_⟩
                refine pM 5 (lv rfl) rfl rfl ?_
                refine pM 6 (lv rfl) rfl rfl ?_
                refine d_p (i := 7) (lv rfl) rfl (fun w => (r_ia el_96 rfl rfl ?_ ?_)) (by kernel_rfl) ?_; omega; omega
                refine d_ld (i := 8) [] (lv rfl) rfl lk_2 rfl (by kernel_rfl) ⟨_, _, _, hH.c1, _, hcv, ?_⟩
                refine d_p (i := 9) (lv rfl) rfl (fun w => r_negI rfl ?_) (by kernel_rfl) ?_; omega
                refine d_p (i := 10) (lv rfl) rfl (fun w => (r_max3 rfl rfl rfl)) (by kernel_rfl) ?_
                refine pA 11 (lv rfl) rfl rfl ?_
                refine d_end (by kernel_rfl) ?_
                refine g_inBlock ?_
                refine g_region (l := [0, 1, 2]) rfl ?_
                refine vM (lv rfl) rfl rfl ?_
                refine o_v (lv rfl) rfl (r_addI rfl rfl ?_) ?_; omega
                refine vA (lv rfl) rfl rfl ?_
                have hst : ∀ {w : World}, Holds R (RMdlC bm (mk.do (callOf ls x).1).2 :: cel bv (flat encI (((rFrom mk f g fr).map (· + dd)).take (j + 1) ++ (rFrom mk f g fr).drop (j + 1)) ++ rest) 2 :: cel b4 (plCells c lsv) 28 :: F) w → Holds R (RMdlC bm (mk.do (callOf ls x).1).2 :: Vec 2 1 encI (.slice (some ⟨bv, 0, none⟩) (rFrom mk f g fr).length fcap2) (((rFrom mk f g fr).map (· + dd)).take (j + 1) ++ (rFrom mk f g fr).drop (j + 1)) :: cel b4 (plCells c lsv) 28 :: F) w := fun {w} hH => by
                  rw [hfc2]
                  exact Holds.p1 (vec_uncel hH.p1 rfl hLL2 (by omega) (by rw [hvr, hLL, hLL2]))
                have hmS : both (mk.do (callOf ls x).1).2 f g = true → mostS mo (y + dd) = (if both (mk.do (callOf ls x).1).2 f g = true then (((rFrom mk f g fr).map (· + dd)).take (j + 1)).foldl mostS most else most) := fun hb => by
                  rw [if_pos hb] at hmoe ⊢
                  rw [List.take_add_one, List.getElem?_map, hy, hmoe]
                  simp
                have hmN : ¬ both (mk.do (callOf ls x).1).2 f g = true → mo = (if both (mk.do (callOf ls x).1).2 f g = true then (((rFrom mk f g fr).map (· + dd)).take (j + 1)).foldl mostS most else most) := fun hb => by
                  rw [if_neg hb] at hmoe ⊢; exact hmoe
                (exact hback3 _ _ _ ⟨j + 1, _, mostS mo (y + dd), _, by omega, rfl, by unfold mostS; omega, hmS (by unfold both; simp; omega), (J_self (has_s rfl (has_s rfl (has_s rfl (has_s rfl (has_s rfl (has_s rfl (has_s rfl (has_s rfl (has_s rfl (has_s rfl (has_s rfl (has_s rfl has_0))))))))))))), hst (hH.sel (by repeat' (first | exact Sel.refl _)))⟩ (by omega))
               ·refine g_skip ?_
                refine g_inBlock ?_
                refine g_region (l := [0, 1, 2]) rfl ?_
                refine vM (lv rfl) rfl rfl ?_
                refine o_v (lv rfl) rfl (r_addI rfl rfl ?_) ?_; omega
                refine vA (lv rfl) rfl rfl ?_
                have hst : ∀ {w : World}, Holds R (RMdlC bm (mk.do (callOf ls x).1).2 :: cel bv (flat encI (((rFrom mk f g fr).map (· + dd)).take (j + 1) ++ (rFrom mk f g fr).drop (j + 1)) ++ rest) 2 :: cel b4 (plCells c lsv) 28 :: F) w → Holds R (RMdlC bm (mk.do (callOf ls x).1).2 :: Vec 2 1 encI (.slice (some ⟨bv, 0, none⟩) (rFrom mk f g fr).length fcap2) (((rFrom mk f g fr).map (· + dd)).take (j + 1) ++ (rFrom mk f g fr).drop (j + 1)) :: cel b4 (plCells c lsv) 28 :: F) w := fun {w} hH => by
                  rw [hfc2]
                  exact Holds.p1 (vec_uncel hH.p1 rfl hLL2 (by omega) (by rw [hvr, hLL, hLL2]))
                have hmS : both (mk.do (callOf ls x).1).2 f g = true → mostS mo (y + dd) = (if both (mk.do (callOf ls x).1).2 f g = true then (((rFrom mk f g fr).map (· + dd)).take (j + 1)).foldl mostS most else most) := fun hb => by
                  rw [if_pos hb] at hmoe ⊢
                  rw [List.take_add_one, List.getElem?_map, hy, hmoe]
                  simp
                have hmN : ¬ both (mk.do (callOf ls x).1).2 f g = true → mo = (if both (mk.do (callOf ls x).1).2 f g = true then (((rFrom mk f g fr).map (· + dd)).take (j + 1)).foldl mostS most else most) := fun hb => by
                  rw [if_neg hb] at hmoe ⊢; exact hmoe
                (exact hback3 _ _ _ ⟨j + 1, _, mo, _, by omega, rfl, hmo, hmN (by unfold both; simp; omega), (J_self (has_s rfl (has_s rfl (has_s rfl (has_s rfl (has_s rfl (has_s rfl (has_s rfl (has_s rfl (has_s rfl (has_s rfl (has_s rfl (has_s rfl has_0))))))))))))), hst (hH.sel (by repeat' (first | exact Sel.refl _)))⟩ (by omega))
              ·refine o_no rfl rfl rfl rfl ?_
               refine o_no rfl rfl rfl rfl ?_
               refine o_no rfl rfl rfl rfl ?_
               refine o_no rfl rfl rfl rfl ?_
               refine o_v (lv rfl) rfl (r_pickF rfl rfl) ?_
               refine g_false rfl ?_
               refine g_skip ?_
               refine g_inBlock ?_
               refine g_region (l := [0, 1, 2]) rfl ?_
               refine vM (lv rfl) rfl rfl ?_
               refine o_v (lv rfl) rfl (r_addI rfl rfl ?_) ?_; omega
               refine vA (lv rfl) rfl rfl ?_
               have hst : ∀ {w : World}, Holds R (RMdlC bm (mk.do (callOf ls x).1).2 :: cel bv (flat encI (((rFrom mk f g fr).map (· + dd)).take (j + 1) ++ (rFrom mk f g fr).drop (j + 1)) ++ rest) 2 :: cel b4 (plCells c lsv) 28 :: F) w → Holds R (RMdlC bm (mk.do (callOf ls x).1).2 :: Vec 2 1 encI (.slice (some ⟨bv, 0, none⟩) (rFrom mk f g fr).length fcap2) (((rFrom mk f g fr).map (· + dd)).take (j + 1) ++ (rFrom mk f g fr).drop (j + 1)) :: cel b4 (plCells c lsv) 28 :: F) w := fun {w} hH => by
                 rw [hfc2]
                 exact Holds.p1 (vec_uncel hH.p1 rfl hLL2 (by omega) (by rw [hvr, hLL, hLL2]))
               have hmS : both (mk.do (callOf ls x).1).2 f g = true → mostS mo (y + dd) = (if both (mk.do (callOf ls x).1).2 f g = true then (((rFrom mk f g fr).map (· + dd)).take (j + 1)).foldl mostS most else most) := fun hb => by
                 rw [if_pos hb] at hmoe ⊢
                 rw [List.take_add_one, List.getElem?_map, hy, hmoe]
                 simp
               have hmN : ¬ both (mk.do (callOf ls x).1).2 f g = true → mo = (if both (mk.do (callOf ls x).1).2 f g = true then (((rFrom mk f g fr).map (· + dd)).take (j + 1)).foldl mostS most else most) := fun hb => by
                 rw [if_neg hb] at hmoe ⊢; exact hmoe
               (exact hback3 _ _ _ ⟨j + 1, _, mo, _, by omega, rfl, hmo, hmN (by unfold both; simp; omega), (J_self (has_s rfl (has_s rfl (has_s rfl (has_s rfl (has_s rfl (has_s rfl (has_s rfl (has_s rfl (has_s rfl (has_s rfl (has_s rfl (has_s rfl has_0))))))))))))), hst (hH.sel (by repeat' (first | exact Sel.refl _)))⟩ (by omega))
             ·have hje : j = (rFrom mk f g fr).length := by omega
              rw [hje, List.take_of_length_le (by simp)] at hmoe
              rw [hje, List.take_of_length_le (by simp), List.drop_length, List.append_nil] at hH
              refine g_exit rfl ?_
              refine g_inBlock ?_
              refine g_region (l := [0, 1, 2]) rfl ?_
              refine vM (lv rfl) rfl rfl ?_
              refine o_v (lv rfl) rfl (r_addI rfl rfl ?_) ?_; omega
              refine vA (lv rfl) rfl rfl ?_
              have hre : rEnd f g (mk.do (callOf ls x).1).2 ⟨mk, fr, most⟩ dd = ⟨(mk.do (callOf ls x).1).2, ((rFrom mk f g fr).map (· + dd)), mo⟩ := by rw [hmoe]; rfl
              rw [hre] at hgo
              exact hback _ _ _ ⟨k + 1, _, _, _, _, _, by omega, rfl, hdo.1, by simp; omega, hmo, hgo, (J_self (has_s rfl (has_s rfl (has_s rfl (has_s rfl (has_s rfl (has_s rfl (has_s rfl (has_s rfl (has_s rfl (has_s rfl has_0))))))))))), (hH.sel (by repeat' (first | exact Sel.refl _)))⟩ (by omega)
       ·omega
end
end Go.Proofs.YtkdbglfdgeldpaaGreat
