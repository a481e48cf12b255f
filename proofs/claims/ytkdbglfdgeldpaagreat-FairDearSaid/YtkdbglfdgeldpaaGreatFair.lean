/- Contracts of package fair: Fair, Left. Condition: plans and points only read; what is told has come. -/
import Derived.Test.YtkdbglfdgeldpaaGreatReg
namespace Go.Proofs.YtkdbglfdgeldpaaGreat
open Go.Lt
def akeys (A : As) : List Int := A.map Prod.fst
def fPair (c : Config) (ls : List (List Call)) (l : List Point) (x y : Int) : Prop := ∃ s, gapL (bookOf c ls l).1 x y ls l (gs0 c x y) = some s ∧ s.most ≤ dear (bookOf c ls l).1 x + dear (bookOf c ls l).1 y
def fFairP (c : Config) (ls : List (List Call)) (l : List Point) : Prop :=
  plays c ls l ≠ none ∧ (lim ≤ (bookOf c ls l).2 ∨ ∀ x y : Int, x ∈ akeys (bookOf c ls l).1 → y ∈ akeys (bookOf c ls l).1 → y < x → fPair c ls l x y)
def restOf (A : As) (f : Int) : List Packet := ((aget A f).came.drop (aget A f).left.length).map (·.p)
section
variable {R : Base} {F : List HP} {w : World}
theorem fair_Fair {c : Config} {lsv xv : Value} {ls : List (List Call)} {l : List Point} (hP : RLists lsv ls R.h) (hX : RPoints xv l R.h) (hls : listsOk ls) (hl : l.length ≤ 1000000) (hgd : ∀ f g, FGood c ls l f g) (hkb : plays c ls l ≠ none → (∀ q ∈ (bookOf c ls l).1, I q.1) ∧ (bookOf c ls l).1.length ≤ 10000) (hH : Go.Lt.Holds R F w) :
    Ret Tryz.prog 17 [vPlan c lsv, xv] w fun v w' => ∃ b : Bool, v = .bool b ∧ (b = true ↔ fFairP c ls l) ∧ Go.Lt.Holds R F w' := by
  cases hp0 : plays c ls l with
  | none =>
    refine ret_of_g (n := 56) Tryz.func17 rfl rfl (by simp) ?_
    refine g_seq ?_
    refine g_region (l := [0, 1]) rfl ?_
    refine o_box (lv rfl) rfl (cs := [_, _, _, _, _, _]) rfl rfl hH ?_
    intro b2 w hH
    refine vA (lv rfl) rfl rfl ?_
    refine g_seq ?_
    refine g_region (l := [0, 1, 2, 3, 4, 5, 6, 7]) rfl ?_
    refine o_ldN (lv rfl) rfl lk_28 rfl ⟨_, _, _, hH.c0, [_, _, _, _, _, _], rfl, rfl, ?_⟩
    refine vM (lv rfl) rfl rfl ?_
    refine o_call (lv rfl) rfl en_44 rfl (fair_read (c := c) hP hX hls hl hH) ?_
    rintro _ w hv
    rw [hp0] at hv; obtain ⟨rfl, hH⟩ := hv
    refine vM (lv rfl) rfl rfl ?_
    refine o_v (lv rfl) rfl (r_ex rfl rfl) ?_
    refine o_v (lv rfl) rfl (r_ex rfl rfl) ?_
    refine vA (lv rfl) rfl rfl ?_
    refine vA (lv rfl) rfl rfl ?_
    refine g_seq ?_
    refine g_seq ?_
    refine g_region (l := [0, 1]) rfl ?_
    refine vM (lv rfl) rfl rfl ?_
    refine o_v (lv rfl) rfl (r_not rfl) ?_
    refine g_true rfl ?_
    refine g_seq ?_
    refine g_region (l := [0]) rfl ?_
    refine vA (lv rfl) rfl rfl ?_
    refine g_rq Tryz.func17 (res_t rfl res_0) ?_
    exact ⟨_, rfl, by simp [fFairP, hp0], (hH.sel (by repeat' (first | exact Sel.refl _ | refine Sel.skip _ ?_)))⟩
  | some m0 =>
    obtain ⟨hAI, hAl0⟩ := hkb (by rw [hp0]; simp)
    have hAl : (bookOf c ls l).1.length ≤ 1000000000 := by omega
    have hbk := bookOf_ok hls hp0
    have hpk : ∀ x ∈ l, x.ret.packets.length ≤ 100 := fun x hx => by have := plays_len hp0 x hx; omega
    refine ret_of_g (n := 56) Tryz.func17 rfl rfl (by simp) ?_
    refine g_seq ?_
    refine g_region (l := [0, 1]) rfl ?_
    refine o_box (lv rfl) rfl (cs := [_, _, _, _, _, _]) rfl rfl hH ?_
    intro b2 w hH
    refine vA (lv rfl) rfl rfl ?_
    refine g_seq ?_
    refine g_region (l := [0, 1, 2, 3, 4, 5, 6, 7]) rfl ?_
    refine o_ldN (lv rfl) rfl lk_28 rfl ⟨_, _, _, hH.c0, [_, _, _, _, _, _], rfl, rfl, ?_⟩
    refine vM (lv rfl) rfl rfl ?_
    refine o_call (lv rfl) rfl en_44 rfl (fair_read (c := c) hP hX hls hl hH) ?_
    rintro _ w hv
    rw [hp0] at hv; obtain ⟨bk, mb, rfl, hH⟩ := hv
    refine vM (lv rfl) rfl rfl ?_
    refine o_v (lv rfl) rfl (r_ex rfl rfl) ?_
    refine o_v (lv rfl) rfl (r_ex rfl rfl) ?_
    refine vA (lv rfl) rfl rfl ?_
    refine vA (lv rfl) rfl rfl ?_
    refine g_seq ?_
    refine g_seq ?_
    refine g_region (l := [0, 1]) rfl ?_
    refine vM (lv rfl) rfl rfl ?_
    refine o_v (lv rfl) rfl (r_not rfl) ?_
    refine g_false rfl ?_
    refine g_skip ?_
    refine g_seq ?_
    refine g_seq ?_
    refine g_region (l := [0, 1, 2, 3, 4]) rfl ?_
    refine vM (lv rfl) rfl rfl ?_
    refine o_v (lv rfl) rfl (r_nil rfl) ?_
    refine o_v (lv rfl) rfl (r_fa fa_91_3 rfl) ?_
    refine o_ld (lv rfl) rfl lk_22 rfl ⟨_, _, _, hH.c0, _, rfl, ?_⟩
    refine o_v (lv rfl) rfl (r_ge rfl rfl) ?_
    refine g_if rfl (fun c1 => ?_) (fun c1 => ?_)
    ·refine g_seq ?_
     refine g_region (l := [0]) rfl ?_
     refine vA (lv rfl) rfl rfl ?_
     refine g_rq Tryz.func17 (res_t rfl res_0) ?_
     (have hs : 4611686018427387904 ≤ (bookOf c ls l).2 := c1
      exact ⟨_, rfl, iff_of_true rfl ⟨by rw [hp0]; simp, .inl hs⟩, (hH.sel (by repeat' (first | exact Sel.refl _ | refine Sel.skip _ ?_)))⟩)
    ·refine g_skip ?_
     refine g_seq ?_
     refine g_region (l := [0, 1, 2]) rfl ?_
     refine vM (lv rfl) rfl rfl ?_
     refine o_call (lv rfl) rfl en_51 rfl (fair_registered hAI hAl hH) ?_
     rintro _ w ⟨K, hK, hKs, hH⟩
     obtain ⟨ka, kcap, rfl, -⟩ := hH.rd.len; have hKl := hK.length_eq
     refine vA (lv rfl) rfl rfl ?_
     refine g_seq ?_
     refine g_seq ?_
     refine g_region (l := [0, 1, 2]) rfl ?_
     refine vM (lv rfl) rfl rfl ?_
     refine o_v (lv rfl) rfl (r_len el_26 rfl) ?_
     refine vM (lv rfl) rfl rfl ?_
     refine g_block ?_
     refine g_loop (fun mm e w => ∃ (i : Nat) (e0 : Env), i ≤ K.length ∧ mm = K.length - i ∧ (∀ (i' j : Nat) (x y : Int), i' < i → j < i' → K[i']? = some x → K[j]? = some y → fPair c ls l x y) ∧
         e = J e0 [(5, .pointer (some ⟨bk, 0, none⟩)), (7, .slice ka K.length kcap), (27, .slice ka K.length kcap), (28, .int .i64 K.length), (29, .int .i64 i)] ∧ Go.Lt.Holds R (Vec 3 1 encI (.slice ka K.length kcap) K :: cel bk (bkCells c lsv xv mb (bookOf c ls l).2) 91 :: AccsC mb (bookOf c ls l).1 :: F) w) K.length ⟨0, _, by omega, by omega, by omega, (J_self (has_s rfl (has_s rfl (has_s rfl (has_s rfl (has_s rfl has_0)))))), (hH.sel (by repeat' (first | exact Sel.refl _ | refine Sel.q0 ?_ | refine Sel.skip _ ?_)))⟩ ?_
     rintro mm _ w ⟨i, e0, hi, hm, hall, rfl, hH⟩ hback
     refine g_seq ?_
     refine g_region (l := [0]) rfl ?_
     refine o_v (lv rfl) rfl (r_lt rfl rfl) ?_
     refine g_seq ?_
     refine g_if rfl (fun c2 => ?_) (fun c2 => ?_)
     ·have hil : i < K.length := by omega
      obtain ⟨x, hx⟩ : ∃ x, K[i]? = some x := ⟨_, List.getElem?_eq_getElem hil⟩
      have hbK : K.length ≤ 1000000000 := by rw [hKl]; simpa using hAl
      refine g_skip ?_
      refine g_seq ?_
      refine g_block ?_
      refine g_seq ?_
      obtain ⟨bn, on, csn, Tn, hne, hbn, hcn0⟩ := Rd.el hkI hH.rd hx
      rw [hne]; rw [hne] at hback hH
      have hcn := hcn0 0 _ rfl
      refine g_region (l := [0, 1, 2, 3, 4]) rfl ?_
      refine vM (lv rfl) rfl rfl ?_
      refine o_v (lv rfl) rfl (r_ia el_26 rfl rfl ?_ ?_) ?_; omega; omega
      refine o_ld (lv rfl) rfl lk_3 rfl ⟨_, _, _, hbn, _, hcn, ?_⟩
      refine vA (lv rfl) rfl rfl ?_
      refine vA (lv rfl) rfl rfl ?_
      refine g_seq ?_
      refine g_region (l := [0, 1, 2, 3, 4]) rfl ?_
      refine vM (lv rfl) rfl rfl ?_
      refine vM (lv rfl) rfl rfl ?_
      refine o_slr hkI 0 i (lv rfl) rfl el_26 rfl hH.rd bnd_n (bnd_s rfl) (by omega) (by omega) (fun sv1 hsv1 => ?_); obtain ⟨s1, scap1, rfl, -⟩ := (hsv1 _ hH.rd).len; have hsl : ((K.take i).drop 0).length = i := by simp; omega
      refine o_v (lv rfl) rfl (r_len el_26 rfl) ?_
      refine vM (lv rfl) rfl rfl ?_
      refine g_block ?_
      refine g_loop (fun mm e w => ∃ (j : Nat) (e0 : Env), j ≤ i ∧ mm = i - j ∧ (∀ (j' : Nat) (y : Int), j' < j → K[j']? = some y → fPair c ls l x y) ∧
          e = J e0 [(5, .pointer (some ⟨bk, 0, none⟩)), (7, .slice (some ⟨bn, on, none⟩) K.length kcap), (9, .int .i64 x), (27, .slice (some ⟨bn, on, none⟩) K.length kcap), (28, .int .i64 K.length), (29, .int .i64 i), (36, .slice s1 ((K.take i).drop 0).length scap1), (37, .int .i64 ((K.take i).drop 0).length), (38, .int .i64 j)] ∧ Go.Lt.Holds R (Vec 3 1 encI (.slice (some ⟨bn, on, none⟩) K.length kcap) K :: cel bk (bkCells c lsv xv mb (bookOf c ls l).2) 91 :: AccsC mb (bookOf c ls l).1 :: F) w) i ⟨0, _, by omega, by omega, by omega, (J_self (has_s rfl (has_s rfl (has_s rfl (has_s rfl (has_s rfl (has_s rfl (has_s rfl (has_s rfl (has_s rfl has_0)))))))))), (hH.sel (by repeat' (first | exact Sel.refl _)))⟩ ?_
      rintro mm2 _ w ⟨j, e1, hj, hm2, hrow, rfl, hH⟩ hback2
      refine g_seq ?_
      refine g_region (l := [0]) rfl ?_
      refine o_v (lv rfl) rfl (r_lt rfl rfl) ?_
      refine g_seq ?_
      refine g_if rfl (fun c3 => ?_) (fun c3 => ?_)
      ·have hji : j < i := by omega
       obtain ⟨y, hy⟩ : ∃ y, K[j]? = some y := ⟨_, List.getElem?_eq_getElem (by omega)⟩
       have hyt : ((K.take i).drop 0)[j]? = some y := by rw [List.drop_zero, List.getElem?_take, if_pos hji]; exact hy
       obtain ⟨bn2, on2, csn2, Tn2, hne2, hbn, hcn0⟩ := Rd.el hkI (hsv1 _ hH.rd) hyt
       rw [hne2]; rw [hne2] at hback2
       have hcn := hcn0 0 _ rfl
       have hyx : y < x := by
         have h1 := List.pairwise_iff_getElem.1 hKs j i (by omega) hil hji
         rw [List.getElem?_eq_getElem (by omega)] at hx hy
         cases hx; cases hy; exact h1
       have hxk : x ∈ akeys (bookOf c ls l).1 := hK.mem_iff.1 (List.mem_of_getElem? hx)
       have hyk : y ∈ akeys (bookOf c ls l).1 := hK.mem_iff.1 (List.mem_of_getElem? hy)
       obtain ⟨⟨rs, hrs⟩, hd1, hd2, hd3⟩ := hgd x y (by rw [hp0]; simp) (by omega) (by unfold lim; omega)
       refine g_skip ?_
       refine g_seq ?_
       refine g_block ?_
       refine g_seq ?_
       refine g_region (l := [0, 1, 2]) rfl ?_
       refine o_v (lv rfl) rfl (r_ia el_26 rfl rfl ?_ ?_) ?_; omega; omega
       refine o_ld (lv rfl) rfl lk_3 rfl ⟨_, _, _, hbn, _, hcn, ?_⟩
       refine vA (lv rfl) rfl rfl ?_
       refine g_seq ?_
       refine g_region (l := [0, 1, 2, 3, 4, 5, 6, 7, 8, 9, 10, 11]) rfl ?_
       refine vM (lv rfl) rfl rfl ?_
       refine vM (lv rfl) rfl rfl ?_
       refine vM (lv rfl) rfl rfl ?_
       refine o_call (lv rfl) rfl en_45 rfl (fair_gap (F := Vec 3 1 encI (.slice (some ⟨bn, on, none⟩) K.length kcap) K :: F) hP hX hls hl (plays_cfg hp0) hpk hbk.1 (by omega) x y hrs (hH.sel (by repeat' (first | exact Sel.refl _ | refine Sel.q1 ?_)))) ?_
       rintro _ w ⟨rfl, hH⟩
       refine vM (lv rfl) rfl rfl ?_
       refine vM (lv rfl) rfl rfl ?_
       refine o_call (lv rfl) rfl en_46 rfl (fair_dearest hbk.1 (by omega) _ hH) ?_
       rintro _ w ⟨rfl, hH⟩
       refine vM (lv rfl) rfl rfl ?_
       refine vM (lv rfl) rfl rfl ?_
       refine o_call (lv rfl) rfl en_46 rfl (fair_dearest hbk.1 (by omega) _ hH) ?_
       rintro _ w ⟨rfl, hH⟩
       refine o_v (lv rfl) rfl (r_addU rfl rfl ?_) ?_; omega
       refine o_v (lv rfl) rfl (r_gt rfl rfl) ?_
       refine g_if rfl (fun c4 => ?_) (fun c4 => ?_)
       ·refine g_seq ?_
        refine g_region (l := [0]) rfl ?_
        refine vA (lv rfl) rfl rfl ?_
        refine g_rq Tryz.func17 (res_t rfl res_0) ?_
        (have hs : ¬ 4611686018427387904 ≤ (bookOf c ls l).2 := c1
         have hgt := c4
         exact ⟨_, rfl, iff_of_false (by simp) (fun h => by
           obtain ⟨s, hs1, hs2⟩ := h.2.resolve_left hs x y hxk hyk hyx
           rw [hrs] at hs1; cases hs1; omega), (hH.sel (by repeat' (first | exact Sel.refl _ | refine Sel.skip _ ?_)))⟩)
       ·refine g_skip ?_
        refine g_inBlock ?_
        refine g_region (l := [0, 1]) rfl ?_
        refine o_v (lv rfl) rfl (r_addI rfl rfl ?_) ?_; omega
        refine vM (lv rfl) rfl rfl ?_
        exact hback2 _ _ _ ⟨j + 1, _, by omega, rfl, fun j' z hj' hz => by
          by_cases hjj : j' = j
          ·subst hjj; rw [hy] at hz; cases hz; exact ⟨rs, hrs, by omega⟩
          ·exact hrow j' z (by omega) hz, (J_self (has_s rfl (has_s rfl (has_s rfl (has_s rfl (has_s rfl (has_s rfl (has_s rfl (has_s rfl (has_s rfl has_0)))))))))), (hH.sel (by repeat' (first | exact Sel.refl _ | refine Sel.q2 ?_)))⟩ (by omega)
      ·refine g_exit rfl ?_
       refine g_inBlock ?_
       refine g_region (l := [0, 1]) rfl ?_
       refine o_v (lv rfl) rfl (r_addI rfl rfl ?_) ?_; omega
       refine vM (lv rfl) rfl rfl ?_
       exact hback _ _ _ ⟨i + 1, _, by omega, rfl, fun i' j' u z hi' hj' hu hz => by
         by_cases hii : i' = i
         ·subst hii; rw [hx] at hu; cases hu; exact hrow j' z (by omega) hz
         ·exact hall i' j' u z (by omega) hj' hu hz, (J_self (has_s rfl (has_s rfl (has_s rfl (has_s rfl (has_s rfl has_0)))))), (hH.sel (by repeat' (first | exact Sel.refl _)))⟩ (by omega)
     ·refine g_exit rfl ?_
      refine g_seq ?_
      refine g_region (l := [0]) rfl ?_
      refine vA (lv rfl) rfl rfl ?_
      refine g_rq Tryz.func17 (res_t rfl res_0) ?_
      (have hs : ¬ 4611686018427387904 ≤ (bookOf c ls l).2 := c1
       exact ⟨_, rfl, iff_of_true rfl ⟨by rw [hp0]; simp, .inr fun u z hu hz hzu => by
         obtain ⟨i', hi'⟩ := List.getElem?_of_mem (hK.mem_iff.2 hu)
         obtain ⟨j', hj'⟩ := List.getElem?_of_mem (hK.mem_iff.2 hz)
         have hl1 := (List.getElem?_eq_some_iff.1 hi').1
         have hl2 := (List.getElem?_eq_some_iff.1 hj').1
         refine hall i' j' u z (by omega) ?_ hi' hj'
         rcases Nat.lt_trichotomy j' i' with h | h | h
         ·exact h
         ·subst h; rw [hi'] at hj'; cases hj'; omega
         ·have h1 := List.pairwise_iff_getElem.1 hKs i' j' hl1 hl2 h
          rw [List.getElem?_eq_getElem (by omega)] at hi' hj'
          cases hi'; cases hj'; omega⟩, (hH.sel (by repeat' (first | exact Sel.refl _ | refine Sel.skip _ ?_)))⟩)
theorem fair_Left {c : Config} {lsv xv : Value} {ls : List (List Call)} {l : List Point} (hP : RLists lsv ls R.h) (hX : RPoints xv l R.h) (hls : listsOk ls) (hl : l.length ≤ 1000000) (hlr : plays c ls l ≠ none → ∀ f ∈ akeys (bookOf c ls l).1, (aget (bookOf c ls l).1 f).left.length ≤ (aget (bookOf c ls l).1 f).came.length)
    (hkb : plays c ls l ≠ none → (∀ q ∈ (bookOf c ls l).1, I q.1) ∧ (bookOf c ls l).1.length ≤ 10000) (hH : Go.Lt.Holds R F w) :
    Ret Tryz.prog 24 [vPlan c lsv, xv] w fun v w' => ∃ out, Go.Lt.Holds R (Vec 54 3 encP v out :: F) w' ∧ (plays c ls l = none → out = []) ∧
      (plays c ls l ≠ none → ∃ K : List Int, K.Perm (akeys (bookOf c ls l).1) ∧ K.Pairwise (· < ·) ∧ out = K.flatMap (restOf (bookOf c ls l).1)) := by
  cases hp0 : plays c ls l with
  | none =>
    refine ret_of_g (n := 53) Tryz.func24 rfl rfl (by simp) ?_
    refine g_seq ?_
    refine g_region (l := [0, 1]) rfl ?_
    refine o_box (lv rfl) rfl (cs := [_, _, _, _, _, _]) rfl rfl hH ?_
    intro b2 w hH
    refine vA (lv rfl) rfl rfl ?_
    refine g_seq ?_
    refine g_region (l := [0, 1, 2, 3, 4, 5, 6, 7]) rfl ?_
    refine o_ldN (lv rfl) rfl lk_28 rfl ⟨_, _, _, hH.c0, [_, _, _, _, _, _], rfl, rfl, ?_⟩
    refine vM (lv rfl) rfl rfl ?_
    refine o_call (lv rfl) rfl en_44 rfl (fair_read (c := c) hP hX hls hl hH) ?_
    rintro _ w hv
    rw [hp0] at hv; obtain ⟨rfl, hH⟩ := hv
    refine vM (lv rfl) rfl rfl ?_
    refine o_v (lv rfl) rfl (r_ex rfl rfl) ?_
    refine o_v (lv rfl) rfl (r_ex rfl rfl) ?_
    refine vA (lv rfl) rfl rfl ?_
    refine vA (lv rfl) rfl rfl ?_
    refine g_seq ?_
    refine g_seq ?_
    refine g_region (l := [0, 1]) rfl ?_
    refine vM (lv rfl) rfl rfl ?_
    refine o_v (lv rfl) rfl (r_not rfl) ?_
    refine g_true rfl ?_
    refine g_seq ?_
    refine g_region (l := [0]) rfl ?_
    refine vA (lv rfl) rfl rfl ?_
    refine g_rq Tryz.func24 (res_t rfl res_0) ?_
    exact ⟨[], Holds.vnil _ _ _ (hH.sel (by repeat' (first | exact Sel.refl _ | refine Sel.skip _ ?_))), fun _ => rfl, fun h => absurd rfl h⟩
  | some m0 =>
    obtain ⟨hAI, hAl⟩ := hkb (by rw [hp0]; simp)
    have hbk := bookOf_ok hls hp0
    have hlr' := hlr (by rw [hp0]; simp)
    generalize hAe : (bookOf c ls l).1 = A at hbk hlr' hAI hAl
    generalize hse : (bookOf c ls l).2 = sm at hbk
    refine ret_of_g (n := 53) Tryz.func24 rfl rfl (by simp) ?_
    refine g_seq ?_
    refine g_region (l := [0, 1]) rfl ?_
    refine o_box (lv rfl) rfl (cs := [_, _, _, _, _, _]) rfl rfl hH ?_
    intro b2 w hH
    refine vA (lv rfl) rfl rfl ?_
    refine g_seq ?_
    refine g_region (l := [0, 1, 2, 3, 4, 5, 6, 7]) rfl ?_
    refine o_ldN (lv rfl) rfl lk_28 rfl ⟨_, _, _, hH.c0, [_, _, _, _, _, _], rfl, rfl, ?_⟩
    refine vM (lv rfl) rfl rfl ?_
    refine o_call (lv rfl) rfl en_44 rfl (fair_read (c := c) hP hX hls hl hH) ?_
    rintro _ w hv
    rw [hp0, hAe, hse] at hv; obtain ⟨bk, mb, rfl, hH⟩ := hv
    refine vM (lv rfl) rfl rfl ?_
    refine o_v (lv rfl) rfl (r_ex rfl rfl) ?_
    refine o_v (lv rfl) rfl (r_ex rfl rfl) ?_
    refine vA (lv rfl) rfl rfl ?_
    refine vA (lv rfl) rfl rfl ?_
    refine g_seq ?_
    refine g_seq ?_
    refine g_region (l := [0, 1]) rfl ?_
    refine vM (lv rfl) rfl rfl ?_
    refine o_v (lv rfl) rfl (r_not rfl) ?_
    refine g_false rfl ?_
    refine g_skip ?_
    refine g_seq ?_
    refine g_region (l := [0]) rfl ?_
    refine vA (lv rfl) rfl rfl ?_
    refine g_seq ?_
    refine g_seq ?_
    refine g_region (l := [0, 1, 2, 3]) rfl ?_
    refine vM (lv rfl) rfl rfl ?_
    refine o_call (lv rfl) rfl en_51 rfl (fair_registered hAI (by omega) hH) ?_
    rintro _ w ⟨K, hK, hKs, hH⟩
    obtain ⟨ka, kcap, rfl, -⟩ := hH.rd.len; have hKl := hK.length_eq
    refine o_v (lv rfl) rfl (r_len el_26 rfl) ?_
    refine vM (lv rfl) rfl rfl ?_
    refine g_block ?_
    have hKb : K.length ≤ 10000 := by rw [hKl]; simpa using hAl
    refine g_loop (fun mm e w => ∃ (i : Nat) (e0 : Env) (out : List Packet) (ov : Value), i ≤ K.length ∧ mm = K.length - i ∧ out.length ≤ 101 * l.length * i ∧ out = (K.take i).flatMap (restOf A) ∧
        e = J e0 [(5, .pointer (some ⟨bk, 0, none⟩)), (7, ov), (22, .slice ka K.length kcap), (23, .int .i64 K.length), (24, .int .i64 i)] ∧ Go.Lt.Holds R (Vec 54 3 encP ov out :: Vec 3 1 encI (.slice ka K.length kcap) K :: cel bk (bkCells c lsv xv mb sm) 91 :: AccsC mb A :: F) w) K.length ⟨0, _, [], _, by omega, by omega, by simp, rfl, (J_self (has_s rfl (has_s rfl (has_s rfl (has_s rfl (has_s rfl has_0)))))), Holds.vnil _ _ _ (hH.sel (by repeat' (first | exact Sel.refl _ | refine Sel.q0 ?_ | refine Sel.skip _ ?_)))⟩ ?_
    rintro mm _ w ⟨i, e0, out, ov, hi, hm, hol, hout, rfl, hH⟩ hback
    obtain ⟨oa, ocap, rfl, -⟩ := hH.rd.len
    refine g_seq ?_
    refine g_region (l := [0]) rfl ?_
    refine o_v (lv rfl) rfl (r_lt rfl rfl) ?_
    refine g_seq ?_
    refine g_if rfl (fun c1 => ?_) (fun c1 => ?_)
    ·have hil : i < K.length := by omega
     obtain ⟨f, hf⟩ : ∃ f, K[i]? = some f := ⟨_, List.getElem?_eq_getElem hil⟩
     have hlf := hlr' f (hK.mem_iff.1 (List.mem_of_getElem? hf))
     have hgo := aget_ok hbk.1 f
     unfold accOk at hgo
     have hmul : 101 * l.length * (i + 1) ≤ 101 * 1000000 * 10000 := Nat.mul_le_mul (Nat.mul_le_mul_left _ hl) (by omega)
     have hmul2 : 101 * l.length * (i + 1) = 101 * l.length * i + 101 * l.length := Nat.mul_succ _ _
     refine g_skip ?_
     refine g_seq ?_
     refine g_block ?_
     refine g_seq ?_
     obtain ⟨bn, on, csn, Tn, hne, hbn, hcn0⟩ := Rd.el hkI hH.p1.rd hf
     rw [hne]; rw [hne] at hback hH
     have hcn := hcn0 0 _ rfl
     refine g_region (l := [0, 1, 2]) rfl ?_
     refine o_v (lv rfl) rfl (r_ia el_26 rfl rfl ?_ ?_) ?_; omega; omega
     refine o_ld (lv rfl) rfl lk_3 rfl ⟨_, _, _, hbn, _, hcn, ?_⟩
     refine vA (lv rfl) rfl rfl ?_
     refine g_seq ?_
     obtain ⟨lm, cv, av, rest, hval, hH, hkeep, -⟩ := AccsC.take (F := cel bk (bkCells c lsv xv mb sm) 91 :: Vec 54 3 encP (.slice oa out.length ocap) out :: Vec 3 1 encI (.slice (some ⟨bn, on, none⟩) K.length kcap) K :: F) f (hH.sel (by repeat' (first | exact Sel.refl _ | refine Sel.q2 ?_ | refine Sel.q3 ?_)))
     obtain ⟨ca, ccap, hce, -⟩ := hH.p1.rd.len
     obtain ⟨la, lcap, hle, -⟩ := hH.p2.rd.len
     rw [hce, hle] at hval hH
     refine g_region (l := [0, 1, 2, 3, 4, 5, 6, 7]) rfl ?_
     refine vM (lv rfl) rfl rfl ?_
     refine o_v (lv rfl) rfl (r_nil rfl) ?_
     refine o_v (lv rfl) rfl (r_fa fa_91_2 rfl) ?_
     refine o_ld (lv rfl) rfl lk_89 rfl ⟨_, _, _, hH.c4, _, rfl, ?_⟩
     refine vM (lv rfl) rfl rfl ?_
     refine o_v (lv rfl) rfl (r_lkw mp_89 rfl rfl (by exact hH.mrd) (hval)) ?_
     refine o_al (lv rfl) rfl ze_106 hH ?_
     intro b10 w hH
     refine o_st (lv rfl) rfl lk_106 rfl (vs := [_, _, _, _]) rfl rfl (by exact hH) rfl rfl (by simp) rfl ?_
     intro w hH; dsimp only [setL, List.set] at hH
     refine g_seq ?_
     refine g_region (l := [0, 1, 2, 3, 4, 5, 6, 7]) rfl ?_
     refine o_v (lv rfl) rfl (r_fa fa_106_1 rfl) ?_
     refine o_ld (lv rfl) rfl lk_104 rfl ⟨_, _, _, hH.c0, _, rfl, ?_⟩
     refine o_v (lv rfl) rfl (r_fa fa_106_2 rfl) ?_
     refine o_ld (lv rfl) rfl lk_26 rfl ⟨_, _, _, hH.c0, _, rfl, ?_⟩
     refine o_v (lv rfl) rfl (r_len el_26 rfl) ?_
     refine o_slr hkPc (aget A f).left.length (aget A f).came.length (lv rfl) rfl el_104 rfl (by exact hH.p2.rd) (bnd_s rfl) bnd_n (by omega) (by omega) (fun sv1 hsv1 => ?_); obtain ⟨s1, scap1, hs1e, -⟩ := (hsv1 _ (by exact hH.p2.rd)).len; have hsl : (((aget A f).came.take (aget A f).came.length).drop (aget A f).left.length).length = (aget A f).came.length - (aget A f).left.length := (by simp); rw [hsl] at hs1e; subst hs1e
     refine o_v (lv rfl) rfl (r_len el_104 rfl) ?_
     refine vM (lv rfl) rfl rfl ?_
     refine g_block ?_
     have hre : restOf A f = (((aget A f).came.take (aget A f).came.length).drop (aget A f).left.length).map (·.p) := by unfold restOf; rw [List.take_length]
     refine g_loop (fun mm e w => ∃ (j : Nat) (e0 : Env) (cur : List Packet) (cv : Value), j ≤ (aget A f).came.length - (aget A f).left.length ∧ mm = (aget A f).came.length - (aget A f).left.length - j ∧ cur = out ++ (restOf A f).take j ∧
         e = J e0 [(5, .pointer (some ⟨bk, 0, none⟩)), (7, cv), (22, .slice (some ⟨bn, on, none⟩) K.length kcap), (23, .int .i64 K.length), (24, .int .i64 i), (39, .slice s1 ((aget A f).came.length - (aget A f).left.length) scap1), (40, .int .i64 ((aget A f).came.length - (aget A f).left.length : Nat)), (41, .int .i64 j)] ∧
         Go.Lt.Holds R (Vec 54 3 encP cv cur :: MapC mb lm :: Vec 108 5 encPc (.slice ca (aget A f).came.length ccap) (aget A f).came :: Vec 3 1 encI (.slice la (aget A f).left.length lcap) (aget A f).left :: rest :: cel bk (bkCells c lsv xv mb sm) 91 :: Vec 3 1 encI (.slice (some ⟨bn, on, none⟩) K.length kcap) K :: F) w) ((aget A f).came.length - (aget A f).left.length) ⟨0, _, out, _, by omega, by omega, by simp, (J_self (has_s rfl (has_s rfl (has_s rfl (has_s rfl (has_s rfl (has_s rfl (has_s rfl (has_s rfl has_0))))))))), (hH.sel (by repeat' (first | exact Sel.refl _ | refine Sel.q1 ?_ | refine Sel.q6 ?_ | refine Sel.skip _ ?_)))⟩ ?_
     rintro mm2 _ w ⟨j, e1, cur, cv, hj, hm2, hcur, rfl, hH⟩ hback2
     obtain ⟨va, vcap, rfl, -⟩ := hH.rd.len
     have hcl : cur.length ≤ out.length + (aget A f).came.length := by rw [hcur]; simp; omega
     refine g_seq ?_
     refine g_region (l := [0]) rfl ?_
     refine o_v (lv rfl) rfl (r_lt rfl rfl) ?_
     refine g_seq ?_
     refine g_if rfl (fun c2 => ?_) (fun c2 => ?_)
     ·obtain ⟨q, hq⟩ : ∃ q, (((aget A f).came.take (aget A f).came.length).drop (aget A f).left.length)[j]? = some q := ⟨_, List.getElem?_eq_getElem (by omega)⟩
      obtain ⟨bq, oq, csq, Tq, hqe, hbq, hcq0⟩ := Rd.el hkPc (hsv1 _ hH.p2.rd) hq
      rw [hqe]; rw [hqe] at hback2
      have hcq := dt_of hcq0
      refine g_skip ?_
      refine g_seq ?_
      refine g_block ?_
      refine g_seq ?_
      refine g_region (l := [0, 1, 2, 3]) rfl ?_
      refine o_v (lv rfl) rfl (r_ia el_104 rfl rfl ?_ ?_) ?_; omega; omega
      refine o_ldN (lv rfl) rfl lk_108 rfl ⟨_, _, _, hbq, _, hcq, rfl, ?_⟩
      refine o_al (lv rfl) rfl ze_108 hH ?_
      intro b12 w hH
      refine o_st (lv rfl) rfl lk_108 rfl (vs := [_, _, _, _, _]) rfl rfl (by exact hH) rfl rfl (by simp) rfl ?_
      intro w hH; dsimp only [setL, List.set] at hH
      refine g_region (l := [0, 1, 2, 3, 4, 5]) rfl ?_
      refine vM (lv rfl) rfl rfl ?_
      refine o_v (lv rfl) rfl (r_fa fa_108_0 rfl) ?_
      refine o_ldN (lv rfl) rfl lk_54 rfl ⟨_, _, _, hH.c0, [_, _, _], rfl, rfl, ?_⟩
      refine o_bs (lv rfl) rfl el_48 ze_54 rfl rfl rfl (ps := [_]) rfl rfl rfl (cs := [_, _, _]) rfl hH ?_
      intro b48 w hH
      refine o_app (enc := encP) (lv rfl) rfl el_48 ze_54 rfl (fun _ => rfl) (fun _ => rfl) rfl rfl (by exact hH.p2) (rd_of_cel [q.p] (by exact hH.c0) rfl) (by simp; omega) (by simp; omega) ?_
      intro v49 w hH; obtain ⟨a49, k49, rfl, -⟩ := hH.rd.len
      refine vA (lv rfl) rfl rfl ?_
      refine g_inBlock ?_
      refine g_region (l := [0, 1]) rfl ?_
      refine o_v (lv rfl) rfl (r_addI rfl rfl ?_) ?_; omega
      refine vM (lv rfl) rfl rfl ?_
      exact hback2 _ _ _ ⟨j + 1, _, cur ++ [q.p], _, by omega, rfl, by rw [hcur, List.append_assoc, List.take_add_one, hre, List.getElem?_map, hq]; rfl, (J_self (has_s rfl (has_s rfl (has_s rfl (has_s rfl (has_s rfl (has_s rfl (has_s rfl (has_s rfl has_0))))))))), (hH.sel (by repeat' (first | exact Sel.refl _ | refine Sel.q0 ?_ | refine Sel.q2 ?_ | refine Sel.skip _ ?_)))⟩ (by omega)
     ·refine g_exit rfl ?_
      refine g_inBlock ?_
      refine g_region (l := [0, 1]) rfl ?_
      refine o_v (lv rfl) rfl (r_addI rfl rfl ?_) ?_; omega
      refine vM (lv rfl) rfl rfl ?_
      have hcur2 : cur = out ++ restOf A f := by rw [hcur, List.take_of_length_le (by rw [hre]; simp; omega)]
      have hH2 := hkeep (cel bk (bkCells c lsv xv mb sm) 91 :: Vec 54 3 encP (.slice va cur.length vcap) cur :: Vec 3 1 encI (.slice (some ⟨bn, on, none⟩) K.length kcap) K :: F) _ (by rw [hce, hle]; exact (hH.sel (by repeat' (first | exact Sel.refl _ | refine Sel.q1 ?_))))
      replace hH := hH2
      exact hback _ _ _ ⟨i + 1, _, cur, _, by omega, rfl, by rw [hmul2]; omega, by rw [hcur2, hout, List.take_add_one, hf]; simp, (J_self (has_s rfl (has_s rfl (has_s rfl (has_s rfl (has_s rfl has_0)))))), (hH.sel (by repeat' (first | exact Sel.refl _ | refine Sel.q1 ?_ | refine Sel.q2 ?_)))⟩ (by omega)
    ·refine g_exit rfl ?_
     refine g_seq ?_
     refine g_region (l := [0, 1]) rfl ?_
     refine vM (lv rfl) rfl rfl ?_
     refine vA (lv rfl) rfl rfl ?_
     refine g_rq Tryz.func24 (res_t rfl res_0) ?_
     exact ⟨out, (hH.sel (by repeat' (first | exact Sel.refl _ | refine Sel.q0 ?_ | refine Sel.skip _ ?_))), (fun h => by cases h), fun _ => ⟨K, hK, hKs, by rw [hout, List.take_of_length_le (by omega)]⟩⟩
end
end Go.Proofs.YtkdbglfdgeldpaaGreat
