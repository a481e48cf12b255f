/- Contracts of the reference of layer 28: Fair, Left. Condition: plans and points only read. -/
import Derived.Test.YtkdbglfdgeldpaaGreatGap2
namespace Go.Proofs.YtkdbglfdgeldpaaGreat
open Go.Lt
def rPair (c : Config) (ls : List (List Call)) (l : List Point) (x y : Int) : Prop := (rGap c ls l x y).2.2 = true ∧ (rGap c ls l x y).1 ≤ (rGap c ls l x y).2.1
def rFairP (c : Config) (ls : List (List Call)) (l : List Point) : Prop :=
  plays c ls l ≠ none ∧ (lim ≤ (sums c ls l (-1) (-1)).all ∨ ∀ (i j : Nat) (x y : Int), j < i → (names ls l)[i]? = some x → (names ls l)[j]? = some y → rPair c ls l x y)
theorem names_len (ls : List (List Call)) : ∀ (l : List Point) (out : List Int), (l.foldl (nameStep ls) out).length ≤ out.length + l.length
  | [], out => by simp
  | x :: l, out => by
    have h1 := names_len ls l (nameStep ls out x)
    have h2 := nameStep_len ls out x
    simp only [List.foldl_cons, List.length_cons]; omega
section
variable {R : Base} {F : List HP} {w : World}
theorem r27_Fair {c : Config} {lsv xv : Value} {ls : List (List Call)} {l : List Point} (hP : RLists lsv ls R.h) (hX : RPoints xv l R.h) (hls : listsOk ls) (hl : l.length ≤ 1000000) (hgd : ∀ f g, RGood c ls l f g) (hH : Holds R F w) :
    Ret Tryz.prog 18 [vPlan c lsv, xv] w fun v w' => ∃ b : Bool, v = .bool b ∧ (b = true ↔ rFairP c ls l) ∧ Holds R F w' := by
  cases hp0 : plays c ls l with
  | none =>
    refine ret_of_g (n := 63) Tryz.func18 rfl rfl (by simp) ?_
    refine g_seq ?_
    refine g_region (l := [0, 1]) rfl ?_
    refine o_box (lv rfl) rfl (cs := [_, _, _, _, _, _]) rfl rfl hH ?_
    intro b2 w hH
    refine vA (lv rfl) rfl rfl ?_
    refine g_seq ?_
    refine g_seq ?_
    refine g_region (l := [0, 1, 2, 3]) rfl ?_
    refine o_ldN (lv rfl) rfl lk_28 rfl ⟨_, _, _, hH.c0, [_, _, _, _, _, _], rfl, rfl, ?_⟩
    refine vM (lv rfl) rfl rfl ?_
    refine o_call (lv rfl) rfl en_20 rfl (r27_Plays (c := c) hP hX hls hl hH) ?_
    rintro _ w hv
    rw [hp0] at hv; obtain ⟨rfl, hH⟩ := hv
    refine o_v (lv rfl) rfl (r_eqpn pp_42 rfl rfl) ?_
    refine g_true rfl ?_
    refine g_seq ?_
    refine g_region (l := [0]) rfl ?_
    refine vA (lv rfl) rfl rfl ?_
    refine g_rq Tryz.func18 (res_t rfl res_0) ?_
    exact ⟨_, rfl, by simp [rFairP, hp0], (hH.sel (by repeat' (first | exact Sel.refl _ | refine Sel.skip _ ?_)))⟩
  | some m0 =>
    have hcfg := plays_cfg hp0
    have hnl : (names ls l).length ≤ 1000000 := by have := names_len ls l []; unfold names; simp at this; omega
    refine ret_of_g (n := 63) Tryz.func18 rfl rfl (by simp) ?_
    refine g_seq ?_
    refine g_region (l := [0, 1]) rfl ?_
    refine o_box (lv rfl) rfl (cs := [_, _, _, _, _, _]) rfl rfl hH ?_
    intro b2 w hH
    refine vA (lv rfl) rfl rfl ?_
    refine g_seq ?_
    refine g_seq ?_
    refine g_region (l := [0, 1, 2, 3]) rfl ?_
    refine o_ldN (lv rfl) rfl lk_28 rfl ⟨_, _, _, hH.c0, [_, _, _, _, _, _], rfl, rfl, ?_⟩
    refine vM (lv rfl) rfl rfl ?_
    refine o_call (lv rfl) rfl en_20 rfl (r27_Plays (c := c) hP hX hls hl hH) ?_
    rintro _ w hv
    rw [hp0] at hv; obtain ⟨bp0, rfl, hH⟩ := hv
    refine o_v (lv rfl) rfl (r_eqpn pp_42 rfl rfl) ?_
    refine g_false rfl ?_
    refine g_skip ?_
    refine g_seq ?_
    refine g_region (l := [0, 1, 2, 3, 4, 5, 6, 7, 8, 9]) rfl ?_
    refine o_ldN (lv rfl) rfl lk_28 rfl ⟨_, _, _, hH.c1, [_, _, _, _, _, _], rfl, rfl, ?_⟩
    refine vM (lv rfl) rfl rfl ?_
    refine o_call (lv rfl) rfl en_47 rfl (r27_Sums hcfg hP hX hls hl (-1) (-1) hH) ?_
    rintro _ w ⟨rfl, hH⟩
    refine vM (lv rfl) rfl rfl ?_
    refine o_v (lv rfl) rfl (r_ex rfl rfl) ?_
    refine o_v (lv rfl) rfl (r_ex rfl rfl) ?_
    refine o_v (lv rfl) rfl (r_ex rfl rfl) ?_
    refine vA (lv rfl) rfl rfl ?_
    refine vA (lv rfl) rfl rfl ?_
    refine vA (lv rfl) rfl rfl ?_
    refine g_seq ?_
    refine g_seq ?_
    refine g_region (l := [0, 1]) rfl ?_
    refine vM (lv rfl) rfl rfl ?_
    refine o_v (lv rfl) rfl (r_ge rfl rfl) ?_
    refine g_if rfl (fun c1 => ?_) (fun c1 => ?_)
    ·refine g_seq ?_
     refine g_region (l := [0]) rfl ?_
     refine vA (lv rfl) rfl rfl ?_
     refine g_rq Tryz.func18 (res_t rfl res_0) ?_
     exact ⟨_, rfl, iff_of_true rfl ⟨by rw [hp0]; simp, .inl c1⟩, (hH.sel (by repeat' (first | exact Sel.refl _ | refine Sel.skip _ ?_)))⟩
    ·refine g_skip ?_
     refine g_seq ?_
     refine g_region (l := [0, 1, 2, 3]) rfl ?_
     refine o_ldN (lv rfl) rfl lk_28 rfl ⟨_, _, _, hH.c1, [_, _, _, _, _, _], rfl, rfl, ?_⟩
     refine vM (lv rfl) rfl rfl ?_
     refine o_call (lv rfl) rfl en_52 rfl (r27_names (c := c) hP hX hls hl hH) ?_
     rintro _ w hH
     obtain ⟨na, ncap, rfl, -⟩ := hH.rd.len
     refine vA (lv rfl) rfl rfl ?_
     refine g_seq ?_
     refine g_seq ?_
     refine g_region (l := [0]) rfl ?_
     refine vA (lv rfl) rfl rfl ?_
     refine g_block ?_
     refine g_loop (fun mm e w => ∃ (i : Nat) (e0 : Env), i ≤ (names ls l).length ∧ mm = (names ls l).length - i ∧ (∀ (i' j : Nat) (x y : Int), i' < i → j < i' → (names ls l)[i']? = some x → (names ls l)[j]? = some y → rPair c ls l x y) ∧
         e = J e0 [(1, xv), (2, .pointer (some ⟨b2, 0, none⟩)), (8, .slice na (names ls l).length ncap), (9, .int .i64 i)] ∧ Holds R (Vec 3 1 encI (.slice na (names ls l).length ncap) (names ls l) :: cel b2 (plCells c lsv) 28 :: F) w) (names ls l).length ⟨0, _, by omega, by omega, by omega, (J_self (has_s rfl (has_s rfl (has_s rfl (has_s rfl has_0))))), (hH.sel (by repeat' (first | exact Sel.refl _ | refine Sel.q0 ?_ | refine Sel.q1 ?_ | refine Sel.skip _ ?_)))⟩ ?_
     rintro mm _ w ⟨i, e0, hi, hm, hall, rfl, hH⟩ hback
     refine g_seq ?_
     refine g_seq ?_
     refine g_region (l := [0, 1, 2, 3]) rfl ?_
     refine vM (lv rfl) rfl rfl ?_
     refine vM (lv rfl) rfl rfl ?_
     refine o_v (lv rfl) rfl (r_len el_26 rfl) ?_
     refine o_v (lv rfl) rfl (r_lt rfl rfl) ?_
     refine g_if rfl (fun c2 => ?_) (fun c2 => ?_)
     ·have hil : i < (names ls l).length := by omega
      obtain ⟨x, hx⟩ : ∃ x, (names ls l)[i]? = some x := ⟨_, List.getElem?_eq_getElem hil⟩
      refine g_skip ?_
      refine g_seq ?_
      refine g_block ?_
      refine g_seq ?_
      refine g_region (l := [0]) rfl ?_
      refine vA (lv rfl) rfl rfl ?_
      refine g_block ?_
      refine g_loop (fun mm e w => ∃ (j : Nat) (e0 : Env), j ≤ i ∧ mm = i - j ∧ (∀ (j' : Nat) (y : Int), j' < j → (names ls l)[j']? = some y → rPair c ls l x y) ∧
          e = J e0 [(1, xv), (2, .pointer (some ⟨b2, 0, none⟩)), (8, .slice na (names ls l).length ncap), (9, .int .i64 i), (10, .int .i64 j)] ∧ Holds R (Vec 3 1 encI (.slice na (names ls l).length ncap) (names ls l) :: cel b2 (plCells c lsv) 28 :: F) w) i ⟨0, _, by omega, by omega, by omega, (J_self (has_s rfl (has_s rfl (has_s rfl (has_s rfl (has_s rfl has_0)))))), (hH.sel (by repeat' (first | exact Sel.refl _)))⟩ ?_
      rintro mm2 _ w ⟨j, e1, hj, hm2, hrow, rfl, hH⟩ hback2
      refine g_seq ?_
      refine g_seq ?_
      refine g_region (l := [0, 1, 2]) rfl ?_
      refine vM (lv rfl) rfl rfl ?_
      refine vM (lv rfl) rfl rfl ?_
      refine o_v (lv rfl) rfl (r_lt rfl rfl) ?_
      refine g_if rfl (fun c3 => ?_) (fun c3 => ?_)
      ·have hji : j < i := by omega
       obtain ⟨y, hy⟩ : ∃ y, (names ls l)[j]? = some y := ⟨_, List.getElem?_eq_getElem (by omega)⟩
       refine g_skip ?_
       refine g_seq ?_
       refine g_block ?_
       refine g_seq ?_
       obtain ⟨bn, on, csn, Tn, hne, hbn, hcn0⟩ := Rd.el hkI hH.rd hx
       obtain ⟨bn2, on2, csn2, Tn2, hne2, hbn2, hcn20⟩ := Rd.el hkI hH.rd hy
       obtain ⟨rfl, rfl⟩ : bn2 = bn ∧ on2 = on := by rw [hne] at hne2; cases hne2; exact ⟨rfl, rfl⟩
       rw [hne]
       have hcn := hcn0 0 _ rfl
       have hcn2 := hcn20 0 _ rfl
       refine g_regionD mixed ?_
       rintro w1 rfl; replace hH := hH.drew (n := w.drawn + 1); replace hbn := drewf (n := w.drawn + 1) hbn; replace hbn2 := drewf (n := w.drawn + 1) hbn2; generalize hw1 : { w with drawn := w.drawn + 1 } = w at hH ⊢; rw [hw1] at hbn; rw [hw1] at hbn2; clear hw1
       refine d_ldN (i := 0) [10] (lv rfl) rfl lk_28 rfl (by kernel_rfl) ⟨_, _, _, hH.c1, [_, _, _, _, _, _], rfl, rfl, ?_⟩
       refine pM 1 (lv rfl) rfl rfl ?_
       refine pM 2 (lv rfl) rfl rfl ?_
       refine pM 3 (lv rfl) rfl rfl ?_
       refine d_p (i := 4) (lv rfl) rfl (fun w => (r_ia el_26 rfl rfl ?_ ?_)) (by kernel_rfl) ?_; omega; omega
       refine d_ld (i := 5) [10] (lv rfl) rfl lk_3 rfl (by kernel_rfl) ⟨_, _, _, hbn, _, hcn, ?_⟩
       refine pM 6 (lv rfl) rfl rfl ?_
       refine pM 7 (lv rfl) rfl rfl ?_
       refine d_p (i := 8) (lv rfl) rfl (fun w => (r_ia el_26 rfl rfl ?_ ?_)) (by kernel_rfl) ?_; omega; omega
       refine d_ld (i := 9) [10] (lv rfl) rfl lk_3 rfl (by kernel_rfl) ⟨_, _, _, hbn2, _, hcn2, ?_⟩
       refine d_l (j := 10) (by kernel_rfl) ?_
       refine o_call (lv rfl) rfl en_15 rfl (r27_Gap (c := c) hP hX hls hl x y (hgd x y) hH) ?_
       rintro _ w ⟨rfl, hH⟩
       refine ⟨(keeps_in rfl (keeps_in rfl (keeps_in rfl trivial))), ?_⟩
       refine pM 11 (lv rfl) rfl rfl ?_
       refine pE 12 (lv rfl) rfl rfl rfl ?_
       refine pE 13 (lv rfl) rfl rfl rfl ?_
       refine pE 14 (lv rfl) rfl rfl rfl ?_
       refine pA 15 (lv rfl) rfl rfl ?_
       refine pA 16 (lv rfl) rfl rfl ?_
       refine pA 17 (lv rfl) rfl rfl ?_
       refine d_end (by kernel_rfl) ?_
       refine g_seq ?_
       refine g_region (l := [0, 1, 2, 3, 4, 5, 6]) rfl ?_
       refine vM (lv rfl) rfl rfl ?_
       refine o_v (lv rfl) rfl (r_not rfl) ?_
       refine vM (lv rfl) rfl rfl ?_
       refine s_opsb (fun g14_2 => ?_) (fun g14_2 => ?_)
       ·refine o_no rfl rfl rfl rfl ?_
        refine o_no rfl rfl rfl rfl ?_
        refine o_no rfl rfl rfl rfl ?_
        refine o_v (lv rfl) rfl (r_pickT rfl rfl) ?_
        refine g_true rfl ?_
        refine g_seq ?_
        refine g_region (l := [0]) rfl ?_
        refine vA (lv rfl) rfl rfl ?_
        refine g_rq Tryz.func18 (res_t rfl res_0) ?_
        exact ⟨_, rfl, iff_of_false (by simp) (fun h => (h.2.resolve_left c1 i j x y hji hx hy) |> fun h => absurd h.1 (by simpa using g14_2)), (hH.sel (by repeat' (first | exact Sel.refl _ | refine Sel.skip _ ?_)))⟩
       ·refine vM (lvg rfl rfl rfl) rfl rfl ?_
        refine vM (lvg rfl rfl rfl) rfl rfl ?_
        refine o_v (lvg rfl rfl rfl) rfl (r_gt rfl rfl) ?_
        refine o_v (lv rfl) rfl (r_pickF rfl rfl) ?_
        refine g_if rfl (fun c4 => ?_) (fun c4 => ?_)
        ·refine g_seq ?_
         refine g_region (l := [0]) rfl ?_
         refine vA (lv rfl) rfl rfl ?_
         refine g_rq Tryz.func18 (res_t rfl res_0) ?_
         exact ⟨_, rfl, iff_of_false (by simp) (fun h => (h.2.resolve_left c1 i j x y hji hx hy) |> fun h => absurd h.2 (by omega)), (hH.sel (by repeat' (first | exact Sel.refl _ | refine Sel.skip _ ?_)))⟩
        ·refine g_skip ?_
         refine g_inBlock ?_
         refine g_region (l := [0, 1, 2]) rfl ?_
         refine vM (lv rfl) rfl rfl ?_
         refine o_v (lv rfl) rfl (r_addI rfl rfl ?_) ?_; omega
         refine vA (lv rfl) rfl rfl ?_
         first
           | (exact hback2 _ _ _ ⟨j + 1, _, by omega, rfl, fun j' z hj' hz => by
                by_cases hjj : j' = j
                ·subst hjj; rw [hy] at hz; cases hz; exact ⟨by simpa using g14_2, by omega⟩
                ·exact hrow j' z (by omega) hz, by rw [← hne]; exact (J_self (has_s rfl (has_s rfl (has_s rfl (has_s rfl (has_s rfl has_0)))))), (hH.sel (by repeat' (first | exact Sel.refl _)))⟩ (by omega))
      ·refine g_exit rfl ?_
       refine g_inBlock ?_
       refine g_region (l := [0, 1, 2]) rfl ?_
       refine vM (lv rfl) rfl rfl ?_
       refine o_v (lv rfl) rfl (r_addI rfl rfl ?_) ?_; omega
       refine vA (lv rfl) rfl rfl ?_
       exact hback _ _ _ ⟨i + 1, _, by omega, rfl, fun i' j' u z hi' hj' hu hz => by
         by_cases hii : i' = i
         ·subst hii; rw [hx] at hu; cases hu; exact hrow j' z (by omega) hz
         ·exact hall i' j' u z (by omega) hj' hu hz, (J_self (has_s rfl (has_s rfl (has_s rfl (has_s rfl has_0))))), (hH.sel (by repeat' (first | exact Sel.refl _)))⟩ (by omega)
     ·refine g_exit rfl ?_
      refine g_seq ?_
      refine g_region (l := [0]) rfl ?_
      refine vA (lv rfl) rfl rfl ?_
      refine g_rq Tryz.func18 (res_t rfl res_0) ?_
      exact ⟨_, rfl, iff_of_true rfl ⟨by rw [hp0]; simp, .inr fun i' j' u z hj' hu hz => hall i' j' u z (by have := (List.getElem?_eq_some_iff.1 hu).1; omega) hj' hu hz⟩, (hH.sel (by repeat' (first | exact Sel.refl _ | refine Sel.skip _ ?_)))⟩
end
end Go.Proofs.YtkdbglfdgeldpaaGreat
