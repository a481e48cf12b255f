/- Contract of the reference of layer 28: Left. Condition: plans and points only read. -/
import Derived.Test.YtkdbglfdgeldpaaGreatRFair
namespace Go.Proofs.YtkdbglfdgeldpaaGreat
open Go.Lt
def firstF (fl : Int) (l : List Packet) : Nat := l.findIdx (fun p => p.flow == fl)
def takeP (x : Packet) (l : List Packet) : Option (List Packet) := match l[firstF x.flow l]? with
  | none => none
  | some q => if q = x then some (l.eraseIdx (firstF x.flow l)) else none
def takeAll : List Packet → List Packet → Option (List Packet)
  | [], l => some l
  | x :: xs, l => match takeP x l with
    | none => none
    | some l' => takeAll xs l'
def leftIn (ls : List (List Call)) (inn : List Packet) (x : Point) : List Packet := if came ls x then inn ++ [⟨(callOf ls x).1.flow, (callOf ls x).1.a, (callOf ls x).1.b⟩] else inn
def leftL (ls : List (List Call)) : List Point → List Packet → Option (List Packet)
  | [], inn => some inn
  | x :: l, inn => match takeAll x.ret.packets (leftIn ls inn x) with
    | none => none
    | some inn' => leftL ls l inn'
def insPos (out : List Packet) (fl : Int) : Nat → Nat
  | 0 => 0
  | k + 1 => match out[k]? with
    | none => k + 1
    | some q => if fl < q.flow then insPos out fl k else k + 1
def insF (out : List Packet) (x : Packet) : List Packet := out.take (insPos out x.flow out.length) ++ x :: out.drop (insPos out x.flow out.length)
def sortF (l : List Packet) : List Packet := l.foldl insF []
def rLeft (ls : List (List Call)) (l : List Point) : Option (List Packet) := (leftL ls l []).map sortF
theorem firstF_le (fl : Int) (l : List Packet) : firstF fl l ≤ l.length := List.findIdx_le_length
theorem firstF_at {fl : Int} {l : List Packet} {q : Nat} (h1 : ∀ (j : Nat) (y : Packet), j < q → l[j]? = some y → y.flow ≠ fl) (h2 : (q = l.length) ∨ ∃ y, l[q]? = some y ∧ y.flow = fl) : firstF fl l = q := by
  unfold firstF
  rcases h2 with rfl | ⟨y, hy, hf⟩
  ·rw [List.findIdx_eq_length]
   intro x hx
   obtain ⟨j, hj⟩ := List.getElem?_of_mem hx
   simpa using h1 j x (List.getElem?_eq_some_iff.1 hj).1 hj
  ·obtain ⟨hlt, he⟩ := List.getElem?_eq_some_iff.1 hy
   rw [List.findIdx_eq hlt]
   refine ⟨by rw [he]; simpa using hf, fun j hj => ?_⟩
   have := h1 j l[j] hj (List.getElem?_eq_getElem (by omega))
   simpa using this
theorem takeP_len {x : Packet} {l l' : List Packet} (h : takeP x l = some l') : l'.length ≤ l.length := by
  unfold takeP at h
  split at h
  ·cases h
  ·split at h
   ·cases h; exact (List.eraseIdx_sublist _ _).length_le
   ·cases h
theorem insPos_le (out : List Packet) (fl : Int) : ∀ k, insPos out fl k ≤ k
  | 0 => Nat.le_refl _
  | k + 1 => by
    unfold insPos
    split
    ·omega
    ·split
     ·have := insPos_le out fl k; omega
     ·omega
theorem insF_len (out : List Packet) (x : Packet) : (insF out x).length = out.length + 1 := by
  have := insPos_le out x.flow out.length
  unfold insF; simp; omega
instance (o : Option (List Packet)) : Decidable (o = none) := match o with
  | none => .isTrue rfl
  | some _ => .isFalse (fun h => by cases h)
section
variable {R : Base} {F : List HP} {w : World}
set_option maxHeartbeats 1000000 in
theorem r27_Left {c : Config} {lsv xv : Value} {ls : List (List Call)} {l : List Point} (hP : RLists lsv ls R.h) (hX : RPoints xv l R.h) (hls : listsOk ls) (hl : l.length ≤ 1000000) (hpk : ∀ x ∈ l, x.ret.packets.length ≤ 1000) (hH : Holds R F w) :
    Ret Tryz.prog 22 [vPlan c lsv, xv] w fun v w' => match rLeft ls l with
      | none => v = .tuple #[.slice none 0 0, .bool false] ∧ Holds R F w'
      | some out => ∃ ov, v = .tuple #[ov, .bool true] ∧ Holds R (Vec 54 3 encP ov out :: F) w' := by
  obtain ⟨sl, rfl, hsr, hsp⟩ := hX
  obtain ⟨a, cap, rfl, -⟩ := hsr.len
  rw [List.length_map] at hl
  have h0 : rLeft ls (sl.map Prod.fst) = (leftL ls ((sl.map Prod.fst).drop 0) []).map sortF := rfl
  refine ret_of_g (n := 155) Tryz.func22 rfl rfl (by simp) ?_
  refine g_seq ?_
  refine g_region (l := [0, 1, 2]) rfl ?_
  refine o_box (lv rfl) rfl (cs := [_, _, _, _, _, _]) rfl rfl hH ?_
  intro b2 w hH
  refine vA (lv rfl) rfl rfl ?_
  refine vA (lv rfl) rfl rfl ?_
  refine g_seq ?_
  refine g_region (l := [0]) rfl ?_
  refine vA (lv rfl) rfl rfl ?_
  refine g_seq ?_
  refine g_seq ?_
  refine g_region (l := [0]) rfl ?_
  refine vA (lv rfl) rfl rfl ?_
  refine g_block ?_
  refine g_loop (fun mm e w => ∃ (k : Nat) (e0 : Env) (inn : List Packet) (iv : Value), k ≤ sl.length ∧ mm = sl.length - k ∧ inn.length ≤ k ∧ rLeft ls (sl.map Prod.fst) = (leftL ls ((sl.map Prod.fst).drop k) inn).map sortF ∧
      e = J e0 [(1, .slice a sl.length cap), (2, .pointer (some ⟨b2, 0, none⟩)), (6, iv), (7, .int .i64 k)] ∧ Holds R (Vec 54 3 encP iv inn :: cel b2 (plCells c lsv) 28 :: F) w) sl.length ⟨0, _, [], _, by omega, by omega, by simp, h0, (J_self (has_s rfl (has_s rfl (has_s rfl (has_s rfl has_0))))), Holds.vnil _ _ _ (hH.sel (by repeat' (first | exact Sel.refl _)))⟩ ?_
  rintro mm _ w ⟨k, e0, inn, iv, hk, hm, hil, hpl, rfl, hH⟩ hback
  obtain ⟨ia, icap, rfl, -⟩ := hH.rd.len
  refine g_seq ?_
  refine g_seq ?_
  refine g_region (l := [0, 1, 2, 3]) rfl ?_
  refine vM (lv rfl) rfl rfl ?_
  refine vM (lv rfl) rfl rfl ?_
  refine o_v (lv rfl) rfl (r_len el_30 rfl) ?_
  refine o_v (lv rfl) rfl (r_lt rfl rfl) ?_
  refine g_if rfl (fun c0 => ?_) (fun c0 => ?_)
  ·have hkl : k < sl.length := by omega
   obtain ⟨⟨x, pv⟩, hx⟩ : ∃ x, sl[k]? = some x := ⟨_, List.getElem?_eq_getElem hkl⟩
   have hxm : (sl.map Prod.fst)[k]? = some x := by rw [List.getElem?_map, hx]; rfl
   have hpr : Rd encP pv x.ret.packets R.h := hsp _ (List.mem_of_getElem? hx)
   have hx16 := hpk x (List.mem_of_getElem? hxm)
   obtain ⟨pa, pcap, rfl, hpc⟩ := hpr.len
   obtain ⟨bp, op_, cs, T, hae, hbp, hcp0⟩ := Rd.el hkPt hsr hx
   rw [hae]; rw [hae] at hback
   have hcp := dt_of hcp0
   have hcps := hcp0 4 _ rfl
   have hcpe := hcp0 3 _ rfl
   rw [drop_S hxm, leftL] at hpl
   refine g_skip ?_
   refine g_seq ?_
   refine g_block ?_
   refine g_seq ?_
   refine g_join (fun e w => ∃ (e0 : Env) (b8 : Nat), e = J e0 [(1, .slice (some ⟨bp, op_, none⟩) sl.length cap), (2, .pointer (some ⟨b2, 0, none⟩)), (6, .slice ia inn.length icap), (7, .int .i64 k), (8, .pointer (some ⟨b8, 0, none⟩))] ∧ Holds R (Vec 54 3 encP (.slice ia inn.length icap) inn :: cel b8 [.int .i64 (callOf ls x).1.op, .int .i64 (callOf ls x).1.flow, .int .i64 (callOf ls x).1.a, .int .i64 (callOf ls x).1.b] 46 :: cel b2 (plCells c lsv) 28 :: F) w) (fun kk hkk => ?_) ?_
   ·refine g_regionD mixed ?_
    rintro w1 rfl; replace hH := hH.drew (n := w.drawn + 1); try replace hby := drewf (n := w.drawn + 1) hby; try replace hbo := drewf (n := w.drawn + 1) hbo; try replace hbi := drewf (n := w.drawn + 1) hbi; try replace hby := drewf (n := w.drawn + 1) hby; try replace hbi := drewf (n := w.drawn + 1) hbi; generalize hw1 : { w with drawn := w.drawn + 1 } = w at hH ⊢; try rw [hw1] at hby; try rw [hw1] at hbo; try rw [hw1] at hbi; try rw [hw1] at hby; try rw [hw1] at hbi; clear hw1
    refine d_ldN (i := 0) [5, 10] (lv rfl) rfl lk_28 rfl (by kernel_rfl) ⟨_, _, _, hH.c1, [_, _, _, _, _, _], rfl, rfl, ?_⟩
    refine pM 1 (lv rfl) rfl rfl ?_
    refine pM 2 (lv rfl) rfl rfl ?_
    refine d_p (i := 3) (lv rfl) rfl (fun w => (r_ia el_30 rfl rfl ?_ ?_)) (by kernel_rfl) ?_; omega; omega
    refine d_ldN (i := 4) [5, 10] (lv rfl) rfl lk_59 rfl (by kernel_rfl) ⟨_, _, _, hH.old hbp, _, hcp, rfl, ?_⟩
    refine d_l2 (j := 5) (j2 := 9) (by kernel_rfl) ?_ ?_
    ·refine o_call (lv rfl) rfl en_48 rfl (r27_Call (c := c) hP (by have := hls.1; omega) x hH) ?_
     rintro _ w ⟨rfl, hH⟩
     refine ⟨(keeps_in rfl (keeps_in rfl trivial)), ?_⟩
     refine pM 6 (lv rfl) rfl rfl ?_
     refine pE 7 (lv rfl) rfl rfl rfl ?_
     refine pE 8 (lv rfl) rfl rfl rfl ?_
     refine d_l (j := 9) (by kernel_rfl) ?_
     refine o_al (lv rfl) rfl ze_46 hH ?_
     intro b8 w hH
     refine ⟨(keeps_cons (fun _ => (by exact hH.old ‹_›)) (keeps_cons (fun _ => (by exact hH.c2)) trivial)), ?_⟩
     refine d_l (j := 10) (by kernel_rfl) ?_
     refine o_st (lv rfl) rfl lk_46 rfl (vs := [_, _, _, _]) rfl rfl (by exact hH) rfl rfl (by simp) rfl ?_
     intro w hH; dsimp only [setL, List.set] at hH
     refine ⟨(keeps_in rfl (keeps_in rfl trivial)), ?_⟩
     refine pA 11 (lv rfl) rfl rfl ?_
     refine d_end (by kernel_rfl) ?_
     exact hkk _ _ ⟨_, _, (J_self (has_s rfl (has_s rfl (has_s rfl (has_s rfl (has_s rfl has_0)))))), (hH.sel (by repeat' (first | exact Sel.refl _ | refine Sel.q1 ?_)))⟩
    ·refine o_al (lv rfl) rfl ze_46 hH ?_
     intro b8 w hH
     refine ⟨(keeps_cons (fun _ => (by exact hH.old ‹_›)) (keeps_cons (fun _ => (by exact hH.c2)) trivial)), ?_⟩
     refine d_l (j := 5) (by kernel_rfl) ?_
     refine o_call (lv rfl) rfl en_48 rfl (r27_Call (c := c) hP (by have := hls.1; omega) x hH) ?_
     rintro _ w ⟨rfl, hH⟩
     refine ⟨(keeps_in rfl (keeps_in rfl trivial)), ?_⟩
     refine pM 6 (lv rfl) rfl rfl ?_
     refine pE 7 (lv rfl) rfl rfl rfl ?_
     refine pE 8 (lv rfl) rfl rfl rfl ?_
     refine d_l (j := 10) (by kernel_rfl) ?_
     refine o_st (lv rfl) rfl lk_46 rfl (vs := [_, _, _, _]) rfl rfl (by exact hH) rfl rfl (by simp) rfl ?_
     intro w hH; dsimp only [setL, List.set] at hH
     refine ⟨(keeps_in rfl (keeps_in rfl trivial)), ?_⟩
     refine pA 11 (lv rfl) rfl rfl ?_
     refine d_end (by kernel_rfl) ?_
     exact hkk _ _ ⟨_, _, (J_self (has_s rfl (has_s rfl (has_s rfl (has_s rfl (has_s rfl has_0)))))), (hH.sel (by repeat' (first | exact Sel.refl _ | refine Sel.q1 ?_)))⟩
   ·rintro _ w ⟨e1, b8, rfl, hH⟩
    refine g_seq ?_
    refine g_seq ?_
    refine g_join (fun e w => ∃ (e0 : Env), e = J e0 [(1, .slice (some ⟨bp, op_, none⟩) sl.length cap), (2, .pointer (some ⟨b2, 0, none⟩)), (6, .slice ia inn.length icap), (7, .int .i64 k), (8, .pointer (some ⟨b8, 0, none⟩)), (44, .bool (decide (came ls x)))] ∧ Holds R (Vec 54 3 encP (.slice ia inn.length icap) inn :: cel b8 [.int .i64 (callOf ls x).1.op, .int .i64 (callOf ls x).1.flow, .int .i64 (callOf ls x).1.a, .int .i64 (callOf ls x).1.b] 46 :: cel b2 (plCells c lsv) 28 :: F) w) (fun kk hkk => ?_) ?_
    ·refine g_region (l := [0, 1, 2, 3, 4, 5, 6, 7, 8, 9, 10, 11]) rfl ?_
     refine o_v (lv rfl) rfl (r_fa fa_46_0 rfl) ?_
     refine o_ld (lv rfl) rfl lk_3 rfl ⟨_, _, _, hH.c1, _, rfl, ?_⟩
     refine o_v (lv rfl) rfl (r_eq rfl rfl) ?_
     refine vM (lv rfl) rfl rfl ?_
     refine s_ops (fun g6_3 => ?_) (fun g6_3 => ?_)
     ·refine vM (lvg rfl rfl rfl) rfl rfl ?_
      refine vM (lvg rfl rfl rfl) rfl rfl ?_
      refine o_v (lvg rfl rfl rfl) rfl (r_ia el_30 rfl rfl ?_ ?_) ?_; omega; omega
      refine o_v (lvg rfl rfl rfl) rfl (r_fa fa_59_3 rfl) ?_
      refine o_v (lvg rfl rfl rfl) rfl (r_fa fa_57_0 rfl) ?_
      refine o_ld (lvg rfl rfl rfl) rfl lk_55 rfl ⟨_, _, _, hH.old hbp, _, hcpe, ?_⟩
      refine o_v (lvg rfl rfl rfl) rfl (r_eq rfl rfl) ?_
      refine o_v (lv rfl) rfl (r_pickT rfl rfl) ?_
      (have g63 : (callOf ls x).1.op = 3 := g6_3
       have hde : decide (came ls x) = decide (x.ret.e = 0) := by rw [decide_eq_decide]; exact ⟨fun h => h.2, fun h => ⟨g63, h⟩⟩
       exact hkk _ _ ⟨_, by rw [hde]; exact (J_self (has_s rfl (has_s rfl (has_s rfl (has_s rfl (has_s rfl (has_s rfl has_0))))))), (hH.sel (by repeat' (first | exact Sel.refl _)))⟩)
     ·refine o_no rfl rfl rfl rfl ?_
      refine o_no rfl rfl rfl rfl ?_
      refine o_no rfl rfl rfl rfl ?_
      refine o_no rfl rfl rfl rfl ?_
      refine o_no rfl rfl rfl rfl ?_
      refine o_no rfl rfl rfl rfl ?_
      refine o_no rfl rfl rfl rfl ?_
      refine o_v (lv rfl) rfl (r_pickF rfl rfl) ?_
      (have g63 : ¬ (callOf ls x).1.op = 3 := g6_3
       have hde : decide (came ls x) = false := decide_eq_false (fun h => g63 h.1)
       exact hkk _ _ ⟨_, by rw [hde]; exact (J_self (has_s rfl (has_s rfl (has_s rfl (has_s rfl (has_s rfl (has_s rfl has_0))))))), (hH.sel (by repeat' (first | exact Sel.refl _)))⟩)
    ·rintro _ w ⟨e2, rfl, hH⟩
     refine g_join (fun e w => ∃ (e0 : Env) (iv1 : Value), e = J e0 [(1, .slice (some ⟨bp, op_, none⟩) sl.length cap), (2, .pointer (some ⟨b2, 0, none⟩)), (6, iv1), (7, .int .i64 k)] ∧ Holds R (Vec 54 3 encP iv1 (leftIn ls inn x) :: cel b2 (plCells c lsv) 28 :: F) w) (fun kk hkk => ?_) ?_
     ·refine g_if rfl (fun c1 => ?_) (fun c1 => ?_)
      ·refine g_region (l := [0, 1, 2, 3, 4, 5, 6, 7, 8, 9, 10]) rfl ?_
       refine vM (lv rfl) rfl rfl ?_
       refine o_v (lv rfl) rfl (r_fa fa_46_1 rfl) ?_
       refine o_ld (lv rfl) rfl lk_3 rfl ⟨_, _, _, hH.c1, _, rfl, ?_⟩
       refine o_v (lv rfl) rfl (r_fa fa_46_2 rfl) ?_
       refine o_ld (lv rfl) rfl lk_3 rfl ⟨_, _, _, hH.c1, _, rfl, ?_⟩
       refine o_v (lv rfl) rfl (r_fa fa_46_3 rfl) ?_
       refine o_ld (lv rfl) rfl lk_3 rfl ⟨_, _, _, hH.c1, _, rfl, ?_⟩
       refine o_v (lv rfl) rfl (r_bld (ps := [_, _, _]) (cs := [_, _, _]) pl_54 rfl rfl) ?_
       refine o_bs (lv rfl) rfl el_48 ze_54 rfl rfl rfl (ps := [_]) rfl rfl rfl (cs := [_, _, _]) rfl hH ?_
       intro b53 w hH
       refine o_app (enc := encP) (lv rfl) rfl el_48 ze_54 rfl (fun _ => rfl) (fun _ => rfl) rfl rfl (by exact hH.p1) (rd_of_cel [(⟨(callOf ls x).1.flow, (callOf ls x).1.a, (callOf ls x).1.b⟩ : Packet)] (by exact hH.c0) rfl) (by simp; omega) (by simp; omega) ?_
       intro v54 w hH; obtain ⟨a54, k54, rfl, -⟩ := hH.rd.len
       refine vA (lv rfl) rfl rfl ?_
       (have hin : (leftIn ls inn x) = inn ++ [⟨(callOf ls x).1.flow, (callOf ls x).1.a, (callOf ls x).1.b⟩] := by unfold leftIn; rw [if_pos c1]
        exact hkk _ _ ⟨_, _, (J_self (has_s rfl (has_s rfl (has_s rfl (has_s rfl has_0))))), by rw [hin]; exact (hH.sel (by repeat' (first | exact Sel.refl _ | refine Sel.q0 ?_ | refine Sel.q2 ?_ | refine Sel.skip _ ?_)))⟩)
      ·refine g_skip ?_
       (have hin : (leftIn ls inn x) = inn := by unfold leftIn; rw [if_neg c1]
        exact hkk _ _ ⟨_, _, (J_self (has_s rfl (has_s rfl (has_s rfl (has_s rfl has_0))))), by rw [hin]; exact (hH.sel (by repeat' (first | exact Sel.refl _ | refine Sel.q0 ?_ | refine Sel.q1 ?_ | refine Sel.skip _ ?_)))⟩)
     ·rintro _ w ⟨e3, iv1, rfl, hH⟩
      have hi1l : (leftIn ls inn x).length ≤ k + 1 := by
        unfold leftIn; split
        ·simp; omega
        ·omega
      refine g_seq ?_
      refine g_region (l := [0]) rfl ?_
      refine vA (lv rfl) rfl rfl ?_
      refine g_block ?_
      refine g_loop (fun mm e w => ∃ (j : Nat) (e0 : Env) (cur : List Packet) (iv : Value), j ≤ x.ret.packets.length ∧ mm = x.ret.packets.length - j ∧ cur.length ≤ k + 1 ∧ takeAll x.ret.packets (leftIn ls inn x) = takeAll (x.ret.packets.drop j) cur ∧
          e = J e0 [(1, .slice (some ⟨bp, op_, none⟩) sl.length cap), (2, .pointer (some ⟨b2, 0, none⟩)), (6, iv), (7, .int .i64 k), (10, .int .i64 j)] ∧ Holds R (Vec 54 3 encP iv cur :: cel b2 (plCells c lsv) 28 :: F) w) x.ret.packets.length ⟨0, _, (leftIn ls inn x), _, by omega, by omega, hi1l, rfl, (J_self (has_s rfl (has_s rfl (has_s rfl (has_s rfl (has_s rfl has_0)))))), (hH.sel (by repeat' (first | exact Sel.refl _)))⟩ ?_
      rintro mm2 _ w ⟨j, e4, cur, iv, hj, hm2, hcl, hte, rfl, hH⟩ hback2
      obtain ⟨ia1, icap1, rfl, -⟩ := hH.rd.len
      refine g_seq ?_
      refine g_seq ?_
      refine g_region (l := [0, 1, 2, 3, 4, 5, 6, 7, 8]) rfl ?_
      refine vM (lv rfl) rfl rfl ?_
      refine vM (lv rfl) rfl rfl ?_
      refine vM (lv rfl) rfl rfl ?_
      refine o_v (lv rfl) rfl (r_ia el_30 rfl rfl ?_ ?_) ?_; omega; omega
      refine o_v (lv rfl) rfl (r_fa fa_59_3 rfl) ?_
      refine o_v (lv rfl) rfl (r_fa fa_57_1 rfl) ?_
      refine o_ld (lv rfl) rfl lk_48 rfl ⟨_, _, _, hH.old hbp, _, hcps, ?_⟩
      refine o_v (lv rfl) rfl (r_len el_48 rfl) ?_
      refine o_v (lv rfl) rfl (r_lt rfl rfl) ?_
      refine g_if rfl (fun c2 => ?_) (fun c2 => ?_)
      ·have hjl : j < x.ret.packets.length := by omega
       obtain ⟨p, hp2⟩ : ∃ p, x.ret.packets[j]? = some p := ⟨_, List.getElem?_eq_getElem hjl⟩
       obtain ⟨bx, ox, csx, Tx, hpe, hbx, hcx0⟩ := Rd.el hkP hpr hp2
       rw [hpe]; rw [hpe] at hcps
       have hcx := dt_of hcx0
       rw [show x.ret.packets.drop j = p :: x.ret.packets.drop (j + 1) from by
         obtain ⟨h1, h2⟩ := List.getElem?_eq_some_iff.1 hp2
         rw [List.drop_eq_getElem_cons h1, h2], takeAll] at hte
       refine g_skip ?_
       refine g_seq ?_
       refine g_block ?_
       refine g_seq ?_
       refine g_region (l := [0, 1, 2, 3, 4, 5, 6, 7, 8, 9, 10]) rfl ?_
       refine vM (lv rfl) rfl rfl ?_
       refine vM (lv rfl) rfl rfl ?_
       refine o_v (lv rfl) rfl (r_ia el_30 rfl rfl ?_ ?_) ?_; omega; omega
       refine o_v (lv rfl) rfl (r_fa fa_59_3 rfl) ?_
       refine o_v (lv rfl) rfl (r_fa fa_57_1 rfl) ?_
       refine o_ld (lv rfl) rfl lk_48 rfl ⟨_, _, _, hH.old hbp, _, hcps, ?_⟩
       refine vM (lv rfl) rfl rfl ?_
       refine o_v (lv rfl) rfl (r_ia el_48 rfl rfl ?_ ?_) ?_; omega; omega
       refine o_ldN (lv rfl) rfl lk_54 rfl ⟨_, _, _, hH.old hbx, _, hcx, rfl, ?_⟩
       refine o_al (lv rfl) rfl ze_54 hH ?_
       intro b11 w hH
       refine o_st (lv rfl) rfl lk_54 rfl (vs := [_, _, _]) rfl rfl (by exact hH) rfl rfl (by simp) rfl ?_
       intro w hH; dsimp only [setL, List.set] at hH
       refine g_seq ?_
       refine g_region (l := [0]) rfl ?_
       refine vA (lv rfl) rfl rfl ?_
       refine g_seq ?_
       refine g_join (fun e w => ∃ (e0 : Env), e = J e0 [(1, .slice (some ⟨bp, op_, none⟩) sl.length cap), (2, .pointer (some ⟨b2, 0, none⟩)), (6, .slice ia1 cur.length icap1), (7, .int .i64 k), (10, .int .i64 j), (11, .pointer (some ⟨b11, 0, none⟩)), (12, .int .i64 (firstF p.flow cur))] ∧ Holds R (Vec 54 3 encP (.slice ia1 cur.length icap1) cur :: cel b11 [.int .i64 p.flow, .int .i64 p.len, .int .i64 p.mark] 54 :: cel b2 (plCells c lsv) 28 :: F) w) (fun kk hkk => ?_) ?_
       ·refine g_block ?_
        refine g_loop (fun mm e w => ∃ (q : Nat) (e0 : Env), q ≤ cur.length ∧ mm = cur.length - q ∧ (∀ (j : Nat) (y : Packet), j < q → cur[j]? = some y → y.flow ≠ p.flow) ∧
            e = J e0 [(1, .slice (some ⟨bp, op_, none⟩) sl.length cap), (2, .pointer (some ⟨b2, 0, none⟩)), (6, .slice ia1 cur.length icap1), (7, .int .i64 k), (10, .int .i64 j), (11, .pointer (some ⟨b11, 0, none⟩)), (12, .int .i64 q)] ∧ Holds R (Vec 54 3 encP (.slice ia1 cur.length icap1) cur :: cel b11 [.int .i64 p.flow, .int .i64 p.len, .int .i64 p.mark] 54 :: cel b2 (plCells c lsv) 28 :: F) w) cur.length ⟨0, _, by omega, by omega, by omega, (J_self (has_s rfl (has_s rfl (has_s rfl (has_s rfl (has_s rfl (has_s rfl (has_s rfl has_0)))))))), (hH.sel (by repeat' (first | exact Sel.refl _ | refine Sel.q1 ?_)))⟩ ?_
        rintro mm3 _ w ⟨q, e5, hq, hm3, hno, rfl, hH⟩ hback3
        refine g_seq ?_
        refine g_seq ?_
        refine g_regionD mixed ?_
        rintro w1 rfl; replace hH := hH.drew (n := w.drawn + 1); try replace hby := drewf (n := w.drawn + 1) hby; try replace hbo := drewf (n := w.drawn + 1) hbo; try replace hbi := drewf (n := w.drawn + 1) hbi; try replace hby := drewf (n := w.drawn + 1) hby; try replace hbi := drewf (n := w.drawn + 1) hbi; generalize hw1 : { w with drawn := w.drawn + 1 } = w at hH ⊢; try rw [hw1] at hby; try rw [hw1] at hbo; try rw [hw1] at hbi; try rw [hw1] at hby; try rw [hw1] at hbi; clear hw1
        refine pM 0 (lv rfl) rfl rfl ?_
        refine pM 1 (lv rfl) rfl rfl ?_
        refine d_p (i := 2) (lv rfl) rfl (fun w => (r_len el_48 rfl)) (by kernel_rfl) ?_
        refine d_p (i := 3) (lv rfl) rfl (fun w => (r_lt rfl rfl)) (by kernel_rfl) ?_
        refine pM 4 (lv rfl) rfl rfl ?_
        refine s_opd (fun g13_4 => ?_) (fun g13_4 => ?_)
        ·obtain ⟨y, hy⟩ : ∃ y, cur[q]? = some y := ⟨_, List.getElem?_eq_getElem (by omega)⟩
         obtain ⟨by_, oy, csy, Ty, hye, hby, hcy0⟩ := Rd.el hkP hH.rd hy
         rw [hye]; rw [hye] at hH hback3 hkk
         have hcy := hcy0 0 _ rfl
         refine pM 5 (lvg rfl rfl rfl) rfl rfl ?_
         refine pM 6 (lvg rfl rfl rfl) rfl rfl ?_
         refine d_p (i := 7) (lvg rfl rfl rfl) rfl (fun w => (r_ia el_48 rfl rfl ?_ ?_)) (by kernel_rfl) ?_; omega; omega
         refine pF 8 (lvg rfl rfl rfl) rfl fa_54_0 rfl ?_
         refine d_ld (i := 9) [] (lvg rfl rfl rfl) rfl lk_3 rfl (by kernel_rfl) ⟨_, _, _, hby, _, hcy, ?_⟩
         refine pF 10 (lvg rfl rfl rfl) rfl fa_54_0 rfl ?_
         refine d_ld (i := 11) [] (lvg rfl rfl rfl) rfl lk_3 rfl (by kernel_rfl) ⟨_, _, _, hH.c1, _, rfl, ?_⟩
         refine d_p (i := 12) (lvg rfl rfl rfl) rfl (fun w => (r_ne rfl rfl)) (by kernel_rfl) ?_
         refine d_p (i := 13) (lv rfl) rfl (fun w => (r_pickT rfl rfl)) (by kernel_rfl) ?_
         refine d_end (by kernel_rfl) ?_
         refine g_if rfl (fun c3 => ?_) (fun c3 => ?_)
         ·refine g_skip ?_
          refine g_block ?_
          refine g_region (l := [0, 1, 2]) rfl ?_
          refine vM (lv rfl) rfl rfl ?_
          refine o_v (lv rfl) rfl (r_addI rfl rfl ?_) ?_; omega
          refine vA (lv rfl) rfl rfl ?_
          refine g_inBlock ?_
          exact hback3 _ _ _ ⟨q + 1, _, by omega, rfl, fun j' z hj' hz => by
            by_cases hjq : j' = q
            ·subst hjq; rw [hy] at hz; cases hz; exact c3
            ·exact hno j' z (by omega) hz, (J_self (has_s rfl (has_s rfl (has_s rfl (has_s rfl (has_s rfl (has_s rfl (has_s rfl has_0)))))))), (hH.sel (by repeat' (first | exact Sel.refl _)))⟩ (by omega)
         ·refine g_exit rfl ?_
          (have hf : firstF p.flow cur = q := firstF_at hno (.inr ⟨y, hy, by omega⟩)
           exact hkk _ _ ⟨_, by rw [hf]; exact (J_self (has_s rfl (has_s rfl (has_s rfl (has_s rfl (has_s rfl (has_s rfl (has_s rfl has_0)))))))), (hH.sel (by repeat' (first | exact Sel.refl _)))⟩)
        ·refine pO 5 rfl rfl rfl rfl ?_
         refine pO 6 rfl rfl rfl rfl ?_
         refine pO 7 rfl rfl rfl rfl ?_
         refine pO 8 rfl rfl rfl rfl ?_
         refine pO 9 rfl rfl rfl rfl ?_
         refine pO 10 rfl rfl rfl rfl ?_
         refine pO 11 rfl rfl rfl rfl ?_
         refine pO 12 rfl rfl rfl rfl ?_
         refine d_p (i := 13) (lv rfl) rfl (fun w => (r_pickF rfl rfl)) (by kernel_rfl) ?_
         refine d_end (by kernel_rfl) ?_
         refine g_false rfl ?_
         refine g_exit rfl ?_
         (have hf : firstF p.flow cur = q := firstF_at hno (.inl (by omega))
          exact hkk _ _ ⟨_, by rw [hf]; exact (J_self (has_s rfl (has_s rfl (has_s rfl (has_s rfl (has_s rfl (has_s rfl (has_s rfl has_0)))))))), (hH.sel (by repeat' (first | exact Sel.refl _)))⟩)
       ·rintro _ w ⟨e6, rfl, hH⟩
        have hfle := firstF_le p.flow cur
        refine g_seq ?_
        refine g_seq ?_
        refine g_join (fun e w => ∃ (e0 : Env), e = J e0 [(1, .slice (some ⟨bp, op_, none⟩) sl.length cap), (2, .pointer (some ⟨b2, 0, none⟩)), (6, .slice ia1 cur.length icap1), (7, .int .i64 k), (10, .int .i64 j), (12, .int .i64 (firstF p.flow cur)), (102, .bool (decide (takeP p cur = none)))] ∧ Holds R (Vec 54 3 encP (.slice ia1 cur.length icap1) cur :: cel b2 (plCells c lsv) 28 :: F) w) (fun kk hkk => ?_) ?_
        ·refine g_regionD mixed ?_
         rintro w1 rfl; replace hH := hH.drew (n := w.drawn + 1); try replace hby := drewf (n := w.drawn + 1) hby; try replace hbo := drewf (n := w.drawn + 1) hbo; try replace hbi := drewf (n := w.drawn + 1) hbi; try replace hby := drewf (n := w.drawn + 1) hby; try replace hbi := drewf (n := w.drawn + 1) hbi; generalize hw1 : { w with drawn := w.drawn + 1 } = w at hH ⊢; try rw [hw1] at hby; try rw [hw1] at hbo; try rw [hw1] at hbi; try rw [hw1] at hby; try rw [hw1] at hbi; clear hw1
         refine pM 0 (lv rfl) rfl rfl ?_
         refine pM 1 (lv rfl) rfl rfl ?_
         refine d_p (i := 2) (lv rfl) rfl (fun w => (r_len el_48 rfl)) (by kernel_rfl) ?_
         refine d_p (i := 3) (lv rfl) rfl (fun w => (r_eq rfl rfl)) (by kernel_rfl) ?_
         refine pM 4 (lv rfl) rfl rfl ?_
         refine s_opd (fun g15_4 => ?_) (fun g15_4 => ?_)
         ·refine pO 5 rfl rfl rfl rfl ?_
          refine pO 6 rfl rfl rfl rfl ?_
          refine pO 7 rfl rfl rfl rfl ?_
          refine pO 8 rfl rfl rfl rfl ?_
          refine pO 9 rfl rfl rfl rfl ?_
          refine pO 10 rfl rfl rfl rfl ?_
          refine d_p (i := 11) (lv rfl) rfl (fun w => (r_pickT rfl rfl)) (by kernel_rfl) ?_
          refine d_end (by kernel_rfl) ?_
          (have g15 : ((firstF p.flow cur : Nat) : Int) = cur.length := g15_4
           have hde : decide (takeP p cur = none) = true := decide_eq_true (by unfold takeP; rw [List.getElem?_eq_none (by omega)])
           exact hkk _ _ ⟨_, by rw [hde]; exact (J_self (has_s rfl (has_s rfl (has_s rfl (has_s rfl (has_s rfl (has_s rfl (has_s rfl has_0)))))))), (hH.sel (by repeat' (first | exact Sel.refl _ | refine Sel.q0 ?_ | refine Sel.q1 ?_ | refine Sel.skip _ ?_)))⟩)
         ·obtain ⟨y, hy⟩ : ∃ y, cur[firstF p.flow cur]? = some y := ⟨_, List.getElem?_eq_getElem (by omega)⟩
          obtain ⟨by_, oy, csy, Ty, hye, hby, hcy0⟩ := Rd.el hkP hH.rd hy
          rw [hye]; rw [hye] at hH hkk
          have hcyN := dt_of hcy0
          refine pM 5 (lvg rfl rfl rfl) rfl rfl ?_
          refine pM 6 (lvg rfl rfl rfl) rfl rfl ?_
          refine d_p (i := 7) (lvg rfl rfl rfl) rfl (fun w => (r_ia el_48 rfl rfl ?_ ?_)) (by kernel_rfl) ?_; omega; omega
          refine d_ldN (i := 8) [] (lvg rfl rfl rfl) rfl lk_54 rfl (by kernel_rfl) ⟨_, _, _, hby, _, hcyN, rfl, ?_⟩
          refine d_ldN (i := 9) [] (lvg rfl rfl rfl) rfl lk_54 rfl (by kernel_rfl) ⟨_, _, _, hH.c1, [_, _, _], rfl, rfl, ?_⟩
          refine d_p (i := 10) (lvg rfl rfl rfl) rfl (fun w => (r_nest fi_54 rfl rfl rfl rfl)) (by kernel_rfl) ?_
          refine d_p (i := 11) (lv rfl) rfl (fun w => (r_pickF rfl rfl)) (by kernel_rfl) ?_
          refine d_end (by kernel_rfl) ?_
          (have hyy := hcyN
           have hde : decide (takeP p cur = none) = decide ([y.flow, y.len, y.mark] ≠ [p.flow, p.len, p.mark]) := by
             rw [decide_eq_decide]; unfold takeP; rw [hy]; obtain ⟨y1, y2, y3⟩ := y; obtain ⟨p1, p2, p3⟩ := p; simp
           exact hkk _ _ ⟨_, by rw [hde]; exact (J_self (has_s rfl (has_s rfl (has_s rfl (has_s rfl (has_s rfl (has_s rfl (has_s rfl has_0)))))))), (hH.sel (by repeat' (first | exact Sel.refl _ | refine Sel.q0 ?_ | refine Sel.q1 ?_ | refine Sel.skip _ ?_)))⟩)
        ·rintro _ w ⟨e7, rfl, hH⟩
         refine g_if rfl (fun c4 => ?_) (fun c4 => ?_)
         ·refine g_seq ?_
          refine g_region (l := [0, 1]) rfl ?_
          refine vA (lv rfl) rfl rfl ?_
          refine vA (lv rfl) rfl rfl ?_
          refine g_rq Tryz.func22 (res_t rfl (res_t rfl res_0)) ?_
          (rw [show rLeft ls (sl.map Prod.fst) = none from by rw [hpl, hte]; rw [c4]; rfl]
           exact ⟨rfl, (hH.sel (by repeat' (first | exact Sel.refl _ | refine Sel.skip _ ?_)))⟩)
         ·obtain ⟨cur', hcur⟩ : ∃ cur', takeP p cur = some cur' := Option.ne_none_iff_exists'.1 c4
          have hcl' := takeP_len hcur
          rw [hcur] at hte
          dsimp only at hte
          have hflt : firstF p.flow cur < cur.length := by
            rcases Nat.lt_or_ge (firstF p.flow cur) cur.length with h | h
            ·exact h
            ·unfold takeP at hcur; rw [List.getElem?_eq_none h] at hcur; cases hcur
          have hce : cur' = cur.take (firstF p.flow cur) ++ cur.drop (firstF p.flow cur + 1) := by
            unfold takeP at hcur
            split at hcur
            ·cases hcur
            ·split at hcur
             ·cases hcur; exact List.eraseIdx_eq_take_drop_succ _ _
             ·cases hcur
          refine g_skip ?_
          refine g_seq ?_
          refine g_region (l := [0, 1, 2, 3, 4]) rfl ?_
          refine vM (lv rfl) rfl rfl ?_
          refine vM (lv rfl) rfl rfl ?_
          refine o_slr hkP 0 (firstF p.flow cur) (lv rfl) rfl el_48 rfl hH.rd bnd_n (bnd_s rfl) (by omega) (by omega) (fun sv1 hsv1 => ?_)
          refine o_app (enc := encP) (lv rfl) rfl el_48 ze_54 rfl (fun _ => rfl) (fun _ => rfl) rfl rfl (hH.vnil _ _ _) (hsv1 _ (by exact hH.rd)) (by simp; omega) (by simp; omega) ?_
          intro v106 w hH; obtain ⟨a106, k106, rfl, -⟩ := hH.rd.len
          refine vA (lv rfl) rfl rfl ?_
          refine g_region (l := [0, 1, 2, 3, 4, 5, 6]) rfl ?_
          refine vM (lv rfl) rfl rfl ?_
          refine vM (lv rfl) rfl rfl ?_
          refine vM (lv rfl) rfl rfl ?_
          refine o_v (lv rfl) rfl (r_addI rfl rfl ?_) ?_; omega
          refine o_slr hkP (firstF p.flow cur + 1) cur.length (lv rfl) rfl el_48 rfl (by exact hH.p1.rd) (bnd_s rfl) bnd_n (by omega) (by omega) (fun sv2 hsv2 => ?_)
          refine o_app (enc := encP) (lv rfl) rfl el_48 ze_54 rfl (fun _ => rfl) (fun _ => rfl) rfl rfl (by exact hH) (hsv2 _ (by exact hH.p1.rd)) (by simp; omega) (by simp; omega) ?_
          intro v112 w hH; obtain ⟨a112, k112, rfl, -⟩ := hH.rd.len
          refine vA (lv rfl) rfl rfl ?_
          refine g_inBlock ?_
          refine g_region (l := [0, 1, 2]) rfl ?_
          refine vM (lv rfl) rfl rfl ?_
          refine o_v (lv rfl) rfl (r_addI rfl rfl ?_) ?_; omega
          refine vA (lv rfl) rfl rfl ?_
          have hce2 : [] ++ List.drop 0 (List.take (firstF p.flow cur) cur) ++ List.drop (firstF p.flow cur + 1) (List.take cur.length cur) = cur' := by rw [hce]; simp
          rw [hce2] at hH ⊢
          exact hback2 _ _ _ ⟨j + 1, _, cur', _, by omega, rfl, by omega, hte, (J_self (has_s rfl (has_s rfl (has_s rfl (has_s rfl (has_s rfl has_0)))))), (hH.sel (by repeat' (first | exact Sel.refl _ | refine Sel.q0 ?_ | refine Sel.q1 ?_ | refine Sel.skip _ ?_)))⟩ (by omega)
      ·refine g_exit rfl ?_
       refine g_inBlock ?_
       refine g_region (l := [0, 1, 2]) rfl ?_
       refine vM (lv rfl) rfl rfl ?_
       refine o_v (lv rfl) rfl (r_addI rfl rfl ?_) ?_; omega
       refine vA (lv rfl) rfl rfl ?_
       rw [hte, List.drop_of_length_le (by omega)] at hpl
       exact hback _ _ _ ⟨k + 1, _, cur, _, by omega, rfl, hcl, hpl, (J_self (has_s rfl (has_s rfl (has_s rfl (has_s rfl has_0))))), (hH.sel (by repeat' (first | exact Sel.refl _)))⟩ (by omega)
  ·refine g_exit rfl ?_
   refine g_seq ?_
   refine g_region (l := [0]) rfl ?_
   refine vA (lv rfl) rfl rfl ?_
   refine g_seq ?_
   refine g_seq ?_
   refine g_region (l := [0]) rfl ?_
   refine vA (lv rfl) rfl rfl ?_
   refine g_block ?_
   rw [List.drop_of_length_le (by simp; omega)] at hpl
   replace hpl : rLeft ls (sl.map Prod.fst) = some (sortF inn) := hpl
   rw [hpl]
   refine g_loop (fun mm e w => ∃ (i : Nat) (e0 : Env) (out : List Packet) (ov : Value), i ≤ inn.length ∧ mm = inn.length - i ∧ out.length ≤ i ∧ sortF inn = (inn.drop i).foldl insF out ∧
       e = J e0 [(6, .slice ia inn.length icap), (14, ov), (15, .int .i64 i)] ∧ Holds R (Vec 54 3 encP ov out :: Vec 54 3 encP (.slice ia inn.length icap) inn :: F) w) inn.length ⟨0, _, [], _, by omega, by omega, by simp, rfl, (J_self (has_s rfl (has_s rfl (has_s rfl has_0)))), Holds.vnil _ _ _ (hH.sel (by repeat' (first | exact Sel.refl _ | refine Sel.q0 ?_ | refine Sel.skip _ ?_)))⟩ ?_
   rintro mm _ w ⟨i, e1, out, ov, hi, hm4, hol, hso, rfl, hH⟩ hback4
   obtain ⟨oa, ocap, rfl, -⟩ := hH.rd.len
   refine g_seq ?_
   refine g_seq ?_
   refine g_region (l := [0, 1, 2, 3]) rfl ?_
   refine vM (lv rfl) rfl rfl ?_
   refine vM (lv rfl) rfl rfl ?_
   refine o_v (lv rfl) rfl (r_len el_48 rfl) ?_
   refine o_v (lv rfl) rfl (r_lt rfl rfl) ?_
   refine g_if rfl (fun c5 => ?_) (fun c5 => ?_)
   ·have hil2 : i < inn.length := by omega
    obtain ⟨x, hx⟩ : ∃ x, inn[i]? = some x := ⟨_, List.getElem?_eq_getElem hil2⟩
    rw [show inn.drop i = x :: inn.drop (i + 1) from by
      obtain ⟨h1, h2⟩ := List.getElem?_eq_some_iff.1 hx
      rw [List.drop_eq_getElem_cons h1, h2], List.foldl_cons] at hso
    have hple := insPos_le out x.flow out.length
    have hinl := insF_len out x
    refine g_skip ?_
    refine g_seq ?_
    refine g_block ?_
    refine g_seq ?_
    refine g_region (l := [0, 1, 2]) rfl ?_
    refine vM (lv rfl) rfl rfl ?_
    refine o_v (lv rfl) rfl (r_len el_48 rfl) ?_
    refine vA (lv rfl) rfl rfl ?_
    refine g_seq ?_
    refine g_join (fun e w => ∃ (e0 : Env), e = J e0 [(6, .slice ia inn.length icap), (14, .slice oa out.length ocap), (15, .int .i64 i), (16, .int .i64 (insPos out x.flow out.length))] ∧ Holds R (Vec 54 3 encP (.slice oa out.length ocap) out :: Vec 54 3 encP (.slice ia inn.length icap) inn :: F) w) (fun kk hkk => ?_) ?_
    ·refine g_block ?_
     refine g_loop (fun mm e w => ∃ (q : Nat) (e0 : Env), q ≤ out.length ∧ mm = q ∧ insPos out x.flow out.length = insPos out x.flow q ∧
         e = J e0 [(6, .slice ia inn.length icap), (14, .slice oa out.length ocap), (15, .int .i64 i), (16, .int .i64 q)] ∧ Holds R (Vec 54 3 encP (.slice oa out.length ocap) out :: Vec 54 3 encP (.slice ia inn.length icap) inn :: F) w) out.length ⟨out.length, _, by omega, rfl, rfl, (J_self (has_s rfl (has_s rfl (has_s rfl (has_s rfl has_0))))), (hH.sel (by repeat' (first | exact Sel.refl _)))⟩ ?_
     rintro mm5 _ w ⟨q, e2, hq, hm5, hins, rfl, hH⟩ hback5
     refine g_seq ?_
     refine g_seq ?_
     refine g_regionD mixed ?_
     rintro w1 rfl; replace hH := hH.drew (n := w.drawn + 1); try replace hby := drewf (n := w.drawn + 1) hby; try replace hbo := drewf (n := w.drawn + 1) hbo; try replace hbi := drewf (n := w.drawn + 1) hbi; try replace hby := drewf (n := w.drawn + 1) hby; try replace hbi := drewf (n := w.drawn + 1) hbi; generalize hw1 : { w with drawn := w.drawn + 1 } = w at hH ⊢; try rw [hw1] at hby; try rw [hw1] at hbo; try rw [hw1] at hbi; try rw [hw1] at hby; try rw [hw1] at hbi; clear hw1
     refine pM 0 (lv rfl) rfl rfl ?_
     refine d_p (i := 1) (lv rfl) rfl (fun w => (r_gt rfl rfl)) (by kernel_rfl) ?_
     refine pM 2 (lv rfl) rfl rfl ?_
     refine s_opd (fun g24_2 => ?_) (fun g24_2 => ?_)
     ·obtain ⟨q, rfl⟩ : ∃ q', q = q' + 1 := ⟨q - 1, by omega⟩
      obtain ⟨y, hy⟩ : ∃ y, out[q]? = some y := ⟨_, List.getElem?_eq_getElem (by omega)⟩
      obtain ⟨bo, oo, cso, To, hoe, hbo, hco0⟩ := Rd.el hkP hH.rd hy
      obtain ⟨bi, oi, csi, Ti, hie, hbi, hci0⟩ := Rd.el hkP hH.p1.rd hx
      rw [hoe, hie]; rw [hoe, hie] at hH hback5 hkk
      have hco := hco0 0 _ rfl
      have hci := hci0 0 _ rfl
      rw [show q = ((((q + 1 : Nat) : Int)) - 1).toNat from by omega] at hco
      refine pM 3 (lvg rfl rfl rfl) rfl rfl ?_
      refine pM 4 (lvg rfl rfl rfl) rfl rfl ?_
      refine d_p (i := 5) (lvg rfl rfl rfl) rfl (fun w => (r_subI rfl rfl ?_)) (by kernel_rfl) ?_; omega
      refine d_p (i := 6) (lvg rfl rfl rfl) rfl (fun w => (r_ia el_48 rfl rfl ?_ ?_)) (by kernel_rfl) ?_; omega; omega
      refine pF 7 (lvg rfl rfl rfl) rfl fa_54_0 rfl ?_
      refine d_ld (i := 8) [] (lvg rfl rfl rfl) rfl lk_3 rfl (by kernel_rfl) ⟨_, _, _, hbo, _, hco, ?_⟩
      refine pM 9 (lvg rfl rfl rfl) rfl rfl ?_
      refine pM 10 (lvg rfl rfl rfl) rfl rfl ?_
      refine d_p (i := 11) (lvg rfl rfl rfl) rfl (fun w => (r_ia el_48 rfl rfl ?_ ?_)) (by kernel_rfl) ?_; omega; omega
      refine pF 12 (lvg rfl rfl rfl) rfl fa_54_0 rfl ?_
      refine d_ld (i := 13) [] (lvg rfl rfl rfl) rfl lk_3 rfl (by kernel_rfl) ⟨_, _, _, hbi, _, hci, ?_⟩
      refine d_p (i := 14) (lvg rfl rfl rfl) rfl (fun w => (r_gt rfl rfl)) (by kernel_rfl) ?_
      refine d_p (i := 15) (lv rfl) rfl (fun w => (r_pickT rfl rfl)) (by kernel_rfl) ?_
      refine d_end (by kernel_rfl) ?_
      refine g_if rfl (fun c6 => ?_) (fun c6 => ?_)
      ·refine g_skip ?_
       refine g_block ?_
       refine g_region (l := [0, 1, 2]) rfl ?_
       refine vM (lv rfl) rfl rfl ?_
       refine o_v (lv rfl) rfl (r_subI rfl rfl ?_) ?_; omega
       refine vA (lv rfl) rfl rfl ?_
       refine g_inBlock ?_
       have hins2 : insPos out x.flow (q + 1) = insPos out x.flow q := by
         conv => lhs; unfold insPos
         rw [hy]; simp only; rw [if_pos (by omega)]
       exact hback5 _ _ _ ⟨q, _, by omega, rfl, hins.trans hins2, by rw [show (((q + 1 : Nat) : Int)) - 1 = q from by omega]; exact (J_self (has_s rfl (has_s rfl (has_s rfl (has_s rfl has_0))))), (hH.sel (by repeat' (first | exact Sel.refl _)))⟩ (by omega)
      ·refine g_exit rfl ?_
       (have hins2 : insPos out x.flow (q + 1) = q + 1 := by
          conv => lhs; unfold insPos
          rw [hy]; simp only; rw [if_neg (by omega)]
        exact hkk _ _ ⟨_, by rw [hins, hins2]; exact (J_self (has_s rfl (has_s rfl (has_s rfl (has_s rfl has_0))))), (hH.sel (by repeat' (first | exact Sel.refl _)))⟩)
     ·refine pO 3 rfl rfl rfl rfl ?_
      refine pO 4 rfl rfl rfl rfl ?_
      refine pO 5 rfl rfl rfl rfl ?_
      refine pO 6 rfl rfl rfl rfl ?_
      refine pO 7 rfl rfl rfl rfl ?_
      refine pO 8 rfl rfl rfl rfl ?_
      refine pO 9 rfl rfl rfl rfl ?_
      refine pO 10 rfl rfl rfl rfl ?_
      refine pO 11 rfl rfl rfl rfl ?_
      refine pO 12 rfl rfl rfl rfl ?_
      refine pO 13 rfl rfl rfl rfl ?_
      refine pO 14 rfl rfl rfl rfl ?_
      refine d_p (i := 15) (lv rfl) rfl (fun w => (r_pickF rfl rfl)) (by kernel_rfl) ?_
      refine d_end (by kernel_rfl) ?_
      refine g_false rfl ?_
      refine g_exit rfl ?_
      (have hq0 : q = 0 := by omega
       subst hq0
       exact hkk _ _ ⟨_, by rw [hins]; exact (J_self (has_s rfl (has_s rfl (has_s rfl (has_s rfl has_0))))), (hH.sel (by repeat' (first | exact Sel.refl _)))⟩)
    ·rintro _ w ⟨e3, rfl, hH⟩
     refine g_seq ?_
     refine g_region (l := [0, 1, 2, 3, 4]) rfl ?_
     refine vM (lv rfl) rfl rfl ?_
     refine vM (lv rfl) rfl rfl ?_
     refine o_slr hkP 0 (insPos out x.flow out.length) (lv rfl) rfl el_48 rfl hH.rd bnd_n (bnd_s rfl) (by omega) (by omega) (fun sv1 hsv1 => ?_)
     refine o_app (enc := encP) (lv rfl) rfl el_48 ze_54 rfl (fun _ => rfl) (fun _ => rfl) rfl rfl (hH.vnil _ _ _) (hsv1 _ (by exact hH.rd)) (by simp; omega) (by simp; omega) ?_
     intro v142 w hH; obtain ⟨a142, k142, rfl, -⟩ := hH.rd.len
     refine vA (lv rfl) rfl rfl ?_
     obtain ⟨bi, oi, csi, Ti, hie, hbi, hci0⟩ := Rd.el hkP hH.p2.rd hx
     rw [hie]; rw [hie] at hH hback4
     have hciN := dt_of hci0
     refine g_regionD mixed ?_
     rintro w1 rfl; replace hH := hH.drew (n := w.drawn + 1); try replace hby := drewf (n := w.drawn + 1) hby; try replace hbo := drewf (n := w.drawn + 1) hbo; try replace hbi := drewf (n := w.drawn + 1) hbi; try replace hby := drewf (n := w.drawn + 1) hby; try replace hbi := drewf (n := w.drawn + 1) hbi; generalize hw1 : { w with drawn := w.drawn + 1 } = w at hH ⊢; try rw [hw1] at hby; try rw [hw1] at hbo; try rw [hw1] at hbi; try rw [hw1] at hby; try rw [hw1] at hbi; clear hw1
     refine pM 0 (lv rfl) rfl rfl ?_
     refine pM 1 (lv rfl) rfl rfl ?_
     refine pM 2 (lv rfl) rfl rfl ?_
     refine d_p (i := 3) (lv rfl) rfl (fun w => (r_ia el_48 rfl rfl ?_ ?_)) (by kernel_rfl) ?_; omega; omega
     refine d_ldN (i := 4) [5, 6, 10] (lv rfl) rfl lk_54 rfl (by kernel_rfl) ⟨_, _, _, hbi, _, hciN, rfl, ?_⟩
     refine pM 7 (lv rfl) rfl rfl ?_
     refine pM 8 (lv rfl) rfl rfl ?_
     refine d_slr (i := 9) hkP (insPos out x.flow out.length) out.length (lv rfl) rfl el_48 rfl (by exact hH.p1.rd) (bnd_s rfl) bnd_n (by omega) (by omega) (by kernel_rfl) (fun sv2 hsv2 => ?_)
     refine d_l (j := 5) (by kernel_rfl) ?_
     refine o_bs (lv rfl) rfl el_48 ze_54 rfl rfl rfl (ps := [_]) rfl rfl rfl (cs := [_, _, _]) rfl hH ?_
     intro b148 w hH
     refine ⟨(keeps_in rfl trivial), ?_⟩
     refine d_l (j := 6) (by kernel_rfl) ?_
     refine o_app (enc := encP) (lv rfl) rfl el_48 ze_54 rfl (fun _ => rfl) (fun _ => rfl) rfl rfl (by exact hH.p1) (rd_of_cel [x] (by exact hH.c0) rfl) (by simp; omega) (by simp; omega) ?_
     intro v149 w hH; obtain ⟨a149, k149, rfl, -⟩ := hH.rd.len
     refine ⟨(keeps_in rfl trivial), ?_⟩
     refine d_l (j := 10) (by kernel_rfl) ?_
     refine o_app (enc := encP) (lv rfl) rfl el_48 ze_54 rfl (fun _ => rfl) (fun _ => rfl) rfl rfl (by exact hH) (hsv2 _ (by exact hH.p2.rd)) (by simp; omega) (by simp; omega) ?_
     intro v153 w hH; obtain ⟨a153, k153, rfl, -⟩ := hH.rd.len
     refine ⟨(keeps_in rfl trivial), ?_⟩
     refine pA 11 (lv rfl) rfl rfl ?_
     refine d_end (by kernel_rfl) ?_
     refine g_inBlock ?_
     refine g_region (l := [0, 1, 2]) rfl ?_
     refine vM (lv rfl) rfl rfl ?_
     refine o_v (lv rfl) rfl (r_addI rfl rfl ?_) ?_; omega
     refine vA (lv rfl) rfl rfl ?_
     have hie2 : [] ++ List.drop 0 (List.take (insPos out x.flow out.length) out) ++ [x] ++ List.drop (insPos out x.flow out.length) (List.take out.length out) = insF out x := by unfold insF; simp
     rw [hie2] at hH ⊢
     exact hback4 _ _ _ ⟨i + 1, _, insF out x, _, by omega, rfl, by omega, hso, (J_self (has_s rfl (has_s rfl (has_s rfl has_0)))), (hH.sel (by repeat' (first | exact Sel.refl _ | refine Sel.q0 ?_ | refine Sel.q2 ?_ | refine Sel.skip _ ?_)))⟩ (by omega)
   ·refine g_exit rfl ?_
    refine g_seq ?_
    refine g_region (l := [0, 1, 2]) rfl ?_
    refine vM (lv rfl) rfl rfl ?_
    refine vA (lv rfl) rfl rfl ?_
    refine vA (lv rfl) rfl rfl ?_
    refine g_rq Tryz.func22 (res_t rfl (res_t rfl res_0)) ?_
    (rw [show sortF inn = out from by rw [hso, List.drop_of_length_le (by omega)]; rfl]
     exact ⟨_, rfl, (hH.sel (by repeat' (first | exact Sel.refl _ | refine Sel.q0 ?_ | refine Sel.skip _ ?_)))⟩)
end
end Go.Proofs.YtkdbglfdgeldpaaGreat
