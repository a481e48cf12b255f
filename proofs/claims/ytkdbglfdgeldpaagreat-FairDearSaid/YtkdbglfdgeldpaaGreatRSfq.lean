/- Contracts of the reference's flows together. Condition: numbers of 64 bits. -/
import Derived.Test.YtkdbglfdgeldpaaGreatRFlow
import Derived.Test.YtkdbglfdgeldpaaGreatSpec
namespace Go.Proofs.YtkdbglfdgeldpaaGreat
open Go.Lt

def encPtr (b : Nat) : List Value := [.pointer (some ⟨b, 0, none⟩)]
theorem hkPtr (x : Nat) : (encPtr x).length = 1 := rfl
def rfl_ (ps : List Nat) (F : Fs) : List HP := List.zipWith RFlowC ps F
theorem rfl_get {ps : List Nat} {F : Fs} {i : Nat} {b : Nat} {x : Int × Flw} (h1 : ps[i]? = some b) (h2 : F[i]? = some x) : (rfl_ ps F)[i]? = some (RFlowC b x) := by
  simp [rfl_, List.getElem?_zipWith, h1, h2]
theorem ptr_of {ps : List Nat} {F : Fs} (hl : ps.length = F.length) {i : Nat} {x : Int × Flw} (h2 : F[i]? = some x) : ∃ b, ps[i]? = some b := by
  have := (List.getElem?_eq_some_iff.1 h2).1
  exact ⟨ps[i], List.getElem?_eq_getElem (by omega)⟩
def RSfqC (b : Nat) (s : Sq) : HP := ex fun q : Value × List Nat => is (q.2.length = s.F.length)
  (All [cel b [q.1, .int .u64 s.v, .int .u64 s.most] 67, Vec 124 1 encPtr q.1 q.2, All (rfl_ q.2 s.F)])

section
variable {R : Base} {F : List HP} {w : World}
theorem RSfqC.op {b : Nat} {s : Sq} (h : Holds R (RSfqC b s :: F) w) : ∃ fv ps, ps.length = s.F.length ∧
    Holds R (cel b [fv, .int .u64 s.v, .int .u64 s.most] 67 :: Vec 124 1 encPtr fv ps :: All (rfl_ ps s.F) :: F) w := by
  obtain ⟨⟨fv, ps⟩, h⟩ := h.open_ex
  obtain ⟨hl, h⟩ := h.open_is
  exact ⟨fv, ps, hl, h.all_open⟩
theorem RSfqC.mk {b : Nat} {s : Sq} {fv : Value} {ps : List Nat} (hl : ps.length = s.F.length)
    (h : Holds R (cel b [fv, .int .u64 s.v, .int .u64 s.most] 67 :: Vec 124 1 encPtr fv ps :: All (rfl_ ps s.F) :: F) w) : Holds R (RSfqC b s :: F) w :=
  (Holds.shut_is hl (Holds.all_shut (A := [cel b [fv, .int .u64 s.v, .int .u64 s.most] 67, Vec 124 1 encPtr fv ps, All (rfl_ ps s.F)]) h)).shut_ex (p := fun q : Value × List Nat => is (q.2.length = s.F.length)
    (All [cel b [q.1, .int .u64 s.v, .int .u64 s.most] 67, Vec 124 1 encPtr q.1 q.2, All (rfl_ q.2 s.F)])) (x := (fv, ps))

/-- What is read of flow i: where its block is. -/
theorem rflow_at {s : Sq} {ps : List Nat} (hl : ps.length = s.F.length) (h : Holds R (All (rfl_ ps s.F) :: F) w) {i : Nat} {x : Int × Flw} (hx : s.F[i]? = some x) :
    ∃ b, ps[i]? = some b ∧ ∃ a cap, w.heap[b]? = some (.cells ([.int .i64 x.1, .int .i64 x.2.most, .int .u64 x.2.r, .slice a x.2.l.length cap, .int .u64 x.2.start, .int .u64 x.2.finish] : List Value).toArray 123 (0, 0)) := by
  obtain ⟨b, hb⟩ := ptr_of hl hx
  have := h.all_rd (rfl_get hb hx) RFlowC.up
  obtain ⟨sv, h1, a, cap, rfl⟩ := RFlowC.blk this
  exact ⟨b, hb, a, cap, h1⟩

theorem atI_of_none {s : Sq} {id : Int} (h : ∀ (j : Nat) (x : Int × Flw), s.F[j]? = some x → x.1 ≠ id) : s.at id = none := by
  unfold Sq.at
  rw [List.findIdx?_eq_none_iff]
  intro x hx
  obtain ⟨j, hj⟩ := List.getElem?_of_mem hx
  simpa using h j x hj
theorem atI_of_some {s : Sq} {id : Int} {k : Nat} {x : Int × Flw} (hx : s.F[k]? = some x) (he : x.1 = id) (h : ∀ (j : Nat) (y : Int × Flw), j < k → s.F[j]? = some y → y.1 ≠ id) : s.at id = some k := by
  unfold Sq.at
  rw [List.findIdx?_eq_some_iff_getElem]
  obtain ⟨hlt, hxe⟩ := List.getElem?_eq_some_iff.1 hx
  refine ⟨hlt, by rw [hxe]; simpa using he, fun j hj => ?_⟩
  have := h j s.F[j] hj (List.getElem?_eq_getElem (by omega))
  simpa using this

theorem r09_At {b : Nat} {s : Sq} (hok : s.ok) (id : Int) (hH : Holds R (RSfqC b s :: F) w) :
    Ret Tryz.prog 63 [.pointer (some ⟨b, 0, none⟩), .int .i64 id] w fun v w' => v = .int .i64 (atI (s.at id)) ∧ Holds R (RSfqC b s :: F) w' := by
  have hlen := hok.2.2.2
  obtain ⟨fv, ps, hl, hH⟩ := RSfqC.op hH
  obtain ⟨a, cap, rfl, hc⟩ := hH.p1.rd.len
  refine ret_of_g (n := 28) Tryz.func63 rfl rfl (by simp) ?_
  refine g_seq ?_
  refine g_region (l := [0]) rfl ?_
  refine vA (lv rfl) rfl rfl ?_
  refine g_seq ?_
  refine g_seq ?_
  refine g_region (l := [0]) rfl ?_
  refine vA (lv rfl) rfl rfl ?_
  refine g_block ?_
  refine g_loop (fun m e w => ∃ (k : Nat) (e0 : Env), k ≤ s.F.length ∧ m = s.F.length - k ∧ (∀ j x, j < k → s.F[j]? = some x → x.1 ≠ id) ∧ e = J e0 [(0, .pointer (some ⟨b, 0, none⟩)), (1, .int .i64 id), (5, .int .i64 k)] ∧
      Holds R (cel b [.slice a ps.length cap, .int .u64 s.v, .int .u64 s.most] 67 :: Vec 124 1 encPtr (.slice a ps.length cap) ps :: All (rfl_ ps s.F) :: F) w) s.F.length ⟨0, _, by omega, by omega, by omega, (J_self (has_s rfl (has_s rfl (has_s rfl has_0)))), hH⟩ ?_
  rintro m _ w ⟨k, e0, hk, hm, hno, rfl, hH⟩ hback
  refine g_seq ?_
  refine g_seq ?_
  refine g_region (l := [0, 1, 2, 3, 4, 5, 6]) rfl ?_
  refine vM (lv rfl) rfl rfl ?_
  refine vM (lv rfl) rfl rfl ?_
  refine o_v (lv rfl) rfl (r_nil rfl) ?_
  refine o_v (lv rfl) rfl (r_fa fa_67_0 rfl) ?_
  refine o_ld (lv rfl) rfl lk_65 rfl ⟨_, _, _, hH.c0, _, rfl, ?_⟩
  refine o_v (lv rfl) rfl (r_len el_65 rfl) ?_
  refine o_v (lv rfl) rfl (r_lt rfl rfl) ?_
  refine g_if rfl (fun c0 => ?_) (fun c0 => ?_)
  ·have hkl : k < s.F.length := by omega
   obtain ⟨x, hx⟩ : ∃ x, s.F[k]? = some x := ⟨_, List.getElem?_eq_getElem hkl⟩
   obtain ⟨b1, hb1, a1, cap1, hblk⟩ := rflow_at hl hH.p2 hx
   obtain ⟨bp, op_, cs, T, rfl, hbp, hxp⟩ := Rd.el (i := k) hkPtr hH.p1.rd hb1
   refine g_skip ?_
   refine g_seq ?_
   refine g_block ?_
   refine g_seq ?_
   refine g_region (l := [0, 1, 2, 3, 4, 5, 6, 7, 8, 9, 10, 11]) rfl ?_
   refine vM (lv rfl) rfl rfl ?_
   refine o_v (lv rfl) rfl (r_nil rfl) ?_
   refine o_v (lv rfl) rfl (r_fa fa_67_0 rfl) ?_
   refine o_ld (lv rfl) rfl lk_65 rfl ⟨_, _, _, hH.c0, _, rfl, ?_⟩
   refine vM (lv rfl) rfl rfl ?_
   refine o_v (lv rfl) rfl (r_ia el_65 rfl rfl ?_ ?_) ?_; omega; omega
   refine o_v (lv rfl) rfl (r_ldc lk_124 rfl (cell_of hbp (hxp 0 _ rfl))) ?_
   refine o_v (lv rfl) rfl (r_nil rfl) ?_
   refine o_v (lv rfl) rfl (r_fa fa_123_0 rfl) ?_
   refine o_ld (lv rfl) rfl lk_3 rfl ?_; refine ⟨_, _, _, hblk, _, rfl, ?_⟩
   refine vM (lv rfl) rfl rfl ?_
   refine o_v (lv rfl) rfl (r_eq rfl rfl) ?_
   refine g_if rfl (fun c1 => ?_) (fun c1 => ?_)
   ·refine g_seq ?_
    refine g_region (l := [0, 1]) rfl ?_
    refine vM (lv rfl) rfl rfl ?_
    refine vA (lv rfl) rfl rfl ?_
    refine g_rq Tryz.func63 (res_t rfl res_0) ?_
    exact ⟨iv (by rw [atI_of_some hx c1 hno]; rfl), RSfqC.mk hl hH⟩
   ·refine g_skip ?_
    refine g_inBlock ?_
    refine g_region (l := [0, 1, 2]) rfl ?_
    refine vM (lv rfl) rfl rfl ?_
    refine o_v (lv rfl) rfl (r_addI rfl rfl ?_) ?_; omega
    refine vA (lv rfl) rfl rfl ?_
    exact hback _ _ _ ⟨k + 1, _, by omega, rfl, fun j y hj hy => by
      by_cases hjk : j = k
      ·subst hjk; rw [hx] at hy; cases hy; exact c1
      ·exact hno j y (by omega) hy, (J_self (has_s rfl (has_s rfl (has_s rfl has_0)))), hH⟩ (by omega)
  ·refine g_exit rfl ?_
   refine g_seq ?_
   refine g_region (l := [0]) rfl ?_
   refine vA (lv rfl) rfl rfl ?_
   refine g_rq Tryz.func63 (res_t rfl res_0) ?_
   exact ⟨iv (by rw [atI_of_none (fun j x hx => hno j x (by have := (List.getElem?_eq_some_iff.1 hx).1; omega) hx)]; rfl), RSfqC.mk hl hH⟩

theorem tw_take {F : Fs} {id : Int} {k : Nat} (hk : k ≤ F.length) (h1 : ∀ (j : Nat) (x : Int × Flw), j < k → F[j]? = some x → x.1 < id) (h2 : ∀ x, F[k]? = some x → ¬ x.1 < id) :
    F.takeWhile (fun x => x.1 < id) = F.take k ∧ F.dropWhile (fun x => x.1 < id) = F.drop k := by
  induction F generalizing k with
  | nil => simp
  | cons y F ih =>
    cases k with
    | zero =>
      have := h2 y rfl
      simp [this]
    | succ k =>
      have h0 := h1 0 y (by omega) rfl
      obtain ⟨e1, e2⟩ := ih (k := k) (by simpa using hk) (fun j x hj hx => h1 (j + 1) x (by omega) (by simpa using hx)) (fun x hx => h2 x (by simpa using hx))
      simp [h0, e1, e2]
theorem rfl_put {ps : List Nat} {F : Fs} (hl : ps.length = F.length) {k : Nat} (hk : k ≤ F.length) (b : Nat) (x : Int × Flw) :
    rfl_ (ps.take k ++ b :: ps.drop k) (F.take k ++ x :: F.drop k) = rfl_ (ps.take k) (F.take k) ++ RFlowC b x :: rfl_ (ps.drop k) (F.drop k) := by
  unfold rfl_
  rw [List.zipWith_append (by simp; omega)]
  rfl
theorem rfl_split {ps : List Nat} {F : Fs} (hl : ps.length = F.length) (k : Nat) : rfl_ ps F = rfl_ (ps.take k) (F.take k) ++ rfl_ (ps.drop k) (F.drop k) := by
  unfold rfl_
  rw [← List.zipWith_append (by simp [hl]), List.take_append_drop, List.take_append_drop]

theorem r09_Add {b : Nat} {s : Sq} (hok : s.ok) (id r m : Int) (hno : s.at id = none) (hH : Holds R (RSfqC b s :: F) w) :
    Ret Tryz.prog 110 [.pointer (some ⟨b, 0, none⟩), .int .i64 id, .int .u64 r, .int .i64 m] w fun v w' => v = .bool true ∧ Holds R (RSfqC b (s.add id r m) :: F) w' := by
  have hlen := hok.2.2.2
  refine ret_of_g (n := 62) Tryz.func110 rfl rfl (by simp) ?_
  refine g_seq ?_
  refine g_region (l := [0]) rfl ?_
  refine vA (lv rfl) rfl rfl ?_
  refine g_seq ?_
  refine g_seq ?_
  refine g_region (l := [0, 1, 2, 3]) rfl ?_
  refine vM (lv rfl) rfl rfl ?_
  refine vM (lv rfl) rfl rfl ?_
  refine o_call (lv rfl) rfl en_63 rfl (r09_At hok id hH) ?_
  rintro _ w ⟨rfl, hH⟩
  refine o_v (lv rfl) rfl (r_ge rfl rfl) ?_
  refine g_if rfl (fun c0 => ?_) (fun c0 => ?_)
  ·rw [hno] at c0; simp [atI] at c0
  ·obtain ⟨fv, ps, hl, hH⟩ := RSfqC.op hH
   obtain ⟨a, cap, rfl, hc⟩ := hH.p1.rd.len
   refine g_skip ?_
   refine g_seq ?_
   refine g_region (l := [0]) rfl ?_
   refine vA (lv rfl) rfl rfl ?_
   refine g_seq ?_
   refine g_block ?_
   refine g_loop (fun mm e w => ∃ (k : Nat) (e0 : Env), k ≤ s.F.length ∧ mm = s.F.length - k ∧ (∀ (j : Nat) (x : Int × Flw), j < k → s.F[j]? = some x → x.1 < id) ∧ e = J e0 [(0, .pointer (some ⟨b, 0, none⟩)), (1, .int .i64 id), (2, .int .u64 r), (3, .int .i64 m), (9, .int .i64 k)] ∧
       Holds R (cel b [.slice a ps.length cap, .int .u64 s.v, .int .u64 s.most] 67 :: Vec 124 1 encPtr (.slice a ps.length cap) ps :: All (rfl_ ps s.F) :: F) w) s.F.length ⟨0, _, by omega, by omega, by omega, (J_self (has_s rfl (has_s rfl (has_s rfl (has_s rfl (has_s rfl has_0)))))), hH⟩ ?_
   rintro mm _ w ⟨k, e0, hk, hm, hlt, rfl, hH⟩ hback
   refine g_seq ?_
   refine g_seq ?_
   refine g_region (l := [0, 1, 2, 3, 4, 5, 6, 7, 8, 9, 10, 11, 12, 13, 14, 15, 16, 17, 18, 19, 20]) rfl ?_
   refine vM (lv rfl) rfl rfl ?_
   refine vM (lv rfl) rfl rfl ?_
   refine o_v (lv rfl) rfl (r_nil rfl) ?_
   refine o_v (lv rfl) rfl (r_fa fa_67_0 rfl) ?_
   refine o_ld (lv rfl) rfl lk_65 rfl ⟨_, _, _, hH.c0, _, rfl, ?_⟩
   refine o_v (lv rfl) rfl (r_len el_65 rfl) ?_
   refine o_v (lv rfl) rfl (r_lt rfl rfl) ?_
   refine vM (lv rfl) rfl rfl ?_
   refine s_ops (fun g4_7 => ?_) (fun g4_7 => ?_)
   ·have hkl : k < s.F.length := by omega
    obtain ⟨x, hx⟩ : ∃ x, s.F[k]? = some x := ⟨_, List.getElem?_eq_getElem hkl⟩
    obtain ⟨b1, hb1, a1, cap1, hblk⟩ := rflow_at hl hH.p2 hx
    obtain ⟨bp, op_, cs, T, rfl, hbp, hxp⟩ := Rd.el (i := k) hkPtr hH.p1.rd hb1
    refine vM (lvg rfl rfl rfl) rfl rfl ?_
    refine o_v (lvg rfl rfl rfl) rfl (r_nil rfl) ?_
    refine o_v (lvg rfl rfl rfl) rfl (r_fa fa_67_0 rfl) ?_
    refine o_ld (lvg rfl rfl rfl) rfl lk_65 rfl ⟨_, _, _, hH.c0, _, rfl, ?_⟩
    refine vM (lvg rfl rfl rfl) rfl rfl ?_
    refine o_v (lvg rfl rfl rfl) rfl (r_ia el_65 rfl rfl ?_ ?_) ?_; omega; omega
    refine o_v (lvg rfl rfl rfl) rfl (r_ldc lk_124 rfl (cell_of hbp (hxp 0 _ rfl))) ?_
    refine o_v (lvg rfl rfl rfl) rfl (r_nil rfl) ?_
    refine o_v (lvg rfl rfl rfl) rfl (r_fa fa_123_0 rfl) ?_
    refine o_ld (lvg rfl rfl rfl) rfl lk_3 rfl ?_; refine ⟨_, _, _, hblk, _, rfl, ?_⟩
    refine vM (lvg rfl rfl rfl) rfl rfl ?_
    refine o_v (lvg rfl rfl rfl) rfl (r_lt rfl rfl) ?_
    refine o_v (lv rfl) rfl (r_pickT rfl rfl) ?_
    refine g_if rfl (fun c1 => ?_) (fun c1 => ?_)
    ·refine g_skip ?_
     refine g_block ?_
     refine g_region (l := [0, 1, 2]) rfl ?_
     refine vM (lv rfl) rfl rfl ?_
     refine o_v (lv rfl) rfl (r_addI rfl rfl ?_) ?_; omega
     refine vA (lv rfl) rfl rfl ?_
     refine g_inBlock ?_
     exact hback _ _ _ ⟨k + 1, _, by omega, rfl, fun j y hj hy => by
       by_cases hjk : j = k
       ·subst hjk; rw [hx] at hy; cases hy; exact c1
       ·exact hlt j y (by omega) hy, (J_self (has_s rfl (has_s rfl (has_s rfl (has_s rfl (has_s rfl has_0)))))), hH⟩ (by omega)
    ·refine g_exit rfl ?_
     refine g_seq ?_
     have hstop : ∀ x, s.F[k]? = some x → ¬ x.1 < id := by
       intro y hy
       (rw [hx] at hy; cases hy; assumption)
     obtain ⟨etw, edw⟩ := tw_take hk hlt hstop
     refine g_region (l := [0, 1, 2, 3, 4, 5, 6, 7]) rfl ?_
     refine vM (lv rfl) rfl rfl ?_
     refine o_v (lv rfl) rfl (r_nil rfl) ?_
     refine o_v (lv rfl) rfl (r_fa fa_67_0 rfl) ?_
     refine o_ld (lv rfl) rfl lk_65 rfl ⟨_, _, _, hH.c0, _, rfl, ?_⟩
     refine vM (lv rfl) rfl rfl ?_
     refine o_slr hkPtr 0 k (lv rfl) rfl el_65 rfl hH.p1.rd bnd_n (bnd_s rfl) (by omega) (by omega) (fun v5 hv5 => ?_)
     refine o_app (enc := encPtr) (lv rfl) rfl el_65 ze_124 rfl (fun _ => rfl) (fun _ => rfl) rfl rfl (hH.vnil _ _ _) (hv5 _ (by exact hH.p1.rd)) (by simp; omega) (by simp; omega) ?_
     intro v44 w hH; obtain ⟨a44, k44, rfl, -⟩ := hH.rd.len
     refine vA (lv rfl) rfl rfl ?_
     refine g_seq ?_
     refine rD mixed hH fun w hH => ?_
     refine pM 0 (lv rfl) rfl rfl ?_
     refine pM 1 (lv rfl) rfl rfl ?_
     refine pM 2 (lv rfl) rfl rfl ?_
     refine pM 3 (lv rfl) rfl rfl ?_
     refine pM 4 (lv rfl) rfl rfl ?_
     refine pM 8 (lv rfl) rfl rfl ?_
     refine pN 9 (lv rfl) rfl rfl ?_
     refine pF 10 (lv rfl) rfl fa_67_0 rfl ?_
     refine d_ld (i := 11) [14, 17] (lv rfl) rfl lk_65 rfl (by kernel_rfl) ⟨_, _, _, hH.c1, _, rfl, ?_⟩
     refine pM 12 (lv rfl) rfl rfl ?_
     refine d_slr (i := 13) hkPtr k ps.length (lv rfl) rfl el_65 rfl (show Rd encPtr _ ps (hp _) from (by exact hH.p2.rd)) (bnd_s rfl) bnd_n (by omega) (by omega) (by kernel_rfl) (fun v13 hv13 => ?_)
     refine d_l (j := 5) (by kernel_rfl) ?_
     refine o_call (lv rfl) rfl en_130 rfl (r09_NewFlow id r m hH) ?_
     rintro _ w ⟨b50, rfl, hH⟩
     refine ⟨(keeps_cons (fun _ => (by exact hH.c2)) trivial), ?_⟩
     refine d_l (j := 6) (by kernel_rfl) ?_
     refine o_bs (lv rfl) rfl el_65 ze_124 rfl rfl rfl (ps := [_]) rfl rfl rfl (cs := [_]) rfl hH ?_
     intro b51 w hH
     refine ⟨(keeps_cons (fun _ => (by exact hH.c3)) trivial), ?_⟩
     refine d_l (j := 7) (by kernel_rfl) ?_
     refine o_app (enc := encPtr) (lv rfl) rfl el_65 ze_124 rfl (fun _ => rfl) (fun _ => rfl) rfl rfl (by exact hH.p2) (rd_of_cel [b50] (by exact hH.c0) rfl) (by simp; omega) (by simp; omega) ?_
     intro v52 w hH; obtain ⟨a52, k52, rfl, -⟩ := hH.rd.len
     refine ⟨(keeps_cons (fun _ => (by exact hH.c3)) trivial), ?_⟩
     refine d_l (j := 14) (by kernel_rfl) ?_
     refine o_app (enc := encPtr) (lv rfl) rfl el_65 ze_124 rfl (fun _ => rfl) (fun _ => rfl) rfl rfl (by exact hH) (hv13 _ (by exact hH.p4.rd)) (by simp; omega) (by simp; omega) ?_
     intro v59 w hH; obtain ⟨a59, k59, rfl, -⟩ := hH.rd.len
     refine ⟨(keeps_in rfl trivial), ?_⟩
     refine pN 15 (lv rfl) rfl rfl ?_
     refine pF 16 (lv rfl) rfl fa_67_0 rfl ?_
     refine d_l (j := 17) (by kernel_rfl) ?_
     refine o_st (lv rfl) rfl lk_65 rfl (vs := [_]) rfl rfl (by exact hH.p3) rfl rfl (by simp) rfl ?_
     intro w hH; dsimp only [setL, List.set] at hH
     refine ⟨(keeps_in rfl trivial), ?_⟩
     refine d_end (by kernel_rfl) ?_
     refine g_seq ?_
     refine g_region (l := [0]) rfl ?_
     refine vA (lv rfl) rfl rfl ?_
     refine g_rq Tryz.func110 (res_t rfl res_0) ?_
     have e1 : [] ++ (ps.take k).drop 0 ++ [b50] ++ (ps.take ps.length).drop k = ps.take k ++ b50 :: ps.drop k := by simp
     rw [e1] at hH
     have hF : (s.add id r m).F = s.F.take k ++ (id, newFlw r m) :: s.F.drop k := by unfold Sq.add; rw [etw, edw]
     refine ⟨rfl, RSfqC.mk (fv := .slice a59 (ps.take k ++ b50 :: ps.drop k).length k59) (ps := ps.take k ++ b50 :: ps.drop k) (by rw [hF]; simp [hl]) ?_⟩
     rw [hF, rfl_put hl hk, show (s.add id r m).v = s.v from rfl, show (s.add id r m).most = s.most from rfl]
     rw [rfl_split hl k] at hH
     refine Holds.p2 (Holds.p2 (Holds.all_put (p := RFlowC b50 (id, newFlw r m)) ?_))
     exact (hH.sel (by repeat' (first | exact Sel.refl _ | refine Sel.q0 ?_ | refine Sel.q3 ?_ | refine Sel.q4 ?_ | refine Sel.skip _ ?_)))
   ·refine o_no rfl rfl rfl rfl ?_
    refine o_no rfl rfl rfl rfl ?_
    refine o_no rfl rfl rfl rfl ?_
    refine o_no rfl rfl rfl rfl ?_
    refine o_no rfl rfl rfl rfl ?_
    refine o_no rfl rfl rfl rfl ?_
    refine o_no rfl rfl rfl rfl ?_
    refine o_no rfl rfl rfl rfl ?_
    refine o_no rfl rfl rfl rfl ?_
    refine o_no rfl rfl rfl rfl ?_
    refine o_no rfl rfl rfl rfl ?_
    refine o_no rfl rfl rfl rfl ?_
    refine o_v (lv rfl) rfl (r_pickF rfl rfl) ?_
    refine g_false rfl ?_
    refine g_exit rfl ?_
    refine g_seq ?_
    have hstop : ∀ x, s.F[k]? = some x → ¬ x.1 < id := by
      intro y hy
      (have := (List.getElem?_eq_some_iff.1 hy).1; omega)
    obtain ⟨etw, edw⟩ := tw_take hk hlt hstop
    refine g_region (l := [0, 1, 2, 3, 4, 5, 6, 7]) rfl ?_
    refine vM (lv rfl) rfl rfl ?_
    refine o_v (lv rfl) rfl (r_nil rfl) ?_
    refine o_v (lv rfl) rfl (r_fa fa_67_0 rfl) ?_
    refine o_ld (lv rfl) rfl lk_65 rfl ⟨_, _, _, hH.c0, _, rfl, ?_⟩
    refine vM (lv rfl) rfl rfl ?_
    refine o_slr hkPtr 0 k (lv rfl) rfl el_65 rfl hH.p1.rd bnd_n (bnd_s rfl) (by omega) (by omega) (fun v5 hv5 => ?_)
    refine o_app (enc := encPtr) (lv rfl) rfl el_65 ze_124 rfl (fun _ => rfl) (fun _ => rfl) rfl rfl (hH.vnil _ _ _) (hv5 _ (by exact hH.p1.rd)) (by simp; omega) (by simp; omega) ?_
    intro v44 w hH; obtain ⟨a44, k44, rfl, -⟩ := hH.rd.len
    refine vA (lv rfl) rfl rfl ?_
    refine g_seq ?_
    refine rD mixed hH fun w hH => ?_
    refine pM 0 (lv rfl) rfl rfl ?_
    refine pM 1 (lv rfl) rfl rfl ?_
    refine pM 2 (lv rfl) rfl rfl ?_
    refine pM 3 (lv rfl) rfl rfl ?_
    refine pM 4 (lv rfl) rfl rfl ?_
    refine pM 8 (lv rfl) rfl rfl ?_
    refine pN 9 (lv rfl) rfl rfl ?_
    refine pF 10 (lv rfl) rfl fa_67_0 rfl ?_
    refine d_ld (i := 11) [14, 17] (lv rfl) rfl lk_65 rfl (by kernel_rfl) ⟨_, _, _, hH.c1, _, rfl, ?_⟩
    refine pM 12 (lv rfl) rfl rfl ?_
    refine d_slr (i := 13) hkPtr k ps.length (lv rfl) rfl el_65 rfl (show Rd encPtr _ ps (hp _) from (by exact hH.p2.rd)) (bnd_s rfl) bnd_n (by omega) (by omega) (by kernel_rfl) (fun v13 hv13 => ?_)
    refine d_l (j := 5) (by kernel_rfl) ?_
    refine o_call (lv rfl) rfl en_130 rfl (r09_NewFlow id r m hH) ?_
    rintro _ w ⟨b50, rfl, hH⟩
    refine ⟨(keeps_cons (fun _ => (by exact hH.c2)) trivial), ?_⟩
    refine d_l (j := 6) (by kernel_rfl) ?_
    refine o_bs (lv rfl) rfl el_65 ze_124 rfl rfl rfl (ps := [_]) rfl rfl rfl (cs := [_]) rfl hH ?_
    intro b51 w hH
    refine ⟨(keeps_cons (fun _ => (by exact hH.c3)) trivial), ?_⟩
    refine d_l (j := 7) (by kernel_rfl) ?_
    refine o_app (enc := encPtr) (lv rfl) rfl el_65 ze_124 rfl (fun _ => rfl) (fun _ => rfl) rfl rfl (by exact hH.p2) (rd_of_cel [b50] (by exact hH.c0) rfl) (by simp; omega) (by simp; omega) ?_
    intro v52 w hH; obtain ⟨a52, k52, rfl, -⟩ := hH.rd.len
    refine ⟨(keeps_cons (fun _ => (by exact hH.c3)) trivial), ?_⟩
    refine d_l (j := 14) (by kernel_rfl) ?_
    refine o_app (enc := encPtr) (lv rfl) rfl el_65 ze_124 rfl (fun _ => rfl) (fun _ => rfl) rfl rfl (by exact hH) (hv13 _ (by exact hH.p4.rd)) (by simp; omega) (by simp; omega) ?_
    intro v59 w hH; obtain ⟨a59, k59, rfl, -⟩ := hH.rd.len
    refine ⟨(keeps_in rfl trivial), ?_⟩
    refine pN 15 (lv rfl) rfl rfl ?_
    refine pF 16 (lv rfl) rfl fa_67_0 rfl ?_
    refine d_l (j := 17) (by kernel_rfl) ?_
    refine o_st (lv rfl) rfl lk_65 rfl (vs := [_]) rfl rfl (by exact hH.p3) rfl rfl (by simp) rfl ?_
    intro w hH; dsimp only [setL, List.set] at hH
    refine ⟨(keeps_in rfl trivial), ?_⟩
    refine d_end (by kernel_rfl) ?_
    refine g_seq ?_
    refine g_region (l := [0]) rfl ?_
    refine vA (lv rfl) rfl rfl ?_
    refine g_rq Tryz.func110 (res_t rfl res_0) ?_
    have e1 : [] ++ (ps.take k).drop 0 ++ [b50] ++ (ps.take ps.length).drop k = ps.take k ++ b50 :: ps.drop k := by simp
    rw [e1] at hH
    have hF : (s.add id r m).F = s.F.take k ++ (id, newFlw r m) :: s.F.drop k := by unfold Sq.add; rw [etw, edw]
    refine ⟨rfl, RSfqC.mk (fv := .slice a59 (ps.take k ++ b50 :: ps.drop k).length k59) (ps := ps.take k ++ b50 :: ps.drop k) (by rw [hF]; simp [hl]) ?_⟩
    rw [hF, rfl_put hl hk, show (s.add id r m).v = s.v from rfl, show (s.add id r m).most = s.most from rfl]
    rw [rfl_split hl k] at hH
    refine Holds.p2 (Holds.p2 (Holds.all_put (p := RFlowC b50 (id, newFlw r m)) ?_))
    exact (hH.sel (by repeat' (first | exact Sel.refl _ | refine Sel.q0 ?_ | refine Sel.q3 ?_ | refine Sel.q4 ?_ | refine Sel.skip _ ?_)))
theorem pel {ps : List Nat} {T bp op_ m cap : Nat} (h : Holds R (Vec T 1 encPtr (.slice (some ⟨bp, op_, none⟩) m cap) ps :: F) w) {i : Nat} {b1 : Nat} (hb : ps[i]? = some b1) :
    ∃ (cs : List Value) (T' : Nat × Nat × Nat), w.heap[bp]? = some (.cells cs.toArray T'.1 T'.2) ∧ cs[op_ + i * 1]? = some (.pointer (some ⟨b1, 0, none⟩)) := by
  obtain ⟨cs, T', h1, h2⟩ := Rd.el' hkPtr h.rd hb
  exact ⟨cs, T', h1, h2 0 _ rfl⟩
theorem rfl_erase {ps : List Nat} {F : Fs} (i : Nat) : (rfl_ ps F).eraseIdx i = rfl_ (ps.eraseIdx i) (F.eraseIdx i) := by
  unfold rfl_
  induction ps generalizing F i with
  | nil => simp
  | cons p ps ih =>
    cases F with
    | nil => simp
    | cons x F => cases i with
      | zero => simp
      | succ i => simpa using ih i
theorem rfl_set {ps : List Nat} {F : Fs} {i b : Nat} {x : Int × Flw} (hb : ps[i]? = some b) : (rfl_ ps F).set i (RFlowC b x) = rfl_ ps (F.set i x) := by
  unfold rfl_
  induction ps generalizing F i with
  | nil => simp at hb
  | cons p ps ih =>
    cases F with
    | nil => simp
    | cons y F => cases i with
      | zero => simp at hb; simp [hb]
      | succ i => simpa using ih (by simpa using hb)
theorem r09_Remove {b : Nat} {s : Sq} (hok : s.ok) (id : Int) (hH : Holds R (RSfqC b s :: F) w) :
    Ret Tryz.prog 74 [.pointer (some ⟨b, 0, none⟩), .int .i64 id] w fun v w' => v = .int .i64 (s.removeE id) ∧ Holds R (RSfqC b (s.removeS id) :: F) w' := by
  have hlen := hok.2.2.2
  cases hat : s.at id with
  | none =>
    have e1 : s.removeE id = 5 := by unfold Sq.removeE; rw [hat]
    have e2 : s.removeS id = s := by unfold Sq.removeS; rw [hat]
    rw [e1, e2]
    refine ret_of_g (n := 45) Tryz.func74 rfl rfl (by simp) ?_
    refine g_seq ?_
    refine g_region (l := [0]) rfl ?_
    refine vA (lv rfl) rfl rfl ?_
    refine g_seq ?_
    refine g_region (l := [0, 1, 2, 3]) rfl ?_
    refine vM (lv rfl) rfl rfl ?_
    refine vM (lv rfl) rfl rfl ?_
    refine o_call (lv rfl) rfl en_63 rfl (r09_At hok id hH) ?_
    rintro _ w ⟨rfl, hH⟩
    rw [hat]
    refine vA (lv rfl) rfl rfl ?_
    refine g_seq ?_
    refine g_block ?_
    refine g_seq ?_
    refine g_region (l := [0, 1, 2]) rfl ?_
    refine vM (lv rfl) rfl rfl ?_
    refine o_v (lv rfl) rfl (r_lt rfl rfl) ?_
    refine vA (lv rfl) rfl rfl ?_
    refine g_if rfl (fun c0 => ?_) (fun c0 => ?_)
    ·refine g_seq ?_
     refine g_region (l := [0]) rfl ?_
     refine vA (lv rfl) rfl rfl ?_
     refine g_rq Tryz.func74 (res_t rfl res_0) ?_
     exact ⟨rfl, hH⟩
    ·simp [atI] at c0
  | some k =>
    obtain ⟨x, hx, hxi⟩ := Sq.at_spec hat
    have hkl := (List.getElem?_eq_some_iff.1 hx).1
    have e1 : s.removeE id = if x.2.l.length ≠ 0 then 8 else 0 := by unfold Sq.removeE; rw [hat]; simp only [hx]
    have e2 : s.removeS id = if x.2.l.length ≠ 0 then s else s.cut k := by unfold Sq.removeS; rw [hat]; simp only [hx]
    rw [e1, e2]
    refine ret_of_g (n := 45) Tryz.func74 rfl rfl (by simp) ?_
    refine g_seq ?_
    refine g_region (l := [0]) rfl ?_
    refine vA (lv rfl) rfl rfl ?_
    refine g_seq ?_
    refine g_region (l := [0, 1, 2, 3]) rfl ?_
    refine vM (lv rfl) rfl rfl ?_
    refine vM (lv rfl) rfl rfl ?_
    refine o_call (lv rfl) rfl en_63 rfl (r09_At hok id hH) ?_
    rintro _ w ⟨rfl, hH⟩
    rw [hat]; show OPS _ _ _ _ _ (updO _ _ (.int .i64 (k : Int))) _
    refine vA (lv rfl) rfl rfl ?_
    refine g_seq ?_
    refine g_block ?_
    refine g_seq ?_
    refine g_region (l := [0, 1, 2]) rfl ?_
    refine vM (lv rfl) rfl rfl ?_
    refine o_v (lv rfl) rfl (r_lt rfl rfl) ?_
    refine vA (lv rfl) rfl rfl ?_
    refine g_if rfl (fun c0 => ?_) (fun c0 => ?_)
    ·omega
    ·obtain ⟨fv, ps, hl, hH⟩ := RSfqC.op hH
     obtain ⟨a, cap, rfl, hc⟩ := hH.p1.rd.len
     obtain ⟨b1, hb1, a1, cap1, hblk⟩ := rflow_at hl hH.p2 hx
     obtain ⟨bp, op_, cs0, T0, rfl, -, -⟩ := Rd.el (i := k) hkPtr hH.p1.rd hb1
     obtain ⟨cs, T, hbp, hcp⟩ := pel hH.p1 hb1
     refine g_seq ?_
     refine g_region (l := [0, 1, 2, 3, 4, 5, 6, 7, 8, 9, 10, 11, 12]) rfl ?_
     refine vM (lv rfl) rfl rfl ?_
     refine o_v (lv rfl) rfl (r_nil rfl) ?_
     refine o_v (lv rfl) rfl (r_fa fa_67_0 rfl) ?_
     refine o_ld (lv rfl) rfl lk_65 rfl ⟨_, _, _, hH.c0, _, rfl, ?_⟩
     refine vM (lv rfl) rfl rfl ?_
     refine o_v (lv rfl) rfl (r_ia el_65 rfl rfl ?_ ?_) ?_; omega; omega
     refine o_ld (lv rfl) rfl lk_124 rfl ?_; refine ⟨_, _, _, hbp, _, hcp, ?_⟩
     refine o_v (lv rfl) rfl (r_nil rfl) ?_
     refine o_v (lv rfl) rfl (r_fa fa_123_3 rfl) ?_
     refine o_ld (lv rfl) rfl lk_48 rfl ?_; refine ⟨_, _, _, hblk, _, rfl, ?_⟩
     refine o_v (lv rfl) rfl (r_len el_48 rfl) ?_
     refine o_v (lv rfl) rfl (r_gt rfl rfl) ?_
     refine vA (lv rfl) rfl rfl ?_
     refine g_if rfl (fun c1 => ?_) (fun c1 => ?_)
     ·refine g_seq ?_
      refine g_region (l := [0]) rfl ?_
      refine vA (lv rfl) rfl rfl ?_
      refine g_rq Tryz.func74 (res_t rfl res_0) ?_
      have hne : x.2.l.length ≠ 0 := by omega
      rw [if_pos hne, if_pos hne]; exact ⟨rfl, RSfqC.mk hl (hH.sel (by repeat' (first | exact Sel.refl _)))⟩
     ·refine g_skip ?_
      refine g_inBlock ?_
      refine g_seq ?_
      refine g_region (l := [0, 1, 2, 3, 4, 5, 6, 7]) rfl ?_
      refine vM (lv rfl) rfl rfl ?_
      refine o_v (lv rfl) rfl (r_nil rfl) ?_
      refine o_v (lv rfl) rfl (r_fa fa_67_0 rfl) ?_
      refine o_ld (lv rfl) rfl lk_65 rfl ⟨_, _, _, hH.c0, _, rfl, ?_⟩
      refine vM (lv rfl) rfl rfl ?_
      refine o_slr hkPtr 0 k (lv rfl) rfl el_65 rfl hH.p1.rd bnd_n (bnd_s rfl) (by omega) (by omega) (fun v5 hv5 => ?_)
      refine o_app (enc := encPtr) (lv rfl) rfl el_65 ze_124 rfl (fun _ => rfl) (fun _ => rfl) rfl rfl (hH.vnil _ _ _) (hv5 _ (by exact hH.p1.rd)) (by simp; omega) (by simp; omega) ?_
      intro v32 w hH; obtain ⟨a32, k32, rfl, -⟩ := hH.rd.len
      refine vA (lv rfl) rfl rfl ?_
      refine g_seq ?_
      refine g_region (l := [0, 1, 2, 3, 4, 5, 6, 7, 8, 9, 10, 11, 12]) rfl ?_
      refine vM (lv rfl) rfl rfl ?_
      refine vM (lv rfl) rfl rfl ?_
      refine vM (lv rfl) rfl rfl ?_
      refine o_v (lv rfl) rfl (r_nil rfl) ?_
      refine o_v (lv rfl) rfl (r_fa fa_67_0 rfl) ?_
      refine o_ld (lv rfl) rfl lk_65 rfl ⟨_, _, _, hH.c1, _, rfl, ?_⟩
      refine vM (lv rfl) rfl rfl ?_
      refine o_v (lv rfl) rfl (r_addI rfl rfl ?_) ?_; omega
      refine o_slr hkPtr (k + 1) ps.length (lv rfl) rfl el_65 rfl (show Rd encPtr _ ps (hp _) from (by exact hH.p2.rd)) (bnd_s rfl) bnd_n (by omega) (by omega) (fun v8 hv8 => ?_)
      refine o_app (enc := encPtr) (lv rfl) rfl el_65 ze_124 rfl (fun _ => rfl) (fun _ => rfl) rfl rfl (by exact hH) (hv8 _ (by exact hH.p2.rd)) (by simp; omega) (by simp; omega) ?_
      intro v42 w hH; obtain ⟨a42, k42, rfl, -⟩ := hH.rd.len
      refine o_v (lv rfl) rfl (r_nil rfl) ?_
      refine o_v (lv rfl) rfl (r_fa fa_67_0 rfl) ?_
      refine o_st (lv rfl) rfl lk_65 rfl (vs := [_]) rfl rfl (by exact hH.p1) rfl rfl (by simp) rfl ?_
      intro w hH; dsimp only [setL, List.set] at hH
      refine g_seq ?_
      refine g_region (l := [0]) rfl ?_
      refine vA (lv rfl) rfl rfl ?_
      refine g_rq Tryz.func74 (res_t rfl res_0) ?_
      have hne : ¬ x.2.l.length ≠ 0 := by omega
      rw [if_neg hne, if_neg hne]
      have e3 : [] ++ (ps.take k).drop 0 ++ (ps.take ps.length).drop (k + 1) = ps.eraseIdx k := by rw [List.eraseIdx_eq_take_drop_succ]; simp
      rw [e3] at hH
      refine ⟨rfl, RSfqC.mk (fv := .slice a42 (ps.eraseIdx k).length k42) (s := s.cut k) (ps := ps.eraseIdx k) (by simp [Sq.cut, List.length_eraseIdx, hl]) ?_⟩
      show Holds _ (_ :: _ :: All (rfl_ (ps.eraseIdx k) (s.F.eraseIdx k)) :: F) _
      rw [← rfl_erase, show (s.cut k).v = s.v from rfl, show (s.cut k).most = s.most from rfl]
      refine Holds.p2 (Holds.p2 (Holds.drop (Holds.all_take (A := rfl_ ps s.F) (p := RFlowC b1 x) ?_ (rfl_get hb1 hx))))
      exact (hH.sel (by repeat' (first | exact Sel.refl _ | refine Sel.q0 ?_ | refine Sel.q3 ?_ | refine Sel.skip _ ?_)))
end
end Go.Proofs.YtkdbglfdgeldpaaGreat
