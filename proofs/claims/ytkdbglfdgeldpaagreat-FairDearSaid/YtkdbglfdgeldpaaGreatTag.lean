/- Contracts of package tag, and of the reference's like. Condition: numbers of 64 bits. -/
import Derived.Test.YtkdbglfdgeldpaaGreatFacts
import Derived.Test.YtkdbglfdgeldpaaGreatChecked
import Derived.Laws.Externs
import Derived.Laws.Bits64b
import Derived.Laws.MathBits
namespace Go.Proofs.YtkdbglfdgeldpaaGreat
open Go.Lt

def top : Int := 18446744073709551615
def satAdd (a b : Int) : Int := min (a + b) top
def satMul (a b : Int) : Int := min (a * b) top
def U (x : Int) : Prop := 0 ≤ x ∧ x ≤ 18446744073709551615
def aheadP (k i k2 i2 : Int) : Prop := k < k2 ∨ (k = k2 ∧ i < i2)
instance (k i k2 i2 : Int) : Decidable (aheadP k i k2 i2) := by unfold aheadP; infer_instance

theorem satAdd_U {a b : Int} (ha : U a) (hb : U b) : U (satAdd a b) := by unfold U satAdd top at *; omega
theorem satMul_U {a b : Int} (ha : U a) (hb : U b) : U (satMul a b) := by
  have := Int.mul_nonneg ha.1 hb.1
  unfold U satMul top at *; omega

theorem mask32 (z : Int) (h0 : 0 ≤ z) (h1 : z ≤ 18446744073709551615) : Go.bits .and .u64 z 4294967295 = z % 4294967296 := by
  obtain ⟨n, rfl⟩ := Int.eq_ofNat_of_zero_le h0
  have h := bits_and_u64_nat n 4294967295 (by omega) (by omega)
  have e : n &&& 4294967295 = n % 4294967296 := Nat.and_two_pow_sub_one_eq_mod n 32
  rw [e] at h
  have : ((n % 4294967296 : Nat) : Int) = (n : Int) % 4294967296 := by omega
  rw [← this]; exact h
section
variable {R : Base} {F : List HP} {w : World}

theorem tag_Ahead (k i k2 i2 : Int) (hH : Holds R F w) :
    Ret Tryz.prog 128 [.agg #[.int .u64 k, .int .i64 i], .agg #[.int .u64 k2, .int .i64 i2]] w fun v w' => v = .bool (decide (aheadP k i k2 i2)) ∧ Holds R F w' := by
  refine ret_of_g (n := 24) Tryz.func128 rfl rfl (by simp) ?_
  refine g_seq ?_
  refine g_region (l := [0, 1, 2]) rfl ?_
  refine o_box (lv rfl) rfl (cs := [_, _]) rfl rfl hH ?_
  intro b2 w hH
  refine o_box (lv rfl) rfl (cs := [_, _]) rfl rfl hH ?_
  intro b3 w hH
  refine vA (lv rfl) rfl rfl ?_
  refine g_seq ?_
  refine g_region (l := [0, 1, 2, 3, 4, 5, 6, 7, 8, 9, 10, 11, 12, 13, 14, 15, 16, 17, 18, 19]) rfl ?_
  refine o_v (lv rfl) rfl (r_fa fa_74_0 rfl) ?_
  refine o_ld (lv rfl) rfl lk_22 rfl ⟨_, _, _, hH.c1, _, rfl, ?_⟩
  refine o_v (lv rfl) rfl (r_fa fa_74_0 rfl) ?_
  refine o_ld (lv rfl) rfl lk_22 rfl ⟨_, _, _, hH.c0, _, rfl, ?_⟩
  refine o_v (lv rfl) rfl (r_lt rfl rfl) ?_
  refine vM (lv rfl) rfl rfl ?_
  refine s_ops (fun g1_5 => ?_) (fun g1_5 => ?_)
  ·refine o_no rfl rfl rfl rfl ?_
   refine o_no rfl rfl rfl rfl ?_
   refine o_no rfl rfl rfl rfl ?_
   refine o_no rfl rfl rfl rfl ?_
   refine o_no rfl rfl rfl rfl ?_
   refine o_no rfl rfl rfl rfl ?_
   refine o_no2 rfl rfl rfl rfl ?_
   refine o_no2 rfl rfl rfl rfl ?_
   refine o_no2 rfl rfl rfl rfl ?_
   refine o_no2 rfl rfl rfl rfl ?_
   refine o_no2 rfl rfl rfl rfl ?_
   refine o_no rfl rfl rfl rfl ?_
   refine o_v (lv rfl) rfl (r_pickT rfl rfl) ?_
   refine vA (lv rfl) rfl rfl ?_
   refine g_rq Tryz.func128 (res_t rfl res_0) ?_
   exact ⟨congrArg Value.bool (by ((symm; rw [decide_eq_true_iff]; unfold aheadP; omega))), hH.drop.drop⟩
  ·refine o_v (lvg rfl rfl rfl) rfl (r_fa fa_74_0 rfl) ?_
   refine o_ld (lvg rfl rfl rfl) rfl lk_22 rfl ⟨_, _, _, hH.c1, _, rfl, ?_⟩
   refine o_v (lvg rfl rfl rfl) rfl (r_fa fa_74_0 rfl) ?_
   refine o_ld (lvg rfl rfl rfl) rfl lk_22 rfl ⟨_, _, _, hH.c0, _, rfl, ?_⟩
   refine o_v (lvg rfl rfl rfl) rfl (r_eq rfl rfl) ?_
   refine vM (lvg rfl rfl rfl) rfl rfl ?_
   refine s_ops (fun g1_11 => ?_) (fun g1_11 => ?_)
   ·refine o_v (lvg rfl rfl rfl) rfl (r_fa fa_74_1 rfl) ?_
    refine o_ld (lvg rfl rfl rfl) rfl lk_3 rfl ⟨_, _, _, hH.c1, _, rfl, ?_⟩
    refine o_v (lvg rfl rfl rfl) rfl (r_fa fa_74_1 rfl) ?_
    refine o_ld (lvg rfl rfl rfl) rfl lk_3 rfl ⟨_, _, _, hH.c0, _, rfl, ?_⟩
    refine o_v (lvg rfl rfl rfl) rfl (r_lt rfl rfl) ?_
    refine o_v (lvg rfl rfl rfl) rfl (r_pickT rfl rfl) ?_
    refine o_v (lv rfl) rfl (r_pickF rfl rfl) ?_
    refine vA (lv rfl) rfl rfl ?_
    refine g_rq Tryz.func128 (res_t rfl res_0) ?_
    exact ⟨congrArg Value.bool (by ((apply decide_eq_decide.2; unfold aheadP; omega))), hH.drop.drop⟩
   ·refine o_no rfl rfl rfl rfl ?_
    refine o_no rfl rfl rfl rfl ?_
    refine o_no rfl rfl rfl rfl ?_
    refine o_no rfl rfl rfl rfl ?_
    refine o_no rfl rfl rfl rfl ?_
    refine o_v (lvg rfl rfl rfl) rfl (r_pickF rfl rfl) ?_
    refine o_v (lv rfl) rfl (r_pickF rfl rfl) ?_
    refine vA (lv rfl) rfl rfl ?_
    refine g_rq Tryz.func128 (res_t rfl res_0) ?_
    exact ⟨congrArg Value.bool (by ((symm; rw [decide_eq_false_iff_not]; unfold aheadP; omega))), hH.drop.drop⟩

theorem r01_Ahead (k i k2 i2 : Int) (hH : Holds R F w) :
    Ret Tryz.prog 107 [.agg #[.int .u64 k, .int .i64 i], .agg #[.int .u64 k2, .int .i64 i2]] w fun v w' => v = .bool (decide (aheadP k i k2 i2)) ∧ Holds R F w' := by
  refine ret_of_g (n := 24) Tryz.func107 rfl rfl (by simp) ?_
  refine g_seq ?_
  refine g_region (l := [0, 1, 2]) rfl ?_
  refine o_box (lv rfl) rfl (cs := [_, _]) rfl rfl hH ?_
  intro b2 w hH
  refine o_box (lv rfl) rfl (cs := [_, _]) rfl rfl hH ?_
  intro b3 w hH
  refine vA (lv rfl) rfl rfl ?_
  refine g_seq ?_
  refine g_region (l := [0, 1, 2, 3, 4, 5, 6, 7, 8, 9, 10, 11, 12, 13, 14, 15, 16, 17, 18, 19]) rfl ?_
  refine o_v (lv rfl) rfl (r_fa fa_74_0 rfl) ?_
  refine o_ld (lv rfl) rfl lk_22 rfl ⟨_, _, _, hH.c1, _, rfl, ?_⟩
  refine o_v (lv rfl) rfl (r_fa fa_74_0 rfl) ?_
  refine o_ld (lv rfl) rfl lk_22 rfl ⟨_, _, _, hH.c0, _, rfl, ?_⟩
  refine o_v (lv rfl) rfl (r_lt rfl rfl) ?_
  refine vM (lv rfl) rfl rfl ?_
  refine s_ops (fun g1_5 => ?_) (fun g1_5 => ?_)
  ·refine o_no rfl rfl rfl rfl ?_
   refine o_no rfl rfl rfl rfl ?_
   refine o_no rfl rfl rfl rfl ?_
   refine o_no rfl rfl rfl rfl ?_
   refine o_no rfl rfl rfl rfl ?_
   refine o_no rfl rfl rfl rfl ?_
   refine o_no2 rfl rfl rfl rfl ?_
   refine o_no2 rfl rfl rfl rfl ?_
   refine o_no2 rfl rfl rfl rfl ?_
   refine o_no2 rfl rfl rfl rfl ?_
   refine o_no2 rfl rfl rfl rfl ?_
   refine o_no rfl rfl rfl rfl ?_
   refine o_v (lv rfl) rfl (r_pickT rfl rfl) ?_
   refine vA (lv rfl) rfl rfl ?_
   refine g_rq Tryz.func107 (res_t rfl res_0) ?_
   exact ⟨congrArg Value.bool (by ((symm; rw [decide_eq_true_iff]; unfold aheadP; omega))), hH.drop.drop⟩
  ·refine o_v (lvg rfl rfl rfl) rfl (r_fa fa_74_0 rfl) ?_
   refine o_ld (lvg rfl rfl rfl) rfl lk_22 rfl ⟨_, _, _, hH.c1, _, rfl, ?_⟩
   refine o_v (lvg rfl rfl rfl) rfl (r_fa fa_74_0 rfl) ?_
   refine o_ld (lvg rfl rfl rfl) rfl lk_22 rfl ⟨_, _, _, hH.c0, _, rfl, ?_⟩
   refine o_v (lvg rfl rfl rfl) rfl (r_eq rfl rfl) ?_
   refine vM (lvg rfl rfl rfl) rfl rfl ?_
   refine s_ops (fun g1_11 => ?_) (fun g1_11 => ?_)
   ·refine o_v (lvg rfl rfl rfl) rfl (r_fa fa_74_1 rfl) ?_
    refine o_ld (lvg rfl rfl rfl) rfl lk_3 rfl ⟨_, _, _, hH.c1, _, rfl, ?_⟩
    refine o_v (lvg rfl rfl rfl) rfl (r_fa fa_74_1 rfl) ?_
    refine o_ld (lvg rfl rfl rfl) rfl lk_3 rfl ⟨_, _, _, hH.c0, _, rfl, ?_⟩
    refine o_v (lvg rfl rfl rfl) rfl (r_lt rfl rfl) ?_
    refine o_v (lvg rfl rfl rfl) rfl (r_pickT rfl rfl) ?_
    refine o_v (lv rfl) rfl (r_pickF rfl rfl) ?_
    refine vA (lv rfl) rfl rfl ?_
    refine g_rq Tryz.func107 (res_t rfl res_0) ?_
    exact ⟨congrArg Value.bool (by ((apply decide_eq_decide.2; unfold aheadP; omega))), hH.drop.drop⟩
   ·refine o_no rfl rfl rfl rfl ?_
    refine o_no rfl rfl rfl rfl ?_
    refine o_no rfl rfl rfl rfl ?_
    refine o_no rfl rfl rfl rfl ?_
    refine o_no rfl rfl rfl rfl ?_
    refine o_v (lvg rfl rfl rfl) rfl (r_pickF rfl rfl) ?_
    refine o_v (lv rfl) rfl (r_pickF rfl rfl) ?_
    refine vA (lv rfl) rfl rfl ?_
    refine g_rq Tryz.func107 (res_t rfl res_0) ?_
    exact ⟨congrArg Value.bool (by ((symm; rw [decide_eq_false_iff_not]; unfold aheadP; omega))), hH.drop.drop⟩
theorem r01_Add (a b : Int) (ha : U a) (hb : U b) (hH : Holds R F w) :
    Ret Tryz.prog 80 [.int .u64 a, .int .u64 b] w fun v w' => v = .int .u64 (satAdd a b) ∧ Holds R F w' := by
  unfold U at ha hb
  refine ret_of_g (n := 12) Tryz.func80 rfl rfl (by simp) ?_
  refine g_seq ?_
  refine g_region (l := [0]) rfl ?_
  refine vA (lv rfl) rfl rfl ?_
  refine g_seq ?_
  refine g_seq ?_
  refine g_region (l := [0, 1, 2, 3]) rfl ?_
  refine vM (lv rfl) rfl rfl ?_
  refine vM (lv rfl) rfl rfl ?_
  refine o_v (lv rfl) rfl (r_subU rfl rfl ?_) ?_; omega
  refine o_v (lv rfl) rfl (r_gt rfl rfl) ?_
  refine g_if rfl (fun c0 => ?_) (fun c0 => ?_)
  ·refine g_seq ?_
   refine g_region (l := [0]) rfl ?_
   refine vA (lv rfl) rfl rfl ?_
   refine g_rq Tryz.func80 (res_t rfl res_0) ?_
   exact ⟨iv (by unfold satAdd top; omega), hH⟩
  ·refine g_skip ?_
   refine g_seq ?_
   refine g_region (l := [0, 1, 2, 3]) rfl ?_
   refine vM (lv rfl) rfl rfl ?_
   refine vM (lv rfl) rfl rfl ?_
   refine o_v (lv rfl) rfl (r_addU rfl rfl ?_) ?_; omega
   refine vA (lv rfl) rfl rfl ?_
   refine g_rq Tryz.func80 (res_t rfl res_0) ?_
   exact ⟨iv (by unfold satAdd top; omega), hH⟩
theorem r01_Mul (a b : Int) (ha : U a) (hb : U b) (hH : Holds R F w) :
    Ret Tryz.prog 81 [.int .u64 a, .int .u64 b] w fun v w' => v = .int .u64 (satMul a b) ∧ Holds R F w' := by
  unfold U at ha hb
  have hab : 0 ≤ a * b := Int.mul_nonneg ha.1 hb.1
  refine ret_of_g (n := 16) Tryz.func81 rfl rfl (by simp) ?_
  refine g_seq ?_
  refine g_region (l := [0]) rfl ?_
  refine vA (lv rfl) rfl rfl ?_
  refine g_seq ?_
  refine g_seq ?_
  refine g_region (l := [0, 1, 2, 3, 4, 5, 6, 7]) rfl ?_
  refine vM (lv rfl) rfl rfl ?_
  refine o_v (lv rfl) rfl (r_ne rfl rfl) ?_
  refine vM (lv rfl) rfl rfl ?_
  refine s_ops (fun g1_2 => ?_) (fun g1_2 => ?_)
  ·refine vM (lvg rfl rfl rfl) rfl rfl ?_
   refine vM (lvg rfl rfl rfl) rfl rfl ?_
   refine o_v (lvg rfl rfl rfl) rfl (r_quoU rfl rfl ?_ ?_) ?_; omega; omega
   refine o_v (lvg rfl rfl rfl) rfl (r_gt rfl rfl) ?_
   refine o_v (lv rfl) rfl (r_pickT rfl rfl) ?_
   refine g_if rfl (fun c0 => ?_) (fun c0 => ?_)
   ·refine g_seq ?_
    refine g_region (l := [0]) rfl ?_
    refine vA (lv rfl) rfl rfl ?_
    refine g_rq Tryz.func81 (res_t rfl res_0) ?_
    exact ⟨iv (by
    unfold satMul top
    have h1 : 18446744073709551615 < b * a := Int.lt_mul_of_ediv_lt (by omega) c0
    rw [Int.mul_comm] at h1; omega), hH⟩
   ·refine g_skip ?_
    refine g_seq ?_
    refine g_region (l := [0, 1, 2, 3]) rfl ?_
    refine vM (lv rfl) rfl rfl ?_
    refine vM (lv rfl) rfl rfl ?_
    refine o_v (lv rfl) rfl (r_mul rfl rfl) ?_
    refine vA (lv rfl) rfl rfl ?_
    refine g_rq Tryz.func81 (res_t rfl res_0) ?_
    exact ⟨iv (by
    unfold satMul top
    rw [wrap_u64_mod]
    have h1 : a * b ≤ 18446744073709551615 := by
      by_cases h0 : a = 0
      ·subst h0; omega
      ·have h2 : b ≤ 18446744073709551615 / a := by
         omega
       have h3 : b * a ≤ 18446744073709551615 / a * a := Int.mul_le_mul_of_nonneg_right h2 (by omega)
       have h4 := Int.ediv_mul_le 18446744073709551615 (b := a) h0
       rw [Int.mul_comm] at h3; omega
    omega), hH⟩
  ·refine o_no rfl rfl rfl rfl ?_
   refine o_no rfl rfl rfl rfl ?_
   refine o_no rfl rfl rfl rfl ?_
   refine o_no rfl rfl rfl rfl ?_
   refine o_v (lv rfl) rfl (r_pickF rfl rfl) ?_
   refine g_false rfl ?_
   refine g_skip ?_
   refine g_seq ?_
   refine g_region (l := [0, 1, 2, 3]) rfl ?_
   refine vM (lv rfl) rfl rfl ?_
   refine vM (lv rfl) rfl rfl ?_
   refine o_v (lv rfl) rfl (r_mul rfl rfl) ?_
   refine vA (lv rfl) rfl rfl ?_
   refine g_rq Tryz.func81 (res_t rfl res_0) ?_
   exact ⟨iv (by
   unfold satMul top
   rw [wrap_u64_mod]
   have h1 : a * b ≤ 18446744073709551615 := by
     by_cases h0 : a = 0
     ·subst h0; omega
     ·have h2 : b ≤ 18446744073709551615 / a := by
        omega
      have h3 : b * a ≤ 18446744073709551615 / a * a := Int.mul_le_mul_of_nonneg_right h2 (by omega)
      have h4 := Int.ediv_mul_le 18446744073709551615 (b := a) h0
      rw [Int.mul_comm] at h3; omega
   omega), hH⟩
theorem r01_Cost (a b : Int) (ha : -9223372036854775808 ≤ a ∧ a ≤ 9223372036854775807) (hb : U b) (hH : Holds R F w) :
    Ret Tryz.prog 49 [.int .i64 a, .int .u64 b] w fun v w' => v = .int .u64 (satMul (max a 0) b) ∧ Holds R F w' := by
  refine ret_of_g (n := 10) Tryz.func49 rfl rfl (by simp) ?_
  refine g_seq ?_
  refine g_region (l := [0]) rfl ?_
  refine vA (lv rfl) rfl rfl ?_
  refine g_seq ?_
  refine g_region (l := [0, 1, 2, 3, 4, 5]) rfl ?_
  refine vM (lv rfl) rfl rfl ?_
  refine o_v (lv rfl) rfl (r_max2 rfl rfl) ?_
  refine o_v (lv rfl) rfl (r_cvU un_3 kn_22 rfl ?_) ?_; omega
  refine vM (lv rfl) rfl rfl ?_
  refine o_call (lv rfl) rfl en_81 rfl (r01_Mul (max a 0) b (by unfold U; omega) hb hH) ?_
  rintro _ w ⟨rfl, hH⟩
  refine vA (lv rfl) rfl rfl ?_
  refine g_rq Tryz.func49 (res_t rfl res_0) ?_
  exact ⟨rfl, hH⟩
theorem bits_Mul64 (x y : Int) (hx : U x) (hy : U y) (hH : Holds R F w) :
    Ret Tryz.prog 151 [.int .u64 x, .int .u64 y] w fun v w' => v = .tuple #[.int .u64 (x * y / 18446744073709551616), .int .u64 (x * y % 18446744073709551616)] ∧ Holds R F w' := by
  unfold U at hx hy
  refine ret_of_g (n := 51) Tryz.func151 rfl rfl (by simp) ?_
  refine g_seq ?_
  refine g_region (l := [0, 1]) rfl ?_
  refine vA (lv rfl) rfl rfl ?_
  refine vA (lv rfl) rfl rfl ?_
  refine g_seq ?_
  refine g_region (l := [0, 1, 2]) rfl ?_
  refine vM (lv rfl) rfl rfl ?_
  refine o_v (lv rfl) rfl (r_bits (by simp) rfl rfl) ?_
  refine vA (lv rfl) rfl rfl ?_
  refine g_seq ?_
  refine g_region (l := [0, 1, 2]) rfl ?_
  refine vM (lv rfl) rfl rfl ?_
  refine o_v (lv rfl) rfl (r_shr rfl rfl ?_ ?_) ?_; omega; ((simp only [IntKind.bits]; omega))
  refine vA (lv rfl) rfl rfl ?_
  refine g_seq ?_
  refine g_region (l := [0, 1, 2]) rfl ?_
  refine vM (lv rfl) rfl rfl ?_
  refine o_v (lv rfl) rfl (r_bits (by simp) rfl rfl) ?_
  refine vA (lv rfl) rfl rfl ?_
  refine g_seq ?_
  refine g_region (l := [0, 1, 2]) rfl ?_
  refine vM (lv rfl) rfl rfl ?_
  refine o_v (lv rfl) rfl (r_shr rfl rfl ?_ ?_) ?_; omega; ((simp only [IntKind.bits]; omega))
  refine vA (lv rfl) rfl rfl ?_
  refine g_seq ?_
  refine g_region (l := [0, 1, 2, 3]) rfl ?_
  refine vM (lv rfl) rfl rfl ?_
  refine vM (lv rfl) rfl rfl ?_
  refine o_v (lv rfl) rfl (r_mul rfl rfl) ?_
  refine vA (lv rfl) rfl rfl ?_
  refine g_seq ?_
  refine g_region (l := [0, 1, 2, 3, 4, 5, 6]) rfl ?_
  refine vM (lv rfl) rfl rfl ?_
  refine vM (lv rfl) rfl rfl ?_
  refine o_v (lv rfl) rfl (r_mul rfl rfl) ?_
  refine vM (lv rfl) rfl rfl ?_
  refine o_v (lv rfl) rfl (r_shr rfl rfl ?_ ?_) ?_; omega; ((simp only [IntKind.bits]; omega))
  refine o_v (lv rfl) rfl (r_add rfl rfl) ?_
  refine vA (lv rfl) rfl rfl ?_
  refine g_seq ?_
  refine g_region (l := [0, 1, 2]) rfl ?_
  refine vM (lv rfl) rfl rfl ?_
  refine o_v (lv rfl) rfl (r_bits (by simp) rfl rfl) ?_
  refine vA (lv rfl) rfl rfl ?_
  refine g_seq ?_
  refine g_region (l := [0, 1, 2]) rfl ?_
  refine vM (lv rfl) rfl rfl ?_
  refine o_v (lv rfl) rfl (r_shr rfl rfl ?_ ?_) ?_; omega; ((simp only [IntKind.bits]; omega))
  refine vA (lv rfl) rfl rfl ?_
  refine g_seq ?_
  refine g_region (l := [0, 1, 2, 3, 4, 5]) rfl ?_
  refine vM (lv rfl) rfl rfl ?_
  refine vM (lv rfl) rfl rfl ?_
  refine vM (lv rfl) rfl rfl ?_
  refine o_v (lv rfl) rfl (r_mul rfl rfl) ?_
  refine o_v (lv rfl) rfl (r_add rfl rfl) ?_
  refine vA (lv rfl) rfl rfl ?_
  refine g_seq ?_
  refine g_region (l := [0, 1, 2, 3, 4, 5, 6, 7, 8]) rfl ?_
  refine vM (lv rfl) rfl rfl ?_
  refine vM (lv rfl) rfl rfl ?_
  refine o_v (lv rfl) rfl (r_mul rfl rfl) ?_
  refine vM (lv rfl) rfl rfl ?_
  refine o_v (lv rfl) rfl (r_add rfl rfl) ?_
  refine vM (lv rfl) rfl rfl ?_
  refine o_v (lv rfl) rfl (r_shr rfl rfl ?_ ?_) ?_; omega; ((simp only [IntKind.bits]; omega))
  refine o_v (lv rfl) rfl (r_add rfl rfl) ?_
  refine vA (lv rfl) rfl rfl ?_
  refine g_seq ?_
  refine g_region (l := [0, 1, 2, 3]) rfl ?_
  refine vM (lv rfl) rfl rfl ?_
  refine vM (lv rfl) rfl rfl ?_
  refine o_v (lv rfl) rfl (r_mul rfl rfl) ?_
  refine vA (lv rfl) rfl rfl ?_
  refine g_rq Tryz.func151 (res_t rfl (res_t rfl res_0)) ?_
  exact ⟨by
  have h := mul64_arith x y (by omega) (by omega) (by omega) (by omega)
  have m : ∀ z : Int, 0 ≤ z → z ≤ 18446744073709551615 → Go.bits .and .u64 z 4294967295 = z % 4294967296 := mask32
  have q : ∀ z : Int, z / 2 ^ Int.toNat 32 = z / 4294967296 := fun z => rfl
  have r : ∀ z : Int, 0 ≤ z % 18446744073709551616 ∧ z % 18446744073709551616 ≤ 18446744073709551615 := fun z => by omega
  simp only [wrap_u64_mod, q]
  rw [m x (by omega) (by omega), m y (by omega) (by omega), m _ (r _).1 (r _).2]
  simp only [retv]
  rw [h], hH⟩
theorem tag_Add (a b : Int) (ha : U a) (hb : U b) (hH : Holds R F w) :
    Ret Tryz.prog 115 [.int .u64 a, .int .u64 b] w fun v w' => v = .int .u64 (satAdd a b) ∧ Holds R F w' := by
  unfold U at ha hb
  refine ret_of_g (n := 16) Tryz.func115 rfl rfl (by simp) ?_
  refine g_seq ?_
  refine g_region (l := [0]) rfl ?_
  refine vA (lv rfl) rfl rfl ?_
  refine g_seq ?_
  refine g_region (l := [0, 1, 2, 3, 4, 5, 6, 7]) rfl ?_
  refine vM (lv rfl) rfl rfl ?_
  refine vM (lv rfl) rfl rfl ?_
  refine o_ext (lv rfl) rfl Tryz.func133 rfl (by kernel_rfl) (by kernel_rfl) (g := add64Entry) (by kernel_rfl) rfl (run_add64 a b 0 ha.1 hb.1 (by omega) (by omega) _) ?_
  refine vM (lv rfl) rfl rfl ?_
  refine o_v (lv rfl) rfl (r_ex rfl rfl) ?_
  refine o_v (lv rfl) rfl (r_ex rfl rfl) ?_
  refine vA (lv rfl) rfl rfl ?_
  refine vA (lv rfl) rfl rfl ?_
  refine g_seq ?_
  refine g_seq ?_
  refine g_region (l := [0, 1]) rfl ?_
  refine vM (lv rfl) rfl rfl ?_
  refine o_v (lv rfl) rfl (r_ne rfl rfl) ?_
  refine g_if rfl (fun c0 => ?_) (fun c0 => ?_)
  ·refine g_seq ?_
   refine g_region (l := [0]) rfl ?_
   refine vA (lv rfl) rfl rfl ?_
   refine g_rq Tryz.func115 (res_t rfl res_0) ?_
   exact ⟨iv (by unfold satAdd top; omega), hH⟩
  ·refine g_skip ?_
   refine g_seq ?_
   refine g_region (l := [0, 1]) rfl ?_
   refine vM (lv rfl) rfl rfl ?_
   refine vA (lv rfl) rfl rfl ?_
   refine g_rq Tryz.func115 (res_t rfl res_0) ?_
   exact ⟨iv (by unfold satAdd top; omega), hH⟩
theorem tag_Mul (a b : Int) (ha : U a) (hb : U b) (hH : Holds R F w) :
    Ret Tryz.prog 132 [.int .u64 a, .int .u64 b] w fun v w' => v = .int .u64 (satMul a b) ∧ Holds R F w' := by
  refine ret_of_g (n := 16) Tryz.func132 rfl rfl (by simp) ?_
  refine g_seq ?_
  refine g_region (l := [0]) rfl ?_
  refine vA (lv rfl) rfl rfl ?_
  refine g_seq ?_
  refine g_region (l := [0, 1, 2, 3, 4, 5, 6, 7]) rfl ?_
  refine vM (lv rfl) rfl rfl ?_
  refine vM (lv rfl) rfl rfl ?_
  refine o_call (lv rfl) rfl en_151 rfl (bits_Mul64 a b ha hb hH) ?_
  rintro _ w ⟨rfl, hH⟩
  refine vM (lv rfl) rfl rfl ?_
  refine o_v (lv rfl) rfl (r_ex rfl rfl) ?_
  refine o_v (lv rfl) rfl (r_ex rfl rfl) ?_
  refine vA (lv rfl) rfl rfl ?_
  refine vA (lv rfl) rfl rfl ?_
  refine g_seq ?_
  refine g_seq ?_
  refine g_region (l := [0, 1]) rfl ?_
  refine vM (lv rfl) rfl rfl ?_
  refine o_v (lv rfl) rfl (r_ne rfl rfl) ?_
  refine g_if rfl (fun c0 => ?_) (fun c0 => ?_)
  ·refine g_seq ?_
   refine g_region (l := [0]) rfl ?_
   refine vA (lv rfl) rfl rfl ?_
   refine g_rq Tryz.func132 (res_t rfl res_0) ?_
   exact ⟨iv (by
   have hab : 0 ≤ a * b := Int.mul_nonneg ha.1 hb.1
   unfold satMul top; generalize a * b = m at *; omega), hH⟩
  ·refine g_skip ?_
   refine g_seq ?_
   refine g_region (l := [0, 1]) rfl ?_
   refine vM (lv rfl) rfl rfl ?_
   refine vA (lv rfl) rfl rfl ?_
   refine g_rq Tryz.func132 (res_t rfl res_0) ?_
   exact ⟨iv (by
   have hab : 0 ≤ a * b := Int.mul_nonneg ha.1 hb.1
   unfold satMul top; generalize a * b = m at *; omega), hH⟩
theorem tag_Cost (a b : Int) (ha : -9223372036854775808 ≤ a ∧ a ≤ 9223372036854775807) (hb : U b) (hH : Holds R F w) :
    Ret Tryz.prog 114 [.int .i64 a, .int .u64 b] w fun v w' => v = .int .u64 (satMul (max a 0) b) ∧ Holds R F w' := by
  refine ret_of_g (n := 10) Tryz.func114 rfl rfl (by simp) ?_
  refine g_seq ?_
  refine g_region (l := [0]) rfl ?_
  refine vA (lv rfl) rfl rfl ?_
  refine g_seq ?_
  refine g_region (l := [0, 1, 2, 3, 4, 5]) rfl ?_
  refine vM (lv rfl) rfl rfl ?_
  refine o_v (lv rfl) rfl (r_max2 rfl rfl) ?_
  refine o_v (lv rfl) rfl (r_cvU un_3 kn_22 rfl ?_) ?_; omega
  refine vM (lv rfl) rfl rfl ?_
  refine o_call (lv rfl) rfl en_132 rfl (tag_Mul (max a 0) b (by unfold U; omega) hb hH) ?_
  rintro _ w ⟨rfl, hH⟩
  refine vA (lv rfl) rfl rfl ?_
  refine g_rq Tryz.func114 (res_t rfl res_0) ?_
  exact ⟨rfl, hH⟩
end
end Go.Proofs.YtkdbglfdgeldpaaGreat
