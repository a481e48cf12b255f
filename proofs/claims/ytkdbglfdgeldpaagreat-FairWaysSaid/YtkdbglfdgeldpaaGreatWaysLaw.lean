/- The statement: FairWays answers true for every input, and the input reads as it did. Condition: none. -/
import Derived.Test.YtkdbglfdgeldpaaGreatWays
import Derived.Test.YtkdbglfdgeldpaaGreatOpn
namespace Go.Proofs.YtkdbglfdgeldpaaGreat.fairWays
open Go.ChangeShapes Go.WideShapes Go.ChangeAt Go.RowKit Go.Lt
set_option linter.unusedVariables false
theorem own : ownKnob Tryz.prog.godebug = none := by kernel_rfl
set_option maxRecDepth 100000 in
theorem lifted (os : Os) (started : os.Started) (H : Type) (enc : TypeId × Value → H) :
    ReturnsInHanded {} Tryz.checked os 5 .any (Rows.fairWaysSpec.pre6 enc Tryz.prog Tryz.f5 Rows.fairWaysRow.domain false) (Rows.fairWaysSpec.post enc Tryz.prog Tryz.f5 false true false false) := by
  refine returnsInHanded_of_change (C := Tryz.checked) own started (by kernel_rfl) Tryz.func5
    (ChangeSpec.witness6 (enc := enc) (C := Tryz.checked) false ⟨#[], #[.agg #[.int .i64 0, .int .i64 0, .int .i64 0, .int .i64 0, .int .u64 0], .slice none 0 0, .slice none 0 0, .slice none 0 0, .int .i64 0, .int .i64 0, .int .i64 0], []⟩ 8 (by kernel_rfl) (by kernel_rfl) (by kernel_rfl) (by kernel_rfl)) ?_
  intro W base args ds gs before hval0 hW hcnd _
  have hval : ∀ (j : Nat) t v, Tryz.f5.params[j]? = some t → args[j]? = some v → Value.okWide Tryz.prog W .any base t v := hval0
  have hW' := hW
  obtain ⟨p, q, hA0, hV, rfl, hfz, hnd⟩ := hW
  have hA : DataW.TrodAll enc Tryz.prog W 0 (fun _ => true) true Tryz.f5.params.toList args.toList ds p := hA0
  rw [Tryz.params5] at hA hval
  obtain ⟨v0, vs0, d0, ds0, p0, q0, hargs, rfl, rfl, h0, r0⟩ := trodAll_cons hA
  obtain ⟨v1, vs1, d1, ds1, p1, q1, rfl, rfl, rfl, h1, r1⟩ := trodAll_cons r0
  obtain ⟨v2, vs2, d2, ds2, p2, q2, rfl, rfl, rfl, h2, r2⟩ := trodAll_cons r1
  obtain ⟨v3, vs3, d3, ds3, p3, q3, rfl, rfl, rfl, h3, r3⟩ := trodAll_cons r2
  obtain ⟨v4, vs4, d4, ds4, p4, q4, rfl, rfl, rfl, h4, r4⟩ := trodAll_cons r3
  obtain ⟨v5, vs5, d5, ds5, p5, q5, rfl, rfl, rfl, h5, r5⟩ := trodAll_cons r4
  obtain ⟨v6, vs6, d6, ds6, p6, q6, rfl, rfl, rfl, h6, r6⟩ := trodAll_cons r5
  obtain ⟨rfl, rfl, rfl⟩ := trodAll_nil r6
  obtain rfl : args = #[v0, v1, v2, v3, v4, v5, v6] := by cases args; simp_all
  obtain ⟨rfl, rfl⟩ := trodVars_none hV
  obtain ⟨x0, rfl, i1, i2, i3, i4, i5⟩ := open_cfg (hval 0 24 v0 rfl rfl) h0
  obtain ⟨x1, a1, b1, c1⟩ := open_turns (hval 1 26 v1 rfl rfl) h1
  obtain ⟨x2, a2, b2, c2⟩ := open_calls (hval 2 39 v2 rfl rfl) h2
  obtain ⟨x3, a3, b3, c3⟩ := open_turns (hval 3 26 v3 rfl rfl) h3
  obtain ⟨x4, rfl, -, -, w4⟩ := open_int Tryz.underlying3 (hval 4 3 v4 rfl rfl) h4
  obtain ⟨x5, rfl, -, -, w5⟩ := open_int Tryz.underlying3 (hval 5 3 v5 rfl rfl) h5
  obtain ⟨x6, rfl, -, -, w6⟩ := open_int Tryz.underlying3 (hval 6 3 v6 rfl rfl) h6
  clear hA0 hval0
  refine Calls.mono (law28_FairWays (R := baseOf W) (F := []) x0 i1 i2 i3 i4 i5 a1 b1 c1 a2 b2 c2 a3 b3 c3 x4 x5 x6 (I_of w4) (I_of w5) (I_of w6) (holds_start W)) fun e W' ⟨v, he, hv, hg⟩ => ?_
  subst hv
  refine ⟨_, he, post_true (f := Tryz.f5) hW' rfl hg ?_ rfl Tryz.underlying4 rfl⟩
  intro sp t ht
  rw [Tryz.params5] at ht
  simp only [List.mem_cons, List.not_mem_nil, or_false] at ht
  rcases ht with rfl | rfl | rfl | rfl | rfl | rfl | rfl
  ·exact kp24 _ _ _
  ·exact kp26 hg.ro
  ·exact kp39 hg.ro
  ·exact kp26 hg.ro
  ·exact kp3 _ _ _
  ·exact kp3 _ _ _
  ·exact kp3 _ _ _
theorem over : Rows.fairWaysRow.holds Tryz.pinned (OpenSpec.ofChange Rows.fairWaysSpec) :=
  OpenClaim.holds_of_wide 5 Tryz.f5 rfl rfl rfl rfl rfl rfl rfl ⟨rfl, rfl, rfl, rfl, rfl⟩ rfl rfl rfl rfl rfl (by kernel_rfl) Tryz.func5 (by kernel_rfl)
    (of_decide_eq_true (by kernel_rfl)) (by unfold Func.isWrapper; first | (rw [if_pos (by decide +kernel)]; kernel_rfl) | (rw [if_neg (by decide +kernel)]; exact ⟨rfl, rfl⟩))
    (fun os started H enc _ => lifted os started H enc)
theorem proved : Rows.FairWaysSaid := over
#print axioms proved
end Go.Proofs.YtkdbglfdgeldpaaGreat.fairWays
