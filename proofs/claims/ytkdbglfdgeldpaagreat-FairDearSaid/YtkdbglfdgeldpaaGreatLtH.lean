/- The engine, part H: ways that join again; what a slice of ints that is one's own holds, opened and shut. Condition: none. -/
import Derived.Test.YtkdbglfdgeldpaaGreatLtG
namespace Go.Lt
def isBo (P : Program) (T : Nat) : Bool := match P.underlying T with | some .bool => true | _ => false
section
variable {P : Program} {f : FuncId} {R : Ending → World → Prop} {n : Nat} {k : List Item} {e : Env} {w : World} {ty : TypeId}
/-- Behind a piece of code that no way leaves ahead of its end: K. -/
theorem g_join {x : Code} (K : Env → World → Prop) (h1 : ∀ k', (∀ e w, K e w → G P f R n k' e w) → G P f R n (.code x :: k') e w) (h2 : ∀ e w, K e w → G P f R n k e w) : G P f R n (.code x :: k) e w := h1 k h2
theorem r_negI {T : Nat} {x : Operand} {a : Int} (hx : ev e x = .int .i64 a) (hr : -9223372036854775808 ≤ -a ∧ -a ≤ 9223372036854775807) : (xop (ev e) (.unOp .neg T x) ty).run P w = .ok (.value (.int .i64 (-a))) w := by
  rw [r_neg hx, wrap_i64 (by omega)]
  simp
theorem r_cvM {S T : Nat} {x : Operand} {k2 : IntKind} {a : Int} (hs : (P.underlying S).isSome = true) (hd : knd P T = some .u64) (hx : ev e x = .int k2 a) :
    (xop (ev e) (.convert S T x) ty).run P w = .ok (.value (.int .u64 (a % 18446744073709551616))) w := by rw [r_cv hs hd hx, wrap_u64_mod]
theorem tdiv_b {a b : Int} (ha : -9223372036854775808 ≤ a ∧ a ≤ 9223372036854775807) (hb : 1 < b) : -9223372036854775808 ≤ a.tdiv b ∧ a.tdiv b ≤ 9223372036854775807 := by
  by_cases h : 0 ≤ a
  · rw [Int.tdiv_eq_ediv_of_nonneg h]
    have h1 := Int.ediv_nonneg h (Int.le_of_lt (Int.lt_trans (by omega) hb)); have h2 := Int.ediv_le_self b h
    omega
  · have e : a.tdiv b = -((-a).tdiv b) := by rw [Int.neg_tdiv, Int.neg_neg]
    have h' : 0 ≤ -a := by omega
    rw [e, Int.tdiv_eq_ediv_of_nonneg h']
    have h1 := Int.ediv_nonneg h' (Int.le_of_lt (Int.lt_trans (by omega) hb))
    have h2 : (-a) / b < -a := Int.ediv_lt_self_of_pos_of_ne_one (by omega) (by omega)
    omega
theorem r_quoT {T T2 : Nat} {x y : Operand} {a b : Int} (hx : ev e x = .int .i64 a) (hy : ev e y = .int .i64 b) (ha : -9223372036854775808 ≤ a ∧ a ≤ 9223372036854775807) (hb : 1 < b) :
    (xop (ev e) (.binOp .quo T x y T2) ty).run P w = .ok (.value (.int .i64 (a.tdiv b))) w := by
  rw [r_quo hx hy (by omega), wrap_i64 (tdiv_b ha hb)]
theorem equal_bool {T : Nat} {a b : Bool} (ht : isBo P T = true) : (Op.equal T (.bool a) (.bool b)).run P w = .ok (decide (a = b)) w := by
  unfold isBo at ht
  split at ht <;> try (cases ht; done)
  rename_i hu
  have key : ∀ d, (Op.equalIn (d + 1) T (.bool a) (.bool b)).run P w = .ok (decide (a = b)) w := fun d => by
    cases a <;> cases b <;> simp [Op.equalIn, run_underlying hu]
  exact key 9999
theorem r_eqB {T T2 : Nat} {x y : Operand} {a b : Bool} (ht : isBo P T = true) (hx : ev e x = .bool a) (hy : ev e y = .bool b) : (xop (ev e) (.binOp .eql T x y T2) ty).run P w = .ok (.value (.bool (decide (a = b)))) w :=
  bin_ne hx hy (by simp [eqGuard]) (by simp [binOp, equal_bool ht])
theorem r_neB {T T2 : Nat} {x y : Operand} {a b : Bool} (ht : isBo P T = true) (hx : ev e x = .bool a) (hy : ev e y = .bool b) : (xop (ev e) (.binOp .neq T x y T2) ty).run P w = .ok (.value (.bool (decide (a ≠ b)))) w :=
  bin_ne hx hy (by simp [eqGuard]) (by cases a <;> cases b <;> simp [binOp, equal_bool ht])
end
theorem vec_cel {R : Base} {L : List HP} {w : World} {α : Type} {T k : Nat} {enc : α → List Value} {v : Value} {l : List α} (h : Holds R (Vec T k enc v l :: L) w) (hne : 0 < l.length) :
    ∃ (b cap : Nat) (rest : List Value), v = .slice (some ⟨b, 0, none⟩) l.length cap ∧ l.length ≤ cap ∧ rest.length = (cap - l.length) * k ∧ Holds R (cel b (flat enc l ++ rest) T :: L) w := by
  obtain ⟨y, d1, s1, h1, h2, dd, t1, t2, hvec, hs⟩ := h.sat
  rcases hvec with ⟨_, rfl⟩ | ⟨b, cap, rest, hv0, hb0, hl0, hr0⟩
  · simp at hne
  · exact ⟨b, cap, rest, hv0, hl0, hr0, ⟨h.os, h.tape, h.output, h.ro, y, d1, s1, h1, h2, dd, t1, t2, hb0, hs⟩⟩
theorem vec_uncel {R : Base} {L : List HP} {w : World} {α : Type} {T k : Nat} {enc : α → List Value} {l : List α} {b cap m : Nat} {rest cs : List Value} (h : Holds R (cel b cs T :: L) w) (hc : cs = flat enc l ++ rest) (hm : l.length = m) (hl : l.length ≤ cap) (hr : rest.length = (cap - l.length) * k) :
    Holds R (Vec T k enc (.slice (some ⟨b, 0, none⟩) m cap) l :: L) w :=
  h.weak fun x hx => .inr ⟨b, cap, rest, by rw [hm], by rw [← hc]; exact hx, hl, hr⟩
end Go.Lt
