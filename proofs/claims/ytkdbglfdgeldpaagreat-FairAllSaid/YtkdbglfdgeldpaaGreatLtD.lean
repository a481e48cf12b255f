/- The engine, part D: what single operations yield: addresses, loads, numbers, tests, structs; new variables and stores as chunks. Condition: numbers in their ranges where it says so. -/
import Derived.Test.YtkdbglfdgeldpaaGreatLtC
import Derived.Laws.Cells
import Derived.Laws.Entries
set_option linter.unusedVariables false
namespace Go.Lt

theorem add_mk (b o n : Nat) : (⟨b, o, none⟩ : Addr).add n = ⟨b, o + n, none⟩ := by
  unfold Addr.add; split <;> simp_all

def faOff (P : Program) (T k : Nat) : Option Nat := match P.underlying T with
  | some (.struct fs) => match fs[k]? with
    | some f => match P.info? f.type with
      | some i => if i.size = 0 then none else some f.offset
      | none => none
    | none => none
  | _ => none
def isAggD : TypeDesc → Bool
  | .struct _ | .array _ _ => true
  | _ => false
def lk (P : Program) (T : Nat) : Option (Bool × Nat) := match P.underlying T, P.info? T with
  | some d, some i => some (isAggD d, i.size)
  | _, _ => none
/-- A slice type's element type, its cells and bytes. -/
def elm (P : Program) (T : Nat) : Option (Nat × Nat × Nat) := match P.underlying T with
  | some (.slice e) => match P.info? e with
    | some i => some (e, i.size, i.bytes)
    | none => none
  | _ => none
def arm (P : Program) (T : Nat) : Option (Nat × Nat × Nat) := match P.underlying T with
  | some (.array n e) => match P.info? e with
    | some i => some (n, e, i.size)
    | none => none
  | _ => none
def knd (P : Program) (T : Nat) : Option IntKind := match P.underlying T with
  | some (.int k) => some k
  | _ => none

section
variable {P : Program} {n : Nat} {e : Env} {w : World} {ops : Array Oper} {K : Env → World → Prop} {ty : TypeId}

theorem run_size {T : Nat} {i : TypeInfo} (h : P.info? T = some i) : (sizeOf T).run P w = .ok i.size w := by simp [sizeOf, typeInfo, h]

theorem r_mv {x : Operand} {v : Value} (h : evo e x = some v) : (xop (ev e) (.move x) ty).run P w = .ok (.value v) w := by rw [← ev_of h]; rfl
theorem r_asg {x : Operand} {v : Value} (h : evo e x = some v) : (xop (ev e) (.assign x) ty).run P w = .ok (.value v) w := by rw [← ev_of h]; rfl
theorem r_pick {c a b : Operand} {t : Bool} (h : ev e c = .bool t) : (xop (ev e) (.pick c a b) ty).run P w = .ok (.value (if t then ev e a else ev e b)) w := by
  simp [xop, execOp, h, asBool]
theorem r_pickT {c a b : Operand} {v : Value} (h : ev e c = .bool true) (h2 : evo e a = some v) : (xop (ev e) (.pick c a b) ty).run P w = .ok (.value v) w := by
  simp [xop, execOp, h, asBool, ev_of h2]
theorem r_pickF {c a b : Operand} {v : Value} (h : ev e c = .bool false) (h2 : evo e b = some v) : (xop (ev e) (.pick c a b) ty).run P w = .ok (.value v) w := by
  simp [xop, execOp, h, asBool, ev_of h2]
theorem r_nil {x : Operand} {a : Addr} (h : ev e x = .pointer (some a)) : (xop (ev e) (.nilCheck x) ty).run P w = .ok (.value (.pointer (some a))) w := by
  simp [xop, execOp, h]
theorem r_nilf {x : Operand} {g : FuncId} {a b : Array Value} (h : ev e x = .func (.func g) a b) : (xop (ev e) (.nilCheck x) ty).run P w = .ok (.value (.func (.func g) a b)) w := by
  simp [xop, execOp, h]

theorem r_fa {x : Operand} {T k b o off : Nat} (hf : faOff P T k = some off) (hx : ev e x = .pointer (some ⟨b, o, none⟩)) :
    (xop (ev e) (.fieldAddr T x k) ty).run P w = .ok (.value (.pointer (some ⟨b, o + off, none⟩))) w := by
  unfold faOff at hf
  split at hf <;> try (cases hf; done)
  rename_i fs hu
  split at hf <;> try (cases hf; done)
  rename_i f hfs
  split at hf <;> try (cases hf; done)
  rename_i i hi
  split at hf <;> try (cases hf; done)
  rename_i hz
  cases hf
  simp [xop, execOp, hx, Instr.fieldAt, run_underlying hu, hfs, Instr.sureAddr, fieldPlace, run_size hi, hz, add_mk]

theorem r_ia {T E sz by_ b o len cap : Nat} {x ix : Operand} {k : IntKind} {i : Int} (ht : elm P T = some (E, sz, by_)) (hx : ev e x = .slice (some ⟨b, o, none⟩) len cap) (hi : ev e ix = .int k i)
    (h0 : 0 ≤ i) (h1 : i < len) : (xop (ev e) (.indexAddr T x ix) ty).run P w = .ok (.value (.pointer (some ⟨b, o + i.toNat * sz, none⟩))) w := by
  unfold elm at ht
  split at ht <;> try (cases ht; done)
  rename_i E' hu
  split at ht <;> try (cases ht; done)
  rename_i inf hinf
  cases ht
  simp [xop, execOp, hx, hi, Instr.indexAt, asIntOf, run_underlying hu, h0, h1, run_size hinf, add_mk]
theorem r_iaa {T E sz N b o : Nat} {x ix : Operand} {k : IntKind} {i : Int} (ht : arm P T = some (N, E, sz)) (hx : ev e x = .pointer (some ⟨b, o, none⟩)) (hi : ev e ix = .int k i)
    (h0 : 0 ≤ i) (h1 : i < N) : (xop (ev e) (.indexAddr T x ix) ty).run P w = .ok (.value (.pointer (some ⟨b, o + i.toNat * sz, none⟩))) w := by
  unfold arm at ht
  split at ht <;> try (cases ht; done)
  rename_i N' E' hu
  split at ht <;> try (cases ht; done)
  rename_i inf hinf
  cases ht
  simp [xop, execOp, hx, hi, Instr.indexAt, asIntOf, run_underlying hu, h0, h1, Instr.sureAddr, run_size hinf, add_mk]

theorem cell_of {b off : Nat} {cs : List Value} {T : TypeId} {fz : Nat × Nat} {v : Value} (h : w.heap[b]? = some (.cells cs.toArray T fz)) (hc : cs[off]? = some v) : w.cell? ⟨b, off, none⟩ = some v := by
  simp [World.cell?, h, hc]

theorem lk_spec {T sz : Nat} {ag : Bool} (h : lk P T = some (ag, sz)) : ∃ d i, P.underlying T = some d ∧ P.info? T = some i ∧ isAggD d = ag ∧ i.size = sz := by
  unfold lk at h
  split at h
  · rename_i d i hd hi; cases h; exact ⟨d, i, hd, hi, rfl, rfl⟩
  · cases h

theorem run_isAgg {T : Nat} {d : TypeDesc} (h : P.underlying T = some d) : (isAgg T).run P w = .ok (isAggD d) w := by
  simp only [isAgg, Sem.run_bind, run_underlying h, Result.andThen]
  cases d <;> rfl

theorem run_loadVar1 {T sz b off : Nat} {v : Value} (hl : lk P T = some (false, sz)) (hc : w.cell? ⟨b, off, none⟩ = some v) : (loadVar T ⟨b, off, none⟩).run P w = .ok v w := by
  obtain ⟨d, i, hd, hi, ha, hs⟩ := lk_spec hl
  simp [loadVar, run_isAgg hd, ha, hc]
theorem run_loadVarN {T b off : Nat} {vs : List Value} (hl : lk P T = some (true, vs.length)) (hc : ∀ i v, vs[i]? = some v → w.cell? ⟨b, off + i, none⟩ = some v) :
    (loadVar T ⟨b, off, none⟩).run P w = .ok (.agg vs.toArray) w := by
  obtain ⟨d, i, hd, hi, ha, hs⟩ := lk_spec hl
  simp only [loadVar, Sem.run_bind, run_isAgg hd, ha, Result.andThen, if_true, run_size hi, hs]
  rw [run_loadCells_list w ⟨b, off, none⟩ vs (fun j v hj => by rw [add_mk]; exact hc j v hj)]
  rfl

theorem r_ld {T sz b off : Nat} {x : Operand} {v : Value} {cs : List Value} {T' : TypeId} {fz : Nat × Nat} (hl : lk P T = some (false, sz)) (hx : ev e x = .pointer (some ⟨b, off, none⟩))
    (hb : w.heap[b]? = some (.cells cs.toArray T' fz)) (hc : cs[off]? = some v) : (xop (ev e) (.load T x) ty).run P w = .ok (.value v) w := by
  simp [xop, execOp, Instr.loadAt, hx, Instr.sureAddr, run_loadVar1 hl (cell_of hb hc)]
theorem r_ldN {T b off : Nat} {x : Operand} {vs : List Value} {cs : List Value} {T' : TypeId} {fz : Nat × Nat} (hl : lk P T = some (true, vs.length)) (hx : ev e x = .pointer (some ⟨b, off, none⟩))
    (hb : w.heap[b]? = some (.cells cs.toArray T' fz)) (hc : (cs.drop off).take vs.length = vs) : (xop (ev e) (.load T x) ty).run P w = .ok (.value (.agg vs.toArray)) w := by
  have : (loadVar T ⟨b, off, none⟩).run P w = .ok (.agg vs.toArray) w := run_loadVarN hl fun i v hi => cell_of hb (by
    rw [← hc] at hi
    rw [List.getElem?_take] at hi
    split at hi
    · simpa [List.getElem?_drop] using hi
    · cases hi)
  simp [xop, execOp, Instr.loadAt, hx, Instr.sureAddr, this]
/-- A struct of which the cells are known one by one. -/
theorem r_ldC {T b off : Nat} {x : Operand} {vs : List Value} (hl : lk P T = some (true, vs.length)) (hx : ev e x = .pointer (some ⟨b, off, none⟩))
    (hc : ∀ i v, vs[i]? = some v → w.cell? ⟨b, off + i, none⟩ = some v) : (xop (ev e) (.load T x) ty).run P w = .ok (.value (.agg vs.toArray)) w := by
  simp [xop, execOp, Instr.loadAt, hx, Instr.sureAddr, run_loadVarN hl hc]
theorem r_ldc {T sz b off : Nat} {x : Operand} {v : Value} (hl : lk P T = some (false, sz)) (hx : ev e x = .pointer (some ⟨b, off, none⟩))
    (hc : w.cell? ⟨b, off, none⟩ = some v) : (xop (ev e) (.load T x) ty).run P w = .ok (.value v) w := by
  simp [xop, execOp, Instr.loadAt, hx, Instr.sureAddr, run_loadVar1 hl hc]

theorem r_len {T E sz by_ len cap : Nat} {a : Option Addr} {x : Operand} (ht : elm P T = some (E, sz, by_)) (hx : ev e x = .slice a len cap) :
    (xop (ev e) (.call ⟨.builtin .len, #[x], #[T]⟩) ty).run P w = .ok (.value (.int .i64 len)) w := by
  unfold elm at ht
  split at ht <;> try (cases ht; done)
  rename_i E' hu
  simp [xop, execOp, resolve, invoke, builtin, Builtin.len_, run_underlying hu, hx, goInt]

theorem r_max2 {k : IntKind} {a b : Int} {x y : Operand} {ts : Array TypeId} (hx : ev e x = .int k a) (hy : ev e y = .int k b) :
    (xop (ev e) (.call ⟨.builtin .max, #[x, y], ts⟩) ty).run P w = .ok (.value (.int k (max a b))) w := by
  have : (if b > a then b else a) = max a b := by omega
  simp [xop, execOp, resolve, invoke, builtin, Builtin.max_, Builtin.max2, hx, hy, ← this]
theorem r_min2 {k : IntKind} {a b : Int} {x y : Operand} {ts : Array TypeId} (hx : ev e x = .int k a) (hy : ev e y = .int k b) :
    (xop (ev e) (.call ⟨.builtin .min, #[x, y], ts⟩) ty).run P w = .ok (.value (.int k (min a b))) w := by
  have : (if b < a then b else a) = min a b := by omega
  simp [xop, execOp, resolve, invoke, builtin, Builtin.min_, Builtin.min2, hx, hy, ← this]
theorem r_max3 {k : IntKind} {a b c : Int} {x y z : Operand} {ts : Array TypeId} (hx : ev e x = .int k a) (hy : ev e y = .int k b) (hz : ev e z = .int k c) :
    (xop (ev e) (.call ⟨.builtin .max, #[x, y, z], ts⟩) ty).run P w = .ok (.value (.int k (max (max a b) c))) w := by
  have : (if b > a then b else a) = max a b := by omega
  have h2 : (if c > max a b then c else max a b) = max (max a b) c := by omega
  simp only [xop, execOp, resolve, invoke, builtin, Builtin.max_, Builtin.max2, Sem.run_bind, Sem.run_pure, Result.andThen, List.map_toArray, List.map_cons, List.map_nil, hx, hy, hz, List.foldlM, this, h2]

/-! ### Numbers -/
theorem wrap_i64 {x : Int} (h : -9223372036854775808 ≤ x ∧ x ≤ 9223372036854775807) : IntKind.i64.wrap x = x := by
  simp only [IntKind.wrap, IntKind.bits, IntKind.signed]
  simp
  split <;> omega
theorem wrap_u64 {x : Int} (h : 0 ≤ x ∧ x ≤ 18446744073709551615) : IntKind.u64.wrap x = x := by
  simp only [IntKind.wrap, IntKind.bits, IntKind.signed]
  simp
  omega
theorem wrap_u64_mod (x : Int) : IntKind.u64.wrap x = x % 18446744073709551616 := by
  simp [IntKind.wrap, IntKind.bits, IntKind.signed]

theorem bin_i {op : BinOp} {T T2 : Nat} {x y : Operand} {k : IntKind} {a b : Int} {v : Value} (hx : ev e x = .int k a) (hy : ev e y = .int k b) (hv : (binOp op T (.int k a) (.int k b)).run P w = .ok v w) :
    (xop (ev e) (.binOp op T x y T2) ty).run P w = .ok (.value v) w := by
  have hg : (eqGuard op T x y (.int k a) (.int k b)).run P w = .ok () w := by
    cases op <;> rfl
  simp [xop, execOp, hx, hy, hg, hv]
theorem r_add {T T2 : Nat} {x y : Operand} {k : IntKind} {a b : Int} (hx : ev e x = .int k a) (hy : ev e y = .int k b) :
    (xop (ev e) (.binOp .add T x y T2) ty).run P w = .ok (.value (.int k (k.wrap (a + b)))) w := bin_i hx hy (by simp [binOp, Op.intArith])
theorem r_sub {T T2 : Nat} {x y : Operand} {k : IntKind} {a b : Int} (hx : ev e x = .int k a) (hy : ev e y = .int k b) :
    (xop (ev e) (.binOp .sub T x y T2) ty).run P w = .ok (.value (.int k (k.wrap (a - b)))) w := bin_i hx hy (by simp [binOp, Op.intArith])
theorem r_mul {T T2 : Nat} {x y : Operand} {k : IntKind} {a b : Int} (hx : ev e x = .int k a) (hy : ev e y = .int k b) :
    (xop (ev e) (.binOp .mul T x y T2) ty).run P w = .ok (.value (.int k (k.wrap (a * b)))) w := bin_i hx hy (by simp [binOp, Op.intArith])
theorem r_addI {T T2 : Nat} {x y : Operand} {a b : Int} (hx : ev e x = .int .i64 a) (hy : ev e y = .int .i64 b) (hr : -9223372036854775808 ≤ a + b ∧ a + b ≤ 9223372036854775807) :
    (xop (ev e) (.binOp .add T x y T2) ty).run P w = .ok (.value (.int .i64 (a + b))) w := by rw [r_add hx hy, wrap_i64 hr]
theorem r_subI {T T2 : Nat} {x y : Operand} {a b : Int} (hx : ev e x = .int .i64 a) (hy : ev e y = .int .i64 b) (hr : -9223372036854775808 ≤ a - b ∧ a - b ≤ 9223372036854775807) :
    (xop (ev e) (.binOp .sub T x y T2) ty).run P w = .ok (.value (.int .i64 (a - b))) w := by rw [r_sub hx hy, wrap_i64 hr]
theorem r_mulI {T T2 : Nat} {x y : Operand} {a b : Int} (hx : ev e x = .int .i64 a) (hy : ev e y = .int .i64 b) (hr : -9223372036854775808 ≤ a * b ∧ a * b ≤ 9223372036854775807) :
    (xop (ev e) (.binOp .mul T x y T2) ty).run P w = .ok (.value (.int .i64 (a * b))) w := by rw [r_mul hx hy, wrap_i64 hr]
theorem r_addU {T T2 : Nat} {x y : Operand} {a b : Int} (hx : ev e x = .int .u64 a) (hy : ev e y = .int .u64 b) (hr : 0 ≤ a + b ∧ a + b ≤ 18446744073709551615) :
    (xop (ev e) (.binOp .add T x y T2) ty).run P w = .ok (.value (.int .u64 (a + b))) w := by rw [r_add hx hy, wrap_u64 hr]
theorem r_subU {T T2 : Nat} {x y : Operand} {a b : Int} (hx : ev e x = .int .u64 a) (hy : ev e y = .int .u64 b) (hr : 0 ≤ a - b ∧ a - b ≤ 18446744073709551615) :
    (xop (ev e) (.binOp .sub T x y T2) ty).run P w = .ok (.value (.int .u64 (a - b))) w := by rw [r_sub hx hy, wrap_u64 hr]
theorem r_mulU {T T2 : Nat} {x y : Operand} {a b : Int} (hx : ev e x = .int .u64 a) (hy : ev e y = .int .u64 b) (hr : 0 ≤ a * b ∧ a * b ≤ 18446744073709551615) :
    (xop (ev e) (.binOp .mul T x y T2) ty).run P w = .ok (.value (.int .u64 (a * b))) w := by rw [r_mul hx hy, wrap_u64 hr]
theorem r_quo {T T2 : Nat} {x y : Operand} {k : IntKind} {a b : Int} (hx : ev e x = .int k a) (hy : ev e y = .int k b) (hb : b ≠ 0) :
    (xop (ev e) (.binOp .quo T x y T2) ty).run P w = .ok (.value (.int k (k.wrap (a.tdiv b)))) w := bin_i hx hy (by simp [binOp, Op.intDiv, hb])
theorem r_rem {T T2 : Nat} {x y : Operand} {k : IntKind} {a b : Int} (hx : ev e x = .int k a) (hy : ev e y = .int k b) (hb : b ≠ 0) :
    (xop (ev e) (.binOp .rem T x y T2) ty).run P w = .ok (.value (.int k (a.tmod b))) w := bin_i hx hy (by simp [binOp, Op.intDiv, hb])
theorem r_quoI {T T2 : Nat} {x y : Operand} {a b : Int} (hx : ev e x = .int .i64 a) (hy : ev e y = .int .i64 b) (h0 : 0 ≤ a ∧ a ≤ 9223372036854775807) (hb : 0 < b) :
    (xop (ev e) (.binOp .quo T x y T2) ty).run P w = .ok (.value (.int .i64 (a / b))) w := by
  rw [r_quo hx hy (by omega), Int.tdiv_eq_ediv_of_nonneg h0.1, wrap_i64]
  have := Int.ediv_nonneg h0.1 (Int.le_of_lt hb); have := Int.ediv_le_self b h0.1; omega
theorem r_remI {T T2 : Nat} {x y : Operand} {k : IntKind} {a b : Int} (hx : ev e x = .int k a) (hy : ev e y = .int k b) (h0 : 0 ≤ a) (hb : 0 < b) :
    (xop (ev e) (.binOp .rem T x y T2) ty).run P w = .ok (.value (.int k (a % b))) w := by
  rw [r_rem hx hy (by omega), Int.tmod_eq_emod_of_nonneg h0]
theorem r_quoU {T T2 : Nat} {x y : Operand} {a b : Int} (hx : ev e x = .int .u64 a) (hy : ev e y = .int .u64 b) (h0 : 0 ≤ a ∧ a ≤ 18446744073709551615) (hb : 0 < b) :
    (xop (ev e) (.binOp .quo T x y T2) ty).run P w = .ok (.value (.int .u64 (a / b))) w := by
  rw [r_quo hx hy (by omega), Int.tdiv_eq_ediv_of_nonneg h0.1, wrap_u64]
  have := Int.ediv_nonneg h0.1 (Int.le_of_lt hb); have := Int.ediv_le_self b h0.1; omega
theorem r_bits {op : BinOp} {T T2 : Nat} {x y : Operand} {k : IntKind} {a b : Int} (ho : op = .and ∨ op = .or ∨ op = .xor ∨ op = .andNot) (hx : ev e x = .int k a) (hy : ev e y = .int k b) :
    (xop (ev e) (.binOp op T x y T2) ty).run P w = .ok (.value (.int k (bits op k a b))) w := bin_i hx hy (by rcases ho with rfl | rfl | rfl | rfl <;> simp [binOp, Op.intBits, bits])
theorem bin_s {op : BinOp} {T T2 : Nat} {x y : Operand} {k k2 : IntKind} {a b : Int} {v : Value} (ho : op = .shl ∨ op = .shr) (hx : ev e x = .int k a) (hy : ev e y = .int k2 b) (hv : (Op.shift op k a k2 b).run P w = .ok v w) :
    (xop (ev e) (.binOp op T x y T2) ty).run P w = .ok (.value v) w := by
  rcases ho with rfl | rfl <;> simp [xop, execOp, hx, hy, eqGuard, binOp, hv]
theorem r_shl {T T2 : Nat} {x y : Operand} {k k2 : IntKind} {a b : Int} (hx : ev e x = .int k a) (hy : ev e y = .int k2 b) (h0 : 0 ≤ b) (h1 : b ≤ k.bits) :
    (xop (ev e) (.binOp .shl T x y T2) ty).run P w = .ok (.value (.int k (k.wrap (a * 2 ^ b.toNat)))) w := bin_s (.inl rfl) hx hy (by rw [shift_shl k k2 a b h0 h1]; rfl)
theorem r_shr {T T2 : Nat} {x y : Operand} {k k2 : IntKind} {a b : Int} (hx : ev e x = .int k a) (hy : ev e y = .int k2 b) (h0 : 0 ≤ b) (h1 : b ≤ k.bits) :
    (xop (ev e) (.binOp .shr T x y T2) ty).run P w = .ok (.value (.int k (a / 2 ^ b.toNat))) w := bin_s (.inr rfl) hx hy (by rw [shift_shr k k2 a b h0 h1]; rfl)

theorem r_eq {T T2 : Nat} {x y : Operand} {k : IntKind} {a b : Int} (hx : ev e x = .int k a) (hy : ev e y = .int k b) :
    (xop (ev e) (.binOp .eql T x y T2) ty).run P w = .ok (.value (.bool (decide (a = b)))) w := bin_i hx hy (by simp [binOp, Op.intCmp]; rfl)
theorem r_ne {T T2 : Nat} {x y : Operand} {k : IntKind} {a b : Int} (hx : ev e x = .int k a) (hy : ev e y = .int k b) :
    (xop (ev e) (.binOp .neq T x y T2) ty).run P w = .ok (.value (.bool (decide (a ≠ b)))) w := bin_i hx hy (by simp [binOp, Op.intCmp, bne]; rfl)
theorem r_lt {T T2 : Nat} {x y : Operand} {k : IntKind} {a b : Int} (hx : ev e x = .int k a) (hy : ev e y = .int k b) :
    (xop (ev e) (.binOp .lss T x y T2) ty).run P w = .ok (.value (.bool (decide (a < b)))) w := bin_i hx hy (by simp [binOp, Op.intCmp])
theorem r_le {T T2 : Nat} {x y : Operand} {k : IntKind} {a b : Int} (hx : ev e x = .int k a) (hy : ev e y = .int k b) :
    (xop (ev e) (.binOp .leq T x y T2) ty).run P w = .ok (.value (.bool (decide (a ≤ b)))) w := bin_i hx hy (by simp [binOp, Op.intCmp])
theorem r_gt {T T2 : Nat} {x y : Operand} {k : IntKind} {a b : Int} (hx : ev e x = .int k a) (hy : ev e y = .int k b) :
    (xop (ev e) (.binOp .gtr T x y T2) ty).run P w = .ok (.value (.bool (decide (b < a)))) w := bin_i hx hy (by simp [binOp, Op.intCmp])
theorem r_ge {T T2 : Nat} {x y : Operand} {k : IntKind} {a b : Int} (hx : ev e x = .int k a) (hy : ev e y = .int k b) :
    (xop (ev e) (.binOp .geq T x y T2) ty).run P w = .ok (.value (.bool (decide (b ≤ a)))) w := bin_i hx hy (by simp [binOp, Op.intCmp])
theorem r_not {T : Nat} {x : Operand} {b : Bool} (hx : ev e x = .bool b) : (xop (ev e) (.unOp .not T x) ty).run P w = .ok (.value (.bool !b)) w := by
  simp [xop, execOp, Op.unary, hx]
theorem r_notD {T : Nat} {x : Operand} {p : Prop} [Decidable p] (hx : ev e x = .bool (decide p)) : (xop (ev e) (.unOp .not T x) ty).run P w = .ok (.value (.bool (decide (¬ p)))) w := by
  rw [r_not hx]; simp
theorem r_neg {T : Nat} {x : Operand} {k : IntKind} {a : Int} (hx : ev e x = .int k a) : (xop (ev e) (.unOp .neg T x) ty).run P w = .ok (.value (.int k (k.wrap (0 - a)))) w := by
  simp [xop, execOp, Op.unary, Op.intArith, hx]
theorem r_cv {S T : Nat} {x : Operand} {k k2 : IntKind} {a : Int} (hs : (P.underlying S).isSome = true) (hd : knd P T = some k) (hx : ev e x = .int k2 a) :
    (xop (ev e) (.convert S T x) ty).run P w = .ok (.value (.int k (k.wrap a))) w := by
  unfold knd at hd
  split at hd <;> try (cases hd; done)
  rename_i k' hu
  cases hd
  obtain ⟨d, hd'⟩ := Option.isSome_iff_exists.mp hs
  simp [xop, execOp, convert, run_underlying hd', run_underlying hu, Conv.intToInt, hx]
theorem r_cvU {S T : Nat} {x : Operand} {k2 : IntKind} {a : Int} (hs : (P.underlying S).isSome = true) (hd : knd P T = some .u64) (hx : ev e x = .int k2 a) (h : 0 ≤ a ∧ a ≤ 18446744073709551615) :
    (xop (ev e) (.convert S T x) ty).run P w = .ok (.value (.int .u64 a)) w := by rw [r_cv hs hd hx, wrap_u64 h]
theorem r_cvI {S T : Nat} {x : Operand} {k2 : IntKind} {a : Int} (hs : (P.underlying S).isSome = true) (hd : knd P T = some .i64) (hx : ev e x = .int k2 a) (h : -9223372036854775808 ≤ a ∧ a ≤ 9223372036854775807) :
    (xop (ev e) (.convert S T x) ty).run P w = .ok (.value (.int .i64 a)) w := by rw [r_cv hs hd hx, wrap_i64 h]
theorem r_ex {x : Operand} {vs : List Value} {i : Nat} {v : Value} (hx : ev e x = .tuple vs.toArray) (hi : vs[i]? = some v) : (xop (ev e) (.extract x i) ty).run P w = .ok (.value v) w := by
  simp [xop, execOp, Instr.extract, hx, hi]
theorem r_mkf {fn : Fn} {a b : List Operand} {va vb : List Value} (ha0 : evl e a = some va) (hb0 : evl e b = some vb) :
    (xop (ev e) (.makeFunc fn a.toArray b.toArray) ty).run P w = .ok (.value (.func fn va.toArray vb.toArray)) w := by
  have ha := evl_map ha0; have hb := evl_map hb0
  subst ha hb; simp [xop, execOp, Instr.makeFunc]

/-! ### Structs and arrays by value -/
def fillL (pl : List (Nat × Nat)) : List Value → List (Nat × Value) → Option (List Value)
  | cs, [] => some cs
  | cs, (i, v) :: rest => match pl[i]? with
    | none => none
    | some (off, size) => if v.cells.toList.length = size ∧ off + size ≤ cs.length then fillL pl (cs.take off ++ (v.cells.toList ++ cs.drop (off + size))) rest else none

theorem put_cells (vs : List Value) (off : Nat) : ∀ (cs : List Value) (k : Nat), off + k + vs.length ≤ cs.length →
    (vs.zipIdx k).foldl (fun (a : Array Value) (x : Value × Nat) => a.setIfInBounds (off + x.2) x.1) cs.toArray = (cs.take (off + k) ++ (vs ++ cs.drop (off + k + vs.length))).toArray := by
  induction vs with
  | nil => intro cs k h; simp
  | cons v vs ih =>
    intro cs k h
    simp only [List.length_cons] at h
    simp only [List.zipIdx_cons, List.foldl_cons, List.setIfInBounds_toArray]
    have := ih (cs.set (off + k) v) (k + 1) (by simp; omega)
    rw [this]
    congr 1
    have h1 : (cs.set (off + k) v).take (off + (k + 1)) = cs.take (off + k) ++ [v] := by
      rw [show off + (k + 1) = off + k + 1 from by omega, List.take_succ_eq_append_getElem (by simp; omega)]
      rw [List.take_set_of_le (by omega)]
      simp
    have h2 : (cs.set (off + k) v).drop (off + (k + 1) + vs.length) = cs.drop (off + k + (vs.length + 1)) := by
      rw [List.drop_set_of_lt (by omega)]
      congr 1; omega
    rw [h1, h2]; simp

theorem fill_eq (pl : List (Nat × Nat)) (place : Nat → Option (Nat × Nat)) (hp : ∀ i p, pl[i]? = some p → place i = some p) : ∀ (ps : List (Nat × Value)) (cs r : List Value), fillL pl cs ps = some r → Instr.fill place cs.toArray ps = some r.toArray
  | [], cs, r, h => by simp [fillL] at h; subst h; rfl
  | (i, v) :: ps, cs, r, h => by
    unfold fillL at h
    unfold Instr.fill
    split at h
    · cases h
    · rename_i off size hi
      rw [hp i _ hi]
      simp only []
      split at h
      · rename_i hc
        obtain ⟨hc1, hc2⟩ := hc
        have h1 : v.cells.size = size := by simpa using hc1
        have h2 : (v.cells.size ≠ size || decide (off + v.cells.size > cs.toArray.size)) = false := by
          simp [h1]; omega
        simp only [ne_eq, h1, not_true_eq_false, decide_false, Bool.false_or] at h2 ⊢
        rw [if_neg (by simpa using h2)]
        have := put_cells v.cells.toList off cs 0 (by simp; omega)
        simp only [Nat.add_zero, Array.length_toList] at this
        have e : (v.cells.zipIdx.foldl (fun (a : Array Value) (x : Value × Nat) => a.setIfInBounds (off + x.2) x.1) cs.toArray) = (cs.take off ++ (v.cells.toList ++ cs.drop (off + size))).toArray := by
          rw [← h1, ← this, ← Array.foldl_toList, Array.toList_zipIdx]
        have ih := fill_eq pl place hp ps _ r h
        rw [← e] at ih
        exact ih
      · cases h

/-- A struct type's places and its zero. -/
def plc (P : Program) (T : Nat) : Option (List (Nat × Nat) × List Value) := match P.underlying T, P.info? T with
  | some (.struct fs), some i => match i.zero with
    | some z => match fs.toList.mapM (fun f => (P.info? f.type).map fun j => (f.offset, j.size)) with
      | some pl => some (pl, z.cells.toList)
      | none => none
    | none => none
  | _, _ => none

theorem run_mapM_places : ∀ (fs : List Field) (pl : List (Nat × Nat)), fs.mapM (fun f => (P.info? f.type).map fun j => (f.offset, j.size)) = some pl →
    (fs.mapM (fun f => do pure (f.offset, ← sizeOf f.type)) : Sem (List (Nat × Nat))).run P w = .ok pl w
  | [], pl, h => by simp at h; subst h; rfl
  | f :: fs, pl, h => by
    simp only [List.mapM_cons, Option.bind_eq_bind, Option.bind_eq_some_iff, Option.map_eq_some_iff] at h
    obtain ⟨x, ⟨i, hi, rfl⟩, l, hl, hp⟩ := h
    simp at hp
    subst hp
    have ih := run_mapM_places fs l hl
    simp only [List.mapM_cons, Sem.run_bind, run_size hi, Result.andThen, Sem.run_pure, ih]

theorem r_bld {T : Nat} {ps : List (Nat × Operand)} {pl : List (Nat × Nat)} {z : List Value} {cs : List Value} {vps : List (Nat × Value)} (hp : plc P T = some (pl, z)) (hv0 : evs e ps = some vps)
    (hf : fillL pl z vps = some cs) : (xop (ev e) (.build T ps.toArray) ty).run P w = .ok (.value (.agg cs.toArray)) w := by
  have hv := evs_map hv0
  unfold plc at hp
  split at hp <;> try (cases hp; done)
  rename_i fs i hu hi
  split at hp <;> try (cases hp; done)
  rename_i zv hz
  split at hp <;> try (cases hp; done)
  rename_i pl' hm
  cases hp
  have h1 := run_mapM_places (P := P) (w := w) _ _ hm
  obtain ⟨fl⟩ := fs
  have h2 := fill_eq pl (fun i => pl.toArray[i]?) (fun i p h => by simpa using h) vps zv.cells.toList cs hf
  subst hv
  simp only [Array.toArray_toList] at h2
  simp only [xop, execOp, Instr.build, List.map_toArray, Sem.run_bind, zeroValue, typeInfo, run_program, Result.andThen, hi, Sem.run_pure, hz, run_underlying hu, List.mapM_toArray, Sem.run_map, h1]
  simp only [h2, Sem.run_pure]

theorem r_fld {T k off sz : Nat} {x : Operand} {cs : List Value} {v : Value} {ag : Bool} {fT : Nat} (hx : ev e x = .agg cs.toArray) (hk : (match P.underlying T with | some (.struct fs) => (fs[k]?).map fun f => (f.type, f.offset) | _ => none) = some (fT, off))
    (hl : lk P fT = some (ag, sz)) (hv : (if ag then some (Value.agg ((cs.drop off).take sz).toArray) else cs[off]?) = some v) : (xop (ev e) (.field T x k) ty).run P w = .ok (.value v) w := by
  split at hk <;> try (cases hk; done)
  rename_i fs hu
  obtain ⟨f, hf, hfe⟩ := Option.map_eq_some_iff.1 hk
  cases hfe
  obtain ⟨d, i, hd, hi, ha, hs⟩ := lk_spec hl
  cases ag
  · simp at hv
    simp [xop, execOp, Instr.field, run_underlying hu, hf, hx, asAgg, part, run_isAgg hd, ha, hv]
  · simp only [if_true, Option.some.injEq] at hv
    subst hv
    have : cs.toArray.extract f.offset (f.offset + i.size) = ((cs.drop f.offset).take sz).toArray := by
      rw [← hs]; apply Array.ext'; simp [List.extract_eq_take_drop]
    simp [xop, execOp, Instr.field, run_underlying hu, hf, hx, asAgg, part, run_isAgg hd, ha, run_size hi, hs]
end
end Go.Lt
