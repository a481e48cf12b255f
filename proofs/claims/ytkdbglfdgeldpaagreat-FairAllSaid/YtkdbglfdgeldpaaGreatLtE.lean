/- The engine, part E: new variables, stores, slices: what they do to the chunks. Condition: sizes that fit. -/
import Derived.Test.YtkdbglfdgeldpaaGreatLtD
import Derived.Laws.Append
set_option linter.unusedVariables false
namespace Go.Lt

def setL : List Value → Nat → List Value → List Value
  | cs, _, [] => cs
  | cs, off, v :: vs => setL (cs.set off v) (off + 1) vs
theorem setL_length : ∀ (vs cs : List Value) (off : Nat), (setL cs off vs).length = cs.length
  | [], _, _ => rfl
  | v :: vs, cs, off => by simp [setL, setL_length vs]
def ones (vs : List Value) : Bool := vs.all (·.oneCell')

section
variable {P : Program} {n : Nat} {e : Env} {w : World} {ops : Array Oper} {K : Env → World → Prop} {ty : TypeId} {R : Base} {L : List HP}

theorem frozen0 {b off : Nat} {cs : List Value} {T : TypeId} (h : w.heap[b]? = some (.cells cs.toArray T (0, 0))) : w.frozen? ⟨b, off, none⟩ = false := by
  simp [World.frozen?, h]

theorem run_storeCells {b off : Nat} {T : TypeId} : ∀ (vs : List Value) (cs : List Value) (i : Nat) (w : World), Holds R (cel b cs T :: L) w → ones vs = true → off + i + vs.length ≤ cs.length →
    ∃ w1, (storeCells ⟨b, off, none⟩ vs i).run P w = .ok () w1 ∧ Holds R (cel b (setL cs (off + i) vs) T :: L) w1
  | [], cs, i, w, h, _, _ => ⟨w, rfl, h⟩
  | v :: vs, cs, i, w, h, ho, hl => by
    simp only [ones, List.all_cons, Bool.and_eq_true] at ho
    simp only [List.length_cons] at hl
    have hc : w.cell? ⟨b, off + i, none⟩ = some cs[off + i] := cell_of h.cell (by rw [List.getElem?_eq_getElem])
    have h1 := run_store P w ⟨b, off + i, none⟩ v .plain ho.1
    simp only [hc, frozen0 h.cell, Bool.false_eq_true, if_false] at h1
    obtain ⟨w1, h2, h3⟩ := run_storeCells (off := off) vs (cs.set (off + i) v) (i + 1) (w.setCell ⟨b, off + i, none⟩ v) (h.store v) ho.2 (by simp; omega)
    refine ⟨w1, ?_, ?_⟩
    · simp only [storeCells, Sem.run_bind, add_mk, h1, Result.andThen, h2]
    · exact h3

theorem o_st {i : Nat} {d : Option Tmp} {T sz b off : Nat} {u : Value} {x y : Operand} {cs vs cs' : List Value} {ag : Bool} {T' : TypeId} (hl : Live ops e i d (.store T x y) ty) (hd : dOk n d = true) (hk : lk P T = some (ag, sz))
    (hx : ev e x = .pointer (some ⟨b, off, none⟩)) (hy0 : evo e y = some u) (hu : u.cells.toList = vs) (hh : Holds R (cel b cs T' :: L) w) (hs : vs.length = sz) (ho : ones vs = true) (hlen : off + vs.length ≤ cs.length) (hc : setL cs off vs = cs')
    (k : ∀ w1, Holds R (cel b cs' T' :: L) w1 → K (updO e d undef) w1) : OP1 P n ops i K e w := by
  have hy : (ev e y).cells.toList = vs := by rw [ev_of hy0]; exact hu
  obtain ⟨_, inf, _, hi, _, hs2⟩ := lk_spec hk
  obtain ⟨w1, h1, h2⟩ := run_storeCells (P := P) (off := off) vs cs 0 w hh ho (by omega)
  refine o_s (w1 := w1) hl hd ?_ (k w1 (by rw [← hc]; exact h2))
  have h3 : (ev e y).cells.size = sz := by rw [← hs, ← hy]; simp
  simp only [xop, execOp, Instr.storeAt, hx, Instr.sureAddr, storeVar, Sem.run_bind, Sem.run_pure, Result.andThen, run_size hi, hs2, h3, ne_eq, not_true_eq_false, if_false, hy, h1]

theorem o_box {i : Nat} {d : Option Tmp} {T : Nat} {u : Value} {x : Operand} {cs : List Value} (hl : Live ops e i d (.box T x) ty) (hd : dOk n d = true) (hx0 : evo e x = some u) (hu : u.cells.toList = cs) (hh : Holds R L w)
    (k : ∀ b w1, Holds R (cel b cs T :: L) w1 → K (updO e d (.pointer (some ⟨b, 0, none⟩))) w1) : OP1 P n ops i K e w := by
  have hx : (ev e x).cells.toList = cs := by rw [ev_of hx0]; exact hu
  refine o_v (w1 := { w with heap := w.heap.push (.cells cs.toArray T (0, 0)) }) hl hd ?_ (k _ _ (hh.alloc _))
  simp [xop, execOp, Instr.box, newVar, newRow, ← hx]

def zer (P : Program) (T : Nat) : Option (List Value) := match P.info? T with
  | some i => i.zero.map (·.cells.toList)
  | none => none
theorem run_zero {T : Nat} {cs : List Value} (h : zer P T = some cs) : ∃ z, (zeroValue T).run P w = .ok z w ∧ z.cells = cs.toArray := by
  unfold zer at h
  split at h <;> try (cases h; done)
  rename_i i hi
  obtain ⟨z, hz, hc⟩ := Option.map_eq_some_iff.1 h
  refine ⟨z, by simp [zeroValue, typeInfo, hi, hz], ?_⟩
  rw [← hc]

theorem o_al {i : Nat} {d : Option Tmp} {T : Nat} {cs : List Value} (hl : Live ops e i d (.alloc T) ty) (hd : dOk n d = true) (hz : zer P T = some cs) (hh : Holds R L w)
    (k : ∀ b w1, Holds R (cel b cs T :: L) w1 → K (updO e d (.pointer (some ⟨b, 0, none⟩))) w1) : OP1 P n ops i K e w := by
  obtain ⟨z, hz1, hz2⟩ := run_zero (w := w) hz
  refine o_v (w1 := { w with heap := w.heap.push (.cells cs.toArray T (0, 0)) }) hl hd ?_ (k _ _ (hh.alloc _))
  simp [xop, execOp, Instr.alloc, newVar, newRow, hz1, hz2]

/-! ### Rows of elements that their cells tell wholly -/
def flat {α : Type} (enc : α → List Value) (l : List α) : List Value := l.flatMap enc
theorem flat_length {α : Type} {enc : α → List Value} {k : Nat} (hk : ∀ x, (enc x).length = k) : ∀ (l : List α), (flat enc l).length = l.length * k
  | [] => by simp [flat]
  | x :: l => by
    have := flat_length hk l
    simp only [flat, List.flatMap_cons, List.length_append, List.length_cons] at this ⊢
    rw [this, hk, Nat.add_mul, Nat.one_mul, Nat.add_comm]
theorem flat_append {α : Type} (enc : α → List Value) (l m : List α) : flat enc (l ++ m) = flat enc l ++ flat enc m := by simp [flat]
theorem flat_get {α : Type} {enc : α → List Value} {k : Nat} (hk : ∀ x, (enc x).length = k) : ∀ (l : List α) (i j : Nat) (x : α), l[i]? = some x → j < k → (flat enc l)[i * k + j]? = (enc x)[j]?
  | [], _, _, _, h, _ => by simp at h
  | y :: l, 0, j, x, h, hj => by
    simp at h; subst h
    have : j < (enc y).length := by rw [hk]; exact hj
    simp [flat, List.getElem?_append_left this]
  | y :: l, i + 1, j, x, h, hj => by
    have ih := flat_get hk l i j x (by simpa using h) hj
    have h1 : (enc y).length = k := hk y
    have h2 : (i + 1) * k + j = (enc y).length + (i * k + j) := by rw [h1, Nat.add_mul, Nat.one_mul]; omega
    rw [h2]
    simp only [flat, List.flatMap_cons] at ih ⊢
    rw [List.getElem?_append_right (by omega)]
    simpa using ih

/-- A slice that may be read: n elements, one behind the other. -/
def Rd {α : Type} (enc : α → List Value) (v : Value) (l : List α) : HP := fun h =>
  (v = .slice none 0 0 ∧ l = []) ∨
  ∃ (b off cap : Nat) (cs : List Value) (T : Nat × Nat × Nat), v = .slice (some ⟨b, off, none⟩) l.length cap ∧ h b = some (.cells cs.toArray T.1 T.2) ∧ l.length ≤ cap ∧ ∀ j c, (flat enc l)[j]? = some c → cs[off + j]? = some c

/-- A slice that is one's own: its block, from the first cell on. -/
def Vec {α : Type} (T k : Nat) (enc : α → List Value) (v : Value) (l : List α) : HP := fun h =>
  (v = .slice none 0 0 ∧ l = []) ∨
  ∃ b cap rest, v = .slice (some ⟨b, 0, none⟩) l.length cap ∧ h b = some (.cells (flat enc l ++ rest : List Value).toArray T (0, 0)) ∧ l.length ≤ cap ∧ rest.length = (cap - l.length) * k

theorem Rd.up {α : Type} {enc : α → List Value} {v : Value} {l : List α} : Up (Rd enc v l) := by
  rintro h g (hn | ⟨b, off, cap, cs, T, hv, hb, hl, hx⟩) s
  · exact .inl hn
  · exact .inr ⟨b, off, cap, cs, T, hv, s _ _ hb, hl, hx⟩
theorem Vec.up {α : Type} {T k : Nat} {enc : α → List Value} {v : Value} {l : List α} : Up (Vec T k enc v l) := by
  rintro h g (hn | ⟨b, cap, rest, hv, hb, hl, hx⟩) s
  · exact .inl hn
  · exact .inr ⟨b, cap, rest, hv, s _ _ hb, hl, hx⟩
theorem Vec.rd {α : Type} {T k : Nat} {enc : α → List Value} {v : Value} {l : List α} {h : Hp} (hv : Vec T k enc v l h) : Rd enc v l h := by
  rcases hv with hn | ⟨b, cap, rest, hv, hb, hl, hx⟩
  · exact .inl hn
  · refine .inr ⟨b, 0, cap, _, (T, 0, 0), hv, hb, hl, fun j c hj => ?_⟩
    have hlt := (List.getElem?_eq_some_iff.1 hj).1
    rw [Nat.zero_add, List.getElem?_append_left hlt]; exact hj
theorem Rd.len {α : Type} {enc : α → List Value} {v : Value} {l : List α} {h : Hp} (hr : Rd enc v l h) : ∃ a cap, v = .slice a l.length cap ∧ l.length ≤ cap := by
  rcases hr with ⟨rfl, rfl⟩ | ⟨b, off, cap, cs, T, hv, _, hl, _⟩
  · exact ⟨none, 0, rfl, Nat.le_refl _⟩
  · exact ⟨_, cap, hv, hl⟩
theorem Vec.len {α : Type} {T k : Nat} {enc : α → List Value} {v : Value} {l : List α} {h : Hp} (hr : Vec T k enc v l h) : ∃ a cap, v = .slice a l.length cap ∧ l.length ≤ cap := hr.rd.len
theorem Rd.nil {α : Type} (enc : α → List Value) (h : Hp) : Rd enc (.slice none 0 0) [] h := .inl ⟨rfl, rfl⟩
theorem Vec.nil {α : Type} (T k : Nat) (enc : α → List Value) (h : Hp) : Vec T k enc (.slice none 0 0) [] h := .inl ⟨rfl, rfl⟩

/-- Element i of a slice: where it lies. -/
theorem Rd.at {α : Type} {enc : α → List Value} {k : Nat} (hk : ∀ x, (enc x).length = k) {v : Value} {l : List α} {h : Hp} (hr : Rd enc v l h) {i : Nat} {x : α} (hi : l[i]? = some x) :
    ∃ (b off cap : Nat) (cs : List Value) (T : Nat × Nat × Nat), v = .slice (some ⟨b, off, none⟩) l.length cap ∧ h b = some (.cells cs.toArray T.1 T.2) ∧ ∀ j c, (enc x)[j]? = some c → cs[off + i * k + j]? = some c := by
  rcases hr with ⟨rfl, rfl⟩ | ⟨b, off, cap, cs, T, hv, hb, hl, hx⟩
  · simp at hi
  · refine ⟨b, off, cap, cs, T, hv, hb, fun j c hj => ?_⟩
    have hlt : j < k := by rw [← hk x]; exact (List.getElem?_eq_some_iff.1 hj).1
    rw [Nat.add_assoc]
    exact hx _ _ (by rw [flat_get hk l i j x hi hlt]; exact hj)

section
variable {P : Program} {n : Nat} {e : Env} {w : World} {ops : Array Oper} {K : Env → World → Prop} {ty : TypeId} {R : Base} {L : List HP}

theorem Holds.rd {α : Type} {T k : Nat} {enc : α → List Value} {v : Value} {l : List α} (h : Holds R (Vec T k enc v l :: L) w) : Rd enc v l (hp w) := by
  obtain ⟨y, s, hv⟩ := h.get
  exact Rd.up _ _ hv.rd s

theorem setL_flat : ∀ (vs a b : List Value), vs.length ≤ b.length → setL (a ++ b) a.length vs = a ++ (vs ++ b.drop vs.length)
  | [], a, b, _ => by simp [setL]
  | v :: vs, a, b, h => by
    cases b with
    | nil => simp at h
    | cons c b =>
      have ih := setL_flat vs (a ++ [v]) b (by simpa using h)
      simp only [setL]
      have h1 : (a ++ c :: b).set a.length v = (a ++ [v]) ++ b := by simp
      rw [h1]
      have h2 : a.length + 1 = (a ++ [v]).length := by simp
      rw [h2, ih]; simp

theorem elm_spec {T E sz by_ : Nat} (ht : elm P T = some (E, sz, by_)) : ∃ i, P.underlying T = some (.slice E) ∧ P.info? E = some i ∧ i.size = sz ∧ i.bytes = by_ := by
  unfold elm at ht
  split at ht <;> try (cases ht; done)
  rename_i E' hu
  split at ht <;> try (cases ht; done)
  rename_i inf hinf
  cases ht
  exact ⟨inf, hu, hinf, rfl, rfl⟩

theorem run_firstCells {α : Type} {enc : α → List Value} {k : Nat} (hk : ∀ x, (enc x).length = k) {v : Value} {l : List α} (hr : Rd enc v l (hp w)) : (Builtin.firstCells k l.length v).run P w = .ok (flat enc l).toArray w := by
  rcases hr with ⟨rfl, rfl⟩ | ⟨b, off, cap, cs, T, rfl, hb, hl, hx⟩
  · simp [Builtin.firstCells, flat]
  · exact run_firstCells_some w k _ _ _ _ _ (flat_length hk l) fun j c hj => by rw [add_mk]; exact cell_of hb (hx j c hj)

theorem zer_spec {E : Nat} {z : List Value} (h : zer P E = some z) : ∃ i v, P.info? E = some i ∧ i.zero = some v ∧ v.cells = z.toArray := by
  unfold zer at h
  split at h <;> try (cases h; done)
  rename_i i hi
  obtain ⟨v, hv, hc⟩ := Option.map_eq_some_iff.1 h
  exact ⟨i, v, hi, hv, by rw [← hc]⟩

theorem zeroCells_length (z : List Value) (m : Nat) : (Builtin.zeroCells z.toArray m).toList.length = m * z.length := by simp [Builtin.zeroCells]

theorem Holds.vnil {α : Type} (T k : Nat) (enc : α → List Value) (h : Holds R L w) : Holds R (Vec T k enc (.slice none 0 0) [] :: L) w := h.put (Vec.nil _ _ _ _)

/-- append(x, y...): x one's own, y whatever may be read. -/
theorem o_app {α : Type} {enc : α → List Value} {i : Nat} {d : Option Tmp} {T E k by_ : Nat} {x y : Operand} {v yv : Value} {l ys : List α} {z : List Value} (hl : Live ops e i d (.call ⟨.builtin .append, #[x, y], #[T, T]⟩) ty) (hd : dOk n d = true)
    (ht : elm P T = some (E, k, by_)) (hz : zer P E = some z) (hzk : z.length = k) (hk : ∀ x, (enc x).length = k) (ho : ∀ x, ones (enc x) = true) (hx : ev e x = v) (hy : ev e y = yv)
    (hh : Holds R (Vec E k enc v l :: L) w) (hr : Rd enc yv ys (hp w)) (hb : (l.length + ys.length) * by_ ≤ 140737488355328) (hb2 : l.length + ys.length ≤ 9223372036854775807)
    (kk : ∀ v' w1, Holds R (Vec E k enc v' (l ++ ys) :: L) w1 → K (updO e d v') w1) : OP1 P n ops i K e w := by
  obtain ⟨inf, hu, hi, hsz, hby⟩ := elm_spec ht
  obtain ⟨inf', zv, hi', hzv, hzc⟩ := zer_spec hz
  obtain rfl : inf = inf' := Option.some.inj (hi.symm.trans hi')
  obtain ⟨va, vcap, hv, hvl⟩ := hh.rd.len
  obtain ⟨ya, ycap, hyv, hyl⟩ := hr.len
  have onesflat : ∀ l : List α, ones (flat enc l) = true := fun l => by
    simp only [ones, flat, List.all_flatMap, List.all_eq_true]; intro x _; have := ho x; simpa [ones] using this
  have hkind : (Sem.run P (do pure ((← underlying T) matches .int _)) w : Result Bool) = .ok false w := by simp [run_underlying hu]
  by_cases hroom : l.length + ys.length ≤ vcap
  · -- there is room
    have hcase : (v = .slice none 0 0 ∧ l = []) ∨ ∃ b rest, v = .slice (some ⟨b, 0, none⟩) l.length vcap ∧ Holds R (cel b (flat enc l ++ rest) E :: L) w ∧ rest.length = (vcap - l.length) * k := by
      obtain ⟨y, d1, s1, h1, h2, dd, t1, t2, hvec, hs⟩ := hh.sat
      rcases hvec with hn | ⟨b, cap, rest, hv0, hb0, hl0, hr0⟩
      · exact .inl hn
      · refine .inr ⟨b, rest, ?_, ⟨hh.os, hh.tape, hh.output, hh.ro, y, d1, s1, h1, h2, dd, t1, t2, hb0, hs⟩, ?_⟩
        · rw [hv0] at hv; cases hv; exact hv0
        · rw [hv0] at hv; cases hv; exact hr0
    rcases hcase with ⟨hv0, hl0⟩ | ⟨b, rest, hv0, hh', hrest⟩
    · subst hl0
      rw [hv0] at hv
      cases hv
      have hys : ys = [] := by cases ys with | nil => rfl | cons _ _ => simp at hroom
      subst hys
      refine o_v (v := .slice none 0 0) (w1 := w) hl hd ?_ (kk _ w ?_)
      · have hf := run_firstCells (P := P) hk hr
        simp only [List.length_nil] at hf hyv
        simp [xop, execOp, resolve, invoke, builtin, Builtin.append_, run_underlying hu, run_size hi, hx, hy, hv0, hyv, Builtin.lenOf, hsz]
        rw [← hyv, hf]
        rfl
      · exact hh.weak fun h hvv => Vec.nil _ _ _ _
    · have hlen : (flat enc ys).length ≤ rest.length := by
        rw [flat_length hk, hrest]; exact Nat.mul_le_mul_right _ (by omega)
      have hoff : (flat enc l).length = l.length * k := flat_length hk l
      have hf := run_firstCells (P := P) hk hr
      obtain ⟨w1, h1, h2⟩ := run_storeCells (P := P) (off := l.length * k) (flat enc ys) (flat enc l ++ rest) 0 w hh' (onesflat ys) (by simp; omega)
      refine o_v (v := .slice (some ⟨b, 0, none⟩) (l.length + ys.length) vcap) (w1 := w1) hl hd ?_ (kk _ w1 ?_)
      · simp only [xop, execOp, resolve, invoke, builtin, Builtin.append_, Sem.run_bind, Sem.run_pure, Result.andThen, List.map_toArray, List.map_cons, List.map_nil, List.getElem?_toArray, List.getElem?_cons_zero, List.getElem?_cons_succ,
          run_underlying hu, run_size hi, hx, hy, hv0, hyv, Builtin.lenOf, hsz, hroom, if_true, Bool.not_false, Bool.false_eq_true, if_false]
        rw [← hyv, hf]
        simp only [add_mk, Nat.zero_add, h1]
      · rw [Nat.add_zero, ← hoff, setL_flat _ _ _ hlen] at h2
        refine h2.weak fun h hc => .inr ⟨b, vcap, rest.drop (flat enc ys).length, by simp, ?_, by simp; omega, ?_⟩
        · rw [flat_append, List.append_assoc]; exact hc
        · simp only [List.length_drop, List.length_append]
          rw [flat_length hk, hrest, ← Nat.sub_mul]; congr 1; omega
  · -- it grows
    have hgrow : ¬ (l.length + ys.length ≤ vcap) := hroom
    have hfit : ¬ (Builtin.nextslicecap (l.length + ys.length) vcap * by_ > 2 ^ 48) := by
      have := growslice_fits (need := l.length + ys.length) (old := vcap) (bytes := by_) (by omega) hb
      omega
    let wd : World := { w with drawn := w.drawn + 1 }
    let q : Question := .appendCap (l.length + ys.length) vcap E
    let nc : Nat := q.cut (w.tape w.drawn q)
    have hnc : l.length + ys.length ≤ nc := by simp only [nc, q, Question.cut]; omega
    have hhd : Holds R (Vec E k enc v l :: L) wd := hh.drew
    have hrd : Rd enc yv ys (hp wd) := hr
    have hf1 := run_firstCells (P := P) (w := wd) hk hhd.rd
    have hf2 := run_firstCells (P := P) (w := wd) hk hrd
    let cells : List Value := flat enc l ++ flat enc ys ++ (Builtin.zeroCells z.toArray (nc - (l.length + ys.length))).toList
    refine o_v (v := .slice (some ⟨wd.heap.size, 0, none⟩) (l.length + ys.length) nc) (w1 := { wd with heap := wd.heap.push (.cells cells.toArray E (0, 0)) }) hl hd ?_ (kk _ _ ?_)
    · have h63 : ¬ ((((l.length + ys.length : Nat) : Int)) > IntKind.i64.max ∧ (False ∨ by_ = 0)) := by
        rintro ⟨h, _⟩
        have : IntKind.i64.max = 9223372036854775807 := rfl
        rw [this] at h
        omega
      have hzr : (zeroValue E).run P wd = .ok zv wd := by simp [zeroValue, typeInfo, hi, hzv]
      have hti : ∀ w, (typeInfo E).run P w = .ok inf w := fun w => by simp [typeInfo, hi]
      simp only [xop, execOp, resolve, invoke, builtin, Builtin.append_, Sem.run_bind, Sem.run_pure, Result.andThen, List.map_toArray, List.map_cons, List.map_nil, List.getElem?_toArray, List.getElem?_cons_zero, List.getElem?_cons_succ,
          run_underlying hu, run_size hi, hx, hy, hv, hyv, Builtin.lenOf, hsz, hroom, if_false, Bool.not_false, Bool.false_eq_true, hti, hby, hfit, h63, if_true, Question.forced, run_choose, run_askRoom]
      rw [← hyv, ← hv]
      have e1 : (Sem.run P (Builtin.firstCells k l.length v) { heap := w.heap, tape := w.tape, drawn := w.drawn + 1, os := w.os, output := w.output } : Result (Array Value)) = .ok (flat enc l).toArray wd := hf1
      have hnr : ∀ cs : Array Value, cs = cells.toArray → (newRow E cs).run P wd = .ok ⟨wd.heap.size, 0, none⟩ { wd with heap := wd.heap.push (.cells cells.toArray E (0, 0)) } := fun cs hcs => by subst hcs; simp [newRow]
      simp only [e1, hf2, hzr]
      rw [hnr]
      apply Array.ext'
      simp [cells, hzc, nc, q]
    · refine (hhd.drop.alloc _).weak fun h hc => .inr ⟨wd.heap.size, nc, (Builtin.zeroCells z.toArray (nc - (l.length + ys.length))).toList, by simp, ?_, by simp; omega, ?_⟩
      · rw [flat_append]; exact hc
      · rw [zeroCells_length, hzk]; simp

theorem rep_cells (z : List Value) (m : Nat) : (Array.range (m * z.length)).map (fun j => z.toArray[j % z.toArray.size]!) = (flat (fun _ : Unit => z) (List.replicate m ())).toArray := by
  have hk : ∀ x : Unit, ((fun _ : Unit => z) x).length = z.length := fun _ => rfl
  apply Array.ext
  · simp [flat_length hk]
  · intro i h1 h2
    have h1' : i < m * z.length := by simpa using h1
    have hz : 0 < z.length := by
      rcases Nat.eq_zero_or_pos z.length with h | h
      · rw [h] at h1'; simp at h1'
      · exact h
    have hq : i / z.length < m := (Nat.div_lt_iff_lt_mul hz).2 h1'
    have hr : i % z.length < z.length := Nat.mod_lt _ hz
    have := flat_get hk (List.replicate m ()) (i / z.length) (i % z.length) () (by simp [hq]) hr
    rw [Nat.mul_comm, Nat.div_add_mod] at this
    simp only [Array.getElem_map, Array.getElem_range, List.getElem_toArray]
    have h3 : (flat (fun _ : Unit => z) (List.replicate m ()))[i]? = some (flat (fun _ : Unit => z) (List.replicate m ()))[i] := List.getElem?_eq_getElem _
    rw [h3, List.getElem?_eq_getElem hr] at this
    rw [← Option.some.inj this.symm]
    simp [hr]

/-- A slice literal. -/
theorem o_bs {i : Nat} {d : Option Tmp} {T E sz by_ len : Nat} {ps : List (Nat × Operand)} {vps : List (Nat × Value)} {z zs cs : List Value} {pl : List (Nat × Nat)} (hl : Live ops e i d (.buildSlice T len ps.toArray) ty) (hd : dOk n d = true)
    (ht : elm P T = some (E, sz, by_)) (hz : zer P E = some z) (hlen : Nat.ble (len * sz) 16777216 = true) (hne : Nat.beq (len * sz) 0 = false) (hzs : Nat.beq z.length sz = true) (hv0 : evs e ps = some vps)
    (hpl : (List.range len).map (fun j => (j * sz, sz)) = pl) (h0 : flat (fun _ : Unit => z) (List.replicate len ()) = zs) (hf : fillL pl zs vps = some cs) (hh : Holds R L w)
    (k : ∀ b w1, Holds R (cel b cs E :: L) w1 → K (updO e d (.slice (some ⟨b, 0, none⟩) len len)) w1) : OP1 P n ops i K e w := by
  obtain ⟨inf, hu, hi, hsz, hby⟩ := elm_spec ht
  obtain ⟨inf', zv, hi', hzv, hzc⟩ := zer_spec hz
  obtain rfl : inf = inf' := Option.some.inj (hi.symm.trans hi')
  have hlen' : ¬ (len * sz > 2 ^ 24) := by have := Nat.le_of_ble_eq_true hlen; omega
  have hne' : len * sz ≠ 0 := fun h => by rw [h] at hne; cases hne
  have hzs' : z.length = sz := Nat.eq_of_beq_eq_true hzs
  have hv := evs_map hv0
  subst hv hpl h0
  have hfill := fill_eq _ (fun i => some (i * sz, sz)) (fun i p h => by
    simp only [List.getElem?_map, Option.map_eq_some_iff] at h
    obtain ⟨a, ha, rfl⟩ := h
    have : i < len := by have := (List.getElem?_eq_some_iff.1 ha).1; simpa using this
    simp only [List.getElem?_range this, Option.some.injEq] at ha
    rw [ha]) _ _ _ hf
  rw [← rep_cells, hzs'] at hfill
  refine o_v (w1 := { w with heap := w.heap.push (.cells cs.toArray E (0, 0)) }) hl hd ?_ (k _ _ (hh.alloc _))
  have hzr : (zeroValue E).run P w = .ok zv w := by simp [zeroValue, typeInfo, hi, hzv]
  simp only [xop, execOp, Instr.buildSlice, Sem.run_bind, Sem.run_pure, Result.andThen, run_underlying hu, run_size hi, hsz, hlen', hne', if_false, hzr, List.map_toArray, hzc]
  rw [hfill]
  simp [newRow]

theorem vec_of_cel {α : Type} {T k : Nat} {enc : α → List Value} {b : Nat} {cs : List Value} {l : List α} (hc : flat enc l = cs) (h : Holds R (cel b cs T :: L) w) :
    Holds R (Vec T k enc (.slice (some ⟨b, 0, none⟩) l.length l.length) l :: L) w :=
  h.weak fun x hx => .inr ⟨b, l.length, [], rfl, by rw [hc, List.append_nil]; exact hx, Nat.le_refl _, by simp⟩

theorem run_makeSlice {T E k by_ : Nat} {z : List Value} {m : Int} {kd : IntKind} (ht : elm P T = some (E, k, by_)) (hz : zer P E = some z) (hzk : z.length = k) (hm : 0 ≤ m) (hb : by_ * m ≤ 140737488355328) (hm2 : m ≤ 9223372036854775807) (hk0 : k ≠ 0) :
    (Instr.makeSlice T (.int kd m) (.int kd m)).run P w = .ok (.slice (some ⟨w.heap.size, 0, none⟩) m.toNat m.toNat) { w with heap := w.heap.push (.cells (flat (fun _ : Unit => z) (List.replicate m.toNat ())).toArray E (0, 0)) } := by
  obtain ⟨inf, hu, hi, hsz, hby⟩ := elm_spec ht
  obtain ⟨inf', zv, hi', hzv, hzc⟩ := zer_spec hz
  obtain rfl : inf = inf' := Option.some.inj (hi.symm.trans hi')
  have hw : IntKind.i64.wrap m = m := wrap_i64 ⟨by omega, hm2⟩
  have hzr : (zeroValue E).run P w = .ok zv w := by simp [zeroValue, typeInfo, hi, hzv]
  have hti : (typeInfo E).run P w = .ok inf w := by simp [typeInfo, hi]
  have h1 : ¬ (m < 0) := by omega
  have h2 : ¬ (by_ * m > 2 ^ 48) := by omega
  have hcells := rep_cells z m.toNat
  rw [hzk] at hcells
  have h2' : ¬ (281474976710656 < by_ * m) := by omega
  by_cases h0 : m.toNat = 0
  · have hm0 : m = 0 := by omega
    subst hm0
    simp [Instr.makeSlice, run_underlying hu, asInt, asIntOf, hti, hw, run_size hi, newRow, flat]
    have : Array.range 0 = #[] := rfl
    rw [this]; simp
  · have hn : ¬ (m.toNat = 0 ∨ k = 0) := by omega
    simp only [Instr.makeSlice, Sem.run_bind, run_underlying hu, Result.andThen, asInt, asIntOf, Sem.run_pure, hti, hby, hw]
    have hA : decide ((2 : Int) ^ 48 < by_ * m) = false := by
      rw [decide_eq_false_iff_not]; exact h2
    simp only [gt_iff_lt, hA, h1, Bool.or_false, decide_false, Int.lt_irrefl, Bool.false_eq_true, if_false, Sem.run_bind, run_askRoom, Result.andThen, run_size hi, hsz]
    have hn2 : ¬ (m.toNat * k = 0) := by
      rw [Nat.mul_eq_zero]; exact hn
    simp only [hn2, if_false, Sem.run_bind, hzr, Result.andThen, Sem.run_pure, hzc, hcells, newRow, run_newObj]

theorem o_mk {i : Nat} {d : Option Tmp} {T E k by_ : Nat} {x y : Operand} {z : List Value} {m : Int} {kd : IntKind} (hl : Live ops e i d (.makeSlice T x y) ty) (hd : dOk n d = true) (ht : elm P T = some (E, k, by_)) (hz : zer P E = some z)
    (hzk : Nat.beq z.length k = true) (hk0 : Nat.beq k 0 = false) (hx : ev e x = .int kd m) (hy : ev e y = .int kd m) (hm : 0 ≤ m) (hb : by_ * m ≤ 140737488355328) (hm2 : m ≤ 9223372036854775807) (hh : Holds R L w)
    (kk : ∀ b w1, Holds R (cel b (flat (fun _ : Unit => z) (List.replicate m.toNat ())) E :: L) w1 → K (updO e d (.slice (some ⟨b, 0, none⟩) m.toNat m.toNat)) w1) : OP1 P n ops i K e w := by
  have hk0' : k ≠ 0 := fun h => by rw [h] at hk0; cases hk0
  have h1 := run_makeSlice (P := P) (w := w) (kd := kd) ht hz (Nat.eq_of_beq_eq_true hzk) hm hb hm2 hk0'
  refine o_v hl hd ?_ (kk _ _ (hh.alloc _))
  simp only [xop, execOp, hx, hy, h1, Sem.run_bind, Result.andThen, Sem.run_pure]

/-- A bound of a slice expression. -/
def BndIs (e : Env) (o : Option Operand) (m dflt : Nat) : Prop := match o with
  | some a => ∃ kd, ev e a = .int kd (m : Int)
  | none => m = dflt
theorem bnd_s {a : Operand} {kd : IntKind} {m d : Nat} (h : ev e a = .int kd (m : Int)) : BndIs e (some a) m d := ⟨kd, h⟩
theorem bnd_n {d : Nat} : BndIs e none d d := rfl
/-- x[lo:hi] of a slice. -/
theorem r_sl {T E k by_ b o len cap : Nat} {x : Operand} {lo hi : Option Operand} {l h : Nat} (ht : elm P T = some (E, k, by_)) (hx : ev e x = .slice (some ⟨b, o, none⟩) len cap)
    (hlo : BndIs e lo l 0) (hhi : BndIs e hi h len) (h1 : l ≤ h) (h2 : h ≤ cap) :
    ∃ o', (xop (ev e) (.slice T x lo hi none) ty).run P w = .ok (.value (.slice (some ⟨b, o', none⟩) (h - l) (cap - l))) w ∧ (l < cap → o' = o + l * k) ∧ (cap = l → o' = o) := by
  obtain ⟨inf, hu, hi', hsz, hby⟩ := elm_spec ht
  refine ⟨if cap = l then o else o + l * k, ?_, fun h => by rw [if_neg (by omega)], fun h => by rw [if_pos h]⟩
  have e1 : (Instr.sliceBounds true len cap (lo.map (ev e)) (hi.map (ev e)) none).run P w = .ok (l, h, cap) w := by
    cases lo <;> cases hi <;> simp only [Option.map_none, Option.map_some, BndIs] at hlo hhi ⊢
    · subst hlo hhi; simp [Instr.sliceBounds]
    · obtain ⟨kd, hk⟩ := hhi; subst hlo; simp [Instr.sliceBounds, Instr.sliceBound, hk, asIntOf]; omega
    · obtain ⟨kd, hk⟩ := hlo; subst hhi; simp [Instr.sliceBounds, Instr.sliceBound, hk, asIntOf]; omega
    · obtain ⟨kd, hk⟩ := hhi; obtain ⟨kd', hk'⟩ := hlo; simp [Instr.sliceBounds, Instr.sliceBound, hk, hk', asIntOf, h1, h2]
  simp only [xop, execOp, Instr.sliceAt, Instr.slice, Sem.run_bind, run_underlying hu, Result.andThen, hx, Option.map_none, e1, run_size hi', hsz, Sem.run_pure, Option.map_some, add_mk]
  by_cases hc : cap = l
  · simp [hc]
  · simp [hc]

theorem o_sl {i : Nat} {d : Option Tmp} {T E k by_ b o len cap : Nat} {x : Operand} {lo hi : Option Operand} (l h : Nat) (hl : Live ops e i d (.slice T x lo hi none) ty) (hd : dOk n d = true) (ht : elm P T = some (E, k, by_)) (hx : ev e x = .slice (some ⟨b, o, none⟩) len cap)
    (hlo : BndIs e lo l 0) (hhi : BndIs e hi h len) (h1 : l ≤ h) (h2 : h ≤ cap)
    (kk : ∀ o', (l < cap → o' = o + l * k) → K (updO e d (.slice (some ⟨b, o', none⟩) (h - l) (cap - l))) w) : OP1 P n ops i K e w :=
  let ⟨o', hr, ho, _⟩ := r_sl (P := P) (w := w) (ty := ty) ht hx hlo hhi h1 h2
  o_v hl hd hr (kk o' ho)
theorem o_ld {i : Nat} {d : Option Tmp} {T sz b off : Nat} {x : Operand} (hl : Live ops e i d (.load T x) ty) (hd : dOk n d = true) (hk : lk P T = some (false, sz)) (hx : ev e x = .pointer (some ⟨b, off, none⟩))
    (h : ∃ cs T' fz, w.heap[b]? = some (.cells (cs : List Value).toArray T' fz) ∧ ∃ v, cs[off]? = some v ∧ K (updO e d v) w) : OP1 P n ops i K e w :=
  let ⟨_, _, _, hb, _, hc, hk'⟩ := h
  o_v hl hd (r_ld hk hx hb hc) hk'
theorem o_ldN {i : Nat} {d : Option Tmp} {T sz b off : Nat} {x : Operand} (hl : Live ops e i d (.load T x) ty) (hd : dOk n d = true) (hk : lk P T = some (true, sz)) (hx : ev e x = .pointer (some ⟨b, off, none⟩))
    (h : ∃ cs T' fz, w.heap[b]? = some (.cells (cs : List Value).toArray T' fz) ∧ ∃ vs : List Value, (cs.drop off).take sz = vs ∧ Nat.beq vs.length sz = true ∧ K (updO e d (.agg vs.toArray)) w) : OP1 P n ops i K e w := by
  obtain ⟨_, _, _, hb, vs, hc, hs, hk'⟩ := h
  have hs' := Nat.eq_of_beq_eq_true hs
  exact o_v hl hd (r_ldN (by rw [hs']; exact hk) hx hb (by rw [hs']; exact hc)) hk'

variable {LP : List Prom} {fuel : Nat} {listed : Array Bool}
theorem d_ld {i : Nat} {d : Option Tmp} {T sz b off : Nat} {x : Operand} (ds : List Nat) (hl : Live ops e i d (.load T x) ty) (hd : dOk n d = true) (hk : lk P T = some (false, sz)) (hx : ev e x = .pointer (some ⟨b, off, none⟩))
    (hc : chk ops listed ds i = true)
    (h : ∃ cs T' fz, w.heap[b]? = some (.cells (cs : List Value).toArray T' fz) ∧ ∃ v, cs[off]? = some v ∧
      OPD P n ops ((fun w => w.heap[b]? = some (.cells cs.toArray T' fz), ds) :: LP) fuel (listed.setIfInBounds i true) K (updO e d v) w) : OPD P n ops LP (fuel + 1) listed K e w :=
  let ⟨_, _, _, hb, _, hv, hk'⟩ := h
  d_q _ ds hl hd (fun w hb => r_ld hk hx hb hv) hb hc hk'
theorem d_ldN {i : Nat} {d : Option Tmp} {T sz b off : Nat} {x : Operand} (ds : List Nat) (hl : Live ops e i d (.load T x) ty) (hd : dOk n d = true) (hk : lk P T = some (true, sz)) (hx : ev e x = .pointer (some ⟨b, off, none⟩))
    (hc : chk ops listed ds i = true)
    (h : ∃ cs T' fz, w.heap[b]? = some (.cells (cs : List Value).toArray T' fz) ∧ ∃ vs : List Value, (cs.drop off).take sz = vs ∧ Nat.beq vs.length sz = true ∧
      OPD P n ops ((fun w => w.heap[b]? = some (.cells cs.toArray T' fz), ds) :: LP) fuel (listed.setIfInBounds i true) K (updO e d (.agg vs.toArray)) w) : OPD P n ops LP (fuel + 1) listed K e w := by
  obtain ⟨_, _, _, hb, vs, hv, hs, hk'⟩ := h
  have hs' := Nat.eq_of_beq_eq_true hs
  exact d_q _ ds hl hd (fun w hb => r_ldN (by rw [hs']; exact hk) hx hb (by rw [hs']; exact hv)) hb hc hk'

theorem cells_of {b off : Nat} {cs vs : List Value} {T : TypeId} {fz : Nat × Nat} (h : w.heap[b]? = some (.cells cs.toArray T fz)) (hc : (cs.drop off).take vs.length = vs) :
    ∀ i v, vs[i]? = some v → w.cell? ⟨b, off + i, none⟩ = some v := fun i v hi => cell_of h (by
    rw [← hc] at hi
    rw [List.getElem?_take] at hi
    split at hi
    · simpa [List.getElem?_drop] using hi
    · cases hi)

/-! ### Held against nil; arrays by value; an empty literal -/
theorem bin_ne {op : BinOp} {T T2 : Nat} {x y : Operand} {u v r : Value} (hx : ev e x = u) (hy : ev e y = v) (hg : (eqGuard op T x y u v).run P w = .ok () w) (hr : (binOp op T u v).run P w = .ok r w) :
    (xop (ev e) (.binOp op T x y T2) ty).run P w = .ok (.value r) w := by
  simp [xop, execOp, hx, hy, hg, hr]
def isSl (P : Program) (T : Nat) : Bool := match P.underlying T with | some (.slice _) => true | _ => false
def isPtr (P : Program) (T : Nat) : Bool := match P.underlying T with | some (.pointer _) => true | _ => false
theorem equal_slnil {T : Nat} {a : Option Addr} {m c : Nat} (ht : isSl P T = true) : (Op.equal T (.slice a m c) (.slice none 0 0)).run P w = .ok a.isNone w := by
  unfold isSl at ht
  split at ht <;> try (cases ht; done)
  rename_i E hu
  have key : ∀ d, (Op.equalIn (d + 1) T (.slice a m c) (.slice none 0 0)).run P w = .ok a.isNone w := fun d => by
    cases a <;> simp [Op.equalIn, run_underlying hu]
  exact key 9999
theorem equal_ptnil {T : Nat} {a : Option Addr} (ht : isPtr P T = true) : (Op.equal T (.pointer a) (.pointer none)).run P w = .ok a.isNone w := by
  unfold isPtr at ht
  split at ht <;> try (cases ht; done)
  rename_i E hu
  have key : ∀ d, (Op.equalIn (d + 1) T (.pointer a) (.pointer none)).run P w = .ok a.isNone w := fun d => by
    cases a <;> simp [Op.equalIn, run_underlying hu]
  exact key 9999
theorem r_eqsn {T T2 : Nat} {x y : Operand} {a : Option Addr} {m c : Nat} (ht : isSl P T = true) (hx : ev e x = .slice a m c) (hy : ev e y = .slice none 0 0) :
    (xop (ev e) (.binOp .eql T x y T2) ty).run P w = .ok (.value (.bool a.isNone)) w :=
  bin_ne hx hy (by simp [eqGuard]) (by simp [binOp, equal_slnil ht])
theorem r_nesn {T T2 : Nat} {x y : Operand} {a : Option Addr} {m c : Nat} (ht : isSl P T = true) (hx : ev e x = .slice a m c) (hy : ev e y = .slice none 0 0) :
    (xop (ev e) (.binOp .neq T x y T2) ty).run P w = .ok (.value (.bool (!a.isNone))) w :=
  bin_ne hx hy (by simp [eqGuard]) (by simp [binOp, equal_slnil ht])
theorem r_eqpn {T T2 : Nat} {x y : Operand} {a : Option Addr} (ht : isPtr P T = true) (hx : ev e x = .pointer a) (hy : ev e y = .pointer none) :
    (xop (ev e) (.binOp .eql T x y T2) ty).run P w = .ok (.value (.bool a.isNone)) w :=
  bin_ne hx hy (by simp [eqGuard]) (by simp [binOp, equal_ptnil ht])
theorem r_nepn {T T2 : Nat} {x y : Operand} {a : Option Addr} (ht : isPtr P T = true) (hx : ev e x = .pointer a) (hy : ev e y = .pointer none) :
    (xop (ev e) (.binOp .neq T x y T2) ty).run P w = .ok (.value (.bool (!a.isNone))) w :=
  bin_ne hx hy (by simp [eqGuard]) (by simp [binOp, equal_ptnil ht])

theorem o_bs0 {i : Nat} {d : Option Tmp} {T E sz by_ : Nat} (hl : Live ops e i d (.buildSlice T 0 #[]) ty) (hd : dOk n d = true) (ht : elm P T = some (E, sz, by_)) (hh : Holds R L w)
    (k : ∀ b w1, Holds R (cel b [] E :: L) w1 → K (updO e d (.slice (some ⟨b, 0, none⟩) 0 0)) w1) : OP1 P n ops i K e w := by
  obtain ⟨inf, hu, hi, hsz, hby⟩ := elm_spec ht
  refine o_v (w1 := { w with heap := w.heap.push (.cells ([] : List Value).toArray E (0, 0)) }) hl hd ?_ (k _ _ (hh.alloc _))
  simp [xop, execOp, Instr.buildSlice, run_underlying hu, run_size hi, Instr.fill, newRow]
  have : Array.range 0 = #[] := rfl
  rw [this]; simp

def plcA (P : Program) (T : Nat) : Option (Nat × Nat × List Value) := match P.underlying T, P.info? T with
  | some (.array m e), some i => match i.zero, P.info? e with
    | some z, some j => some (m, j.size, z.cells.toList)
    | _, _ => none
  | _, _ => none
theorem r_blda {T m sz : Nat} {ps : List (Nat × Operand)} {z cs : List Value} {vps : List (Nat × Value)} {pl : List (Nat × Nat)} (hp : plcA P T = some (m, sz, z)) (hv0 : evs e ps = some vps)
    (hpl : (List.range m).map (fun j => (j * sz, sz)) = pl) (hf : fillL pl z vps = some cs) : (xop (ev e) (.build T ps.toArray) ty).run P w = .ok (.value (.agg cs.toArray)) w := by
  have hv := evs_map hv0
  unfold plcA at hp
  split at hp <;> try (cases hp; done)
  rename_i m' E i hu hi
  split at hp <;> try (cases hp; done)
  rename_i zv j hz hj
  cases hp
  subst hv hpl
  have h2 := fill_eq _ (fun i => some (i * j.size, j.size)) (fun i p h => by
    simp only [List.getElem?_map, Option.map_eq_some_iff] at h
    obtain ⟨a, ha, rfl⟩ := h
    have : i < m := by have := (List.getElem?_eq_some_iff.1 ha).1; simpa using this
    simp only [List.getElem?_range this, Option.some.injEq] at ha
    rw [ha]) _ _ _ hf
  simp only [Array.toArray_toList] at h2
  simp only [xop, execOp, Instr.build, List.map_toArray, Sem.run_bind, zeroValue, typeInfo, run_program, Result.andThen, hi, Sem.run_pure, hz, run_underlying hu, run_size hj]
  simp only [h2, Sem.run_pure]
theorem r_ix {T m E sz : Nat} {x ix : Operand} {cs : List Value} {k : IntKind} {j : Int} {v : Value} (ht : arm P T = some (m, E, sz)) (hk : lk P E = some (false, sz)) (hx : ev e x = .agg cs.toArray) (hi : ev e ix = .int k j) (h0 : 0 ≤ j) (h1 : j < m)
    (hv : cs[j.toNat * sz]? = some v) : (xop (ev e) (.index T x ix) ty).run P w = .ok (.value v) w := by
  unfold arm at ht
  split at ht <;> try (cases ht; done)
  rename_i N' E' hu
  split at ht <;> try (cases ht; done)
  rename_i inf hinf
  cases ht
  obtain ⟨d, i', hd, hi', ha, hs⟩ := lk_spec hk
  simp [xop, execOp, Instr.index, hx, hi, asIntOf, run_underlying hu, h0, h1, run_size hinf, part, run_isAgg hd, ha, hv]

theorem iv {k : IntKind} {a b : Int} (h : a = b) : Value.int k a = Value.int k b := by rw [h]
theorem bv {a b : Bool} (h : a = b) : Value.bool a = Value.bool b := by rw [h]

/-- A function without a body. -/
theorem o_ext {i : Nat} {d : Option Tmp} {f2 : FuncId} {as : Array Operand} {ts : Array TypeId} {vs : List Value} {fn : Func} {g : Array Value → Sem Value} {v : Value} {w1 : World}
    (hl : Live ops e i d (.call ⟨.value (.func f2), as, ts⟩) ty) (hd : dOk n d = true) (hf : P.funcs[f2]? = some fn) (hb : fn.body.isNone = true) (hn : (fn.name == "runtime.NumGoroutine") = false) (h2 : (Extern.findNext fn).isNone = true)
    (h3 : Extern.find fn = some g) (hv0 : evl e as.toList = some vs) (hr : (g vs.toArray).run P w = .ok v w1) (h : K (updO e d v) w1) : OP1 P n ops i K e w := by
  have hv := evl_map hv0
  refine o_v hl hd ?_ h
  have h1 : Array.map (ev e) as = vs.toArray := by subst hv; obtain ⟨as⟩ := as; simp
  have h4 : ev e (.func f2) = .func (.func f2) #[] #[] := rfl
  have h5 : Extern.findNext fn = none := by simpa using h2
  have h6 : (callFunc f2 (#[] ++ vs.toArray ++ #[])).run P w = .ok (.value v) w1 := by
    have e0 : #[] ++ vs.toArray ++ #[] = vs.toArray := by simp
    rw [e0]
    simp only [callFunc, Sem.run_bind, run_program, Result.andThen, hf, hn, Bool.false_eq_true, if_false, hb, if_true, run_mark, h5, h3, hr, Sem.run_pure]
  simp only [xop, execOp, resolve, Sem.run_bind, Result.andThen, h4, Deferred.ofValue, Sem.run_pure, invoke, h1, h6]
/-! Short names of common steps. -/
theorem vM {i : Nat} {d : Option Tmp} {x : Operand} {v : Value} (hl : Live ops e i d (.move x) ty) (hd : dOk n d = true) (hx : evo e x = some v) (h : K (updO e d v) w) : OP1 P n ops i K e w := o_v hl hd (r_mv hx) h
theorem vA {i : Nat} {d : Option Tmp} {x : Operand} {v : Value} (hl : Live ops e i d (.assign x) ty) (hd : dOk n d = true) (hx : evo e x = some v) (h : K (updO e d v) w) : OP1 P n ops i K e w := o_v hl hd (r_asg hx) h
theorem pM (i : Nat) {d : Option Tmp} {x : Operand} {v : Value} (hl : Live ops e i d (.move x) ty) (hd : dOk n d = true) (hx : evo e x = some v) (h : OPD P n ops LP fuel (listed.setIfInBounds i true) K (updO e d v) w)
    (hc : chk0 ops listed i = true := by kernel_rfl) : OPD P n ops LP (fuel + 1) listed K e w := d_p hl hd (fun _ => r_mv hx) hc h
theorem pA (i : Nat) {d : Option Tmp} {x : Operand} {v : Value} (hl : Live ops e i d (.assign x) ty) (hd : dOk n d = true) (hx : evo e x = some v) (h : OPD P n ops LP fuel (listed.setIfInBounds i true) K (updO e d v) w)
    (hc : chk0 ops listed i = true := by kernel_rfl) : OPD P n ops LP (fuel + 1) listed K e w := d_p hl hd (fun _ => r_asg hx) hc h
theorem pN (i : Nat) {d : Option Tmp} {x : Operand} {a : Addr} (hl : Live ops e i d (.nilCheck x) ty) (hd : dOk n d = true) (hx : ev e x = .pointer (some a)) (h : OPD P n ops LP fuel (listed.setIfInBounds i true) K (updO e d (.pointer (some a))) w)
    (hc : chk0 ops listed i = true := by kernel_rfl) : OPD P n ops LP (fuel + 1) listed K e w := d_p hl hd (fun _ => r_nil hx) hc h
theorem pF (i : Nat) {d : Option Tmp} {x : Operand} {T k b o off : Nat} (hl : Live ops e i d (.fieldAddr T x k) ty) (hd : dOk n d = true) (hf : faOff P T k = some off) (hx : ev e x = .pointer (some ⟨b, o, none⟩))
    (h : OPD P n ops LP fuel (listed.setIfInBounds i true) K (updO e d (.pointer (some ⟨b, o + off, none⟩))) w) (hc : chk0 ops listed i = true := by kernel_rfl) : OPD P n ops LP (fuel + 1) listed K e w := d_p hl hd (fun _ => r_fa hf hx) hc h
theorem pE (i : Nat) {d : Option Tmp} {x : Operand} {vs : List Value} {j : Nat} {v : Value} (hl : Live ops e i d (.extract x j) ty) (hd : dOk n d = true) (hx : ev e x = .tuple vs.toArray) (hi : vs[j]? = some v) (h : OPD P n ops LP fuel (listed.setIfInBounds i true) K (updO e d v) w)
    (hc : chk0 ops listed i = true := by kernel_rfl) : OPD P n ops LP (fuel + 1) listed K e w := d_p hl hd (fun _ => r_ex hx hi) hc h
theorem pO (i : Nat) {d : Option Tmp} {op : Op} {ty : TypeId} {p : String} {af : Array Edge} {g : Nat} {t : Bool} {dg : Tmp} {op' : Op} {ty' : TypeId} {p' : String} {af' : Array Edge} {gu : Option (Nat × Bool)}
    (ho : ops[i]? = some ⟨d, op, ty, p, af, some (g, t)⟩) (hg : ops[g]? = some ⟨some dg, op', ty', p', af', gu⟩) (he : e dg = some (.bool (!t))) (hd : dOk n d = true)
    (h : OPD P n ops LP fuel (listed.setIfInBounds i true) K (updO e d undef) w) (hc : chk0 ops listed i = true := by kernel_rfl) : OPD P n ops LP (fuel + 1) listed K e w := d_no ho hg he hd hc h
theorem rD {f : FuncId} {Q : Ending → World → Prop} {k : List Item} {id : Nat} (hm : P.follows .mixedOrders = true) (hH : Holds R L w) (h : ∀ w1, Holds R L w1 → OPD P n ops [] ops.size (Array.replicate ops.size false) (G P f Q n k) e w1) :
    G P f Q n (.code (.region id ops true) :: k) e w := g_regionD hm fun w1 hw => h w1 (hw ▸ hH.drew)
end
end
end Go.Lt
