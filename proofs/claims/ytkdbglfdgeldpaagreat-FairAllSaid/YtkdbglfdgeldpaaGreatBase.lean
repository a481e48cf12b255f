/- The plain data of package api, as cells, and what it is that a value holds them. Condition: none. -/
import Derived.Test.YtkdbglfdgeldpaaGreatTag
set_option linter.unusedVariables false
namespace Go.Proofs.YtkdbglfdgeldpaaGreat
open Go.Lt

structure Packet where
  flow : Int
  len : Int
  mark : Int
  deriving DecidableEq
structure Call where
  op : Int
  flow : Int
  a : Int
  b : Int
  deriving DecidableEq
structure Config where
  shards : Int
  slots : Int
  workers : Int
  width : Int
  unit : Int
  deriving DecidableEq
/-- What a call tells. -/
structure Rt where
  e : Int
  packets : List Packet
  n : Int
  v : Int
  deriving DecidableEq
structure Point where
  step : Int
  who : Int
  place : Int
  ret : Rt
  deriving DecidableEq

def I (x : Int) : Prop := -9223372036854775808 ≤ x ∧ x ≤ 9223372036854775807
def encP (p : Packet) : List Value := [.int .i64 p.flow, .int .i64 p.len, .int .i64 p.mark]
def encC (c : Call) : List Value := [.int .i64 c.op, .int .i64 c.flow, .int .i64 c.a, .int .i64 c.b]
def encV (v : Value) : List Value := [v]
def encI (x : Int) : List Value := [.int .i64 x]
def encU (x : Int) : List Value := [.int .u64 x]
def vP (p : Packet) : Value := .agg #[.int .i64 p.flow, .int .i64 p.len, .int .i64 p.mark]
def vC (c : Call) : Value := .agg #[.int .i64 c.op, .int .i64 c.flow, .int .i64 c.a, .int .i64 c.b]
def vCfg (c : Config) : Value := .agg #[.int .i64 c.shards, .int .i64 c.slots, .int .i64 c.workers, .int .i64 c.width, .int .u64 c.unit]
/-- A Ret, its packets at pv. -/
def vR (r : Rt) (pv : Value) : Value := .agg #[.int .i64 r.e, pv, .int .i64 r.n, .int .u64 r.v]
/-- A point, its packets at pv. -/
def encPt (q : Point × Value) : List Value := [.int .i64 q.1.step, .int .i64 q.1.who, .int .i64 q.1.place, .int .i64 q.1.ret.e, q.2, .int .i64 q.1.ret.n, .int .u64 q.1.ret.v]
def vPt (x : Point) (pv : Value) : Value := .agg #[.int .i64 x.step, .int .i64 x.who, .int .i64 x.place, .int .i64 x.ret.e, pv, .int .i64 x.ret.n, .int .u64 x.ret.v]
def vPlan (c : Config) (lv : Value) : Value := .agg #[.int .i64 c.shards, .int .i64 c.slots, .int .i64 c.workers, .int .i64 c.width, .int .u64 c.unit, lv]

def Packet.ok (p : Packet) : Prop := I p.flow ∧ I p.len ∧ I p.mark
def Call.ok (c : Call) : Prop := I c.op ∧ I c.flow ∧ I c.a ∧ I c.b
def Rt.ok (r : Rt) : Prop := I r.e ∧ I r.n ∧ U r.v ∧ (∀ p ∈ r.packets, p.ok) ∧ r.packets.length ≤ 2147483648
def Point.ok (x : Point) : Prop := I x.step ∧ I x.who ∧ I x.place ∧ x.ret.ok

/-- Lists of calls. -/
def RLists (v : Value) (ls : List (List Call)) : HP := fun h => ∃ vs : List Value, vs.length = ls.length ∧ Rd encV v vs h ∧ ∀ (i : Nat) (x : Value) (l : List Call), vs[i]? = some x → ls[i]? = some l → Rd encC x l h
def RPoints (v : Value) (l : List Point) : HP := fun h => ∃ s : List (Point × Value), s.map Prod.fst = l ∧ Rd encPt v s h ∧ ∀ q ∈ s, Rd encP q.2 q.1.ret.packets h

theorem RLists.up {v : Value} {ls : List (List Call)} : Up (RLists v ls) := fun _ _ ⟨vs, h1, h2, h3⟩ s => ⟨vs, h1, Rd.up _ _ h2 s, fun i x l hx hl => Rd.up _ _ (h3 i x l hx hl) s⟩
theorem RPoints.up {v : Value} {l : List Point} : Up (RPoints v l) := fun _ _ ⟨s, h1, h2, h3⟩ t => ⟨s, h1, Rd.up _ _ h2 t, fun q hq => Rd.up _ _ (h3 q hq) t⟩

theorem hkP (x : Packet) : (encP x).length = 3 := rfl
theorem hkC (x : Call) : (encC x).length = 4 := rfl
theorem hkV (x : Value) : (encV x).length = 1 := rfl
theorem hkI (x : Int) : (encI x).length = 1 := rfl
theorem hkU (x : Int) : (encU x).length = 1 := rfl
theorem hkPt (x : Point × Value) : (encPt x).length = 7 := rfl
/-- Element i of a slice whose value is there. -/
theorem Rd.el {α : Type} {enc : α → List Value} {k : Nat} (hk : ∀ x, (enc x).length = k) {a : Option Addr} {m cap : Nat} {l : List α} {h : Hp} (hr : Rd enc (.slice a m cap) l h) {i : Nat} {x : α} (hi : l[i]? = some x) :
    ∃ (b off : Nat) (cs : List Value) (T : Nat × Nat × Nat), a = some ⟨b, off, none⟩ ∧ h b = some (.cells cs.toArray T.1 T.2) ∧ ∀ j c, (enc x)[j]? = some c → cs[off + i * k + j]? = some c := by
  obtain ⟨b, off, cap', cs, T, hv, hb, hx⟩ := Rd.at hk hr hi
  cases hv
  exact ⟨b, off, cs, T, rfl, hb, hx⟩
theorem Rd.el' {α : Type} {enc : α → List Value} {k : Nat} (hk : ∀ x, (enc x).length = k) {b off : Nat} {m cap : Nat} {l : List α} {h : Hp} (hr : Rd enc (.slice (some ⟨b, off, none⟩) m cap) l h) {i : Nat} {x : α} (hi : l[i]? = some x) :
    ∃ (cs : List Value) (T : Nat × Nat × Nat), h b = some (.cells cs.toArray T.1 T.2) ∧ ∀ j c, (enc x)[j]? = some c → cs[off + i * k + j]? = some c := by
  obtain ⟨b', off', cs, T, he, hb, hx⟩ := Rd.el hk hr hi
  cases he
  exact ⟨cs, T, hb, hx⟩
theorem flat_drop {α : Type} {enc : α → List Value} {k : Nat} (hk : ∀ x, (enc x).length = k) : ∀ (l : List α) (n j : Nat), (flat enc (l.drop n))[j]? = (flat enc l)[n * k + j]?
  | l, 0, j => by simp
  | [], n + 1, j => by simp [flat]
  | x :: l, n + 1, j => by
    have h1 : (enc x).length = k := hk x
    have ih := flat_drop hk l n j
    have h2 : (n + 1) * k + j = (enc x).length + (n * k + j) := by rw [h1, Nat.add_mul, Nat.one_mul]; omega
    rw [h2]
    simp only [List.drop_succ_cons, flat, List.flatMap_cons] at ih ⊢
    rw [List.getElem?_append_right (by omega), ih]
    congr 1; omega
theorem Rd.drop {α : Type} {enc : α → List Value} {k : Nat} (hk : ∀ x, (enc x).length = k) {b off o' m cap : Nat} {l : List α} {h : Hp} (hr : Rd enc (.slice (some ⟨b, off, none⟩) m cap) l h) {n : Nat} (hn : n ≤ l.length) (ho : n < cap → o' = off + n * k) :
    Rd enc (.slice (some ⟨b, o', none⟩) (m - n) (cap - n)) (l.drop n) h := by
  rcases hr with ⟨hv, _⟩ | ⟨b', off', cap', cs, T, hv, hb, hl, hx⟩
  ·cases hv
  ·cases hv
   refine .inr ⟨b, o', cap - n, cs, T, by simp, hb, by simp; omega, fun j c hj => ?_⟩
   rw [flat_drop hk] at hj
   have h1 : n < l.length := by
     have := (List.getElem?_eq_some_iff.1 hj).1
     rw [flat_length hk] at this
     rcases Nat.lt_or_ge n l.length with h | h
     ·exact h
     ·have := Nat.mul_le_mul_right k h; omega
   rw [ho (by omega), Nat.add_assoc]
   exact hx _ _ hj
theorem flat_take {α : Type} {enc : α → List Value} (l : List α) (n j : Nat) (c : Value) (h : (flat enc (l.take n))[j]? = some c) : (flat enc l)[j]? = some c := by
  have e : flat enc l = flat enc (l.take n) ++ flat enc (l.drop n) := by rw [← flat_append, List.take_append_drop]
  rw [e, List.getElem?_append_left (List.getElem?_eq_some_iff.1 h).1]; exact h
theorem Rd.take {α : Type} {enc : α → List Value} {a : Addr} {m cap : Nat} {l : List α} {h : Hp} (hr : Rd enc (.slice (some a) m cap) l h) {n : Nat} (hn : n ≤ l.length) :
    Rd enc (.slice (some a) n cap) (l.take n) h := by
  rcases hr with ⟨hv, _⟩ | ⟨b', off', cap', cs, T, hv, hb, hl, hx⟩
  ·cases hv
  ·cases hv
   exact .inr ⟨b', off', cap, cs, T, by simp [Nat.min_eq_left hn], hb, by simp; omega, fun j c hj => hx _ _ (flat_take l n j c hj)⟩
theorem rd_of_cel {α : Type} {enc : α → List Value} {w : World} {b : Nat} {cs : List Value} {T : TypeId} (l : List α) (h : w.heap[b]? = some (.cells cs.toArray T (0, 0))) (hc : flat enc l = cs) :
    Rd enc (.slice (some ⟨b, 0, none⟩) l.length l.length) l (hp w) :=
  .inr ⟨b, 0, l.length, cs, (T, 0, 0), rfl, h, Nat.le_refl _, fun j c hj => by rw [Nat.zero_add, ← hc]; exact hj⟩

theorem dt_of {cs vs : List Value} {o : Nat} (h : ∀ (j : Nat) (c : Value), vs[j]? = some c → cs[o + j]? = some c) : (cs.drop o).take vs.length = vs := by
  apply List.ext_getElem?
  intro j
  rw [List.getElem?_take, List.getElem?_drop]
  split
  ·rename_i hj
   rw [List.getElem?_eq_getElem hj]
   exact h j _ (List.getElem?_eq_getElem hj)
  ·rename_i hj
   rw [List.getElem?_eq_none (by omega)]
/-- x[lo:hi] of what may be read. -/
theorem slr_run {P : Program} {e : Env} {w : World} {ty : TypeId} {α : Type} {enc : α → List Value} {k : Nat} (hk : ∀ x, (enc x).length = k) {T E by_ : Nat} {x : Operand} {lo hi : Option Operand} {v : Value} {L : List α} (l h : Nat)
    (ht : elm P T = some (E, k, by_)) (hx : ev e x = v) (hr : Rd enc v L (hp w))
    (hlo : BndIs e lo l 0) (hhi : BndIs e hi h L.length) (h1 : l ≤ h) (h2 : h ≤ L.length) : ∃ v', (∀ w', (xop (ev e) (.slice T x lo hi none) ty).run P w' = .ok (.value v') w') ∧ ∀ g, Rd enc v L g → Rd enc v' ((L.take h).drop l) g := by
  have hr0 := hr
  rcases hr with ⟨rfl, rfl⟩ | ⟨b, off, cap, cs, T', rfl, hb, hc, hx'⟩
  ·have e1 : h = 0 := by simpa using h2
   have e2 : l = 0 := by omega
   subst e1 e2
   obtain ⟨inf, hu, hi', hsz, hby⟩ := elm_spec ht
   refine ⟨.slice none 0 0, fun w => ?_, fun g _ => by simpa using Rd.nil enc _⟩
   have e3 : (Instr.sliceBounds true 0 0 (lo.map (ev e)) (hi.map (ev e)) none).run P w = .ok (0, 0, 0) w := by
     cases lo <;> cases hi <;> simp only [Option.map_none, Option.map_some, BndIs] at hlo hhi ⊢
     ·simp [Instr.sliceBounds]
     ·obtain ⟨kd, hk⟩ := hhi; simp [Instr.sliceBounds, Instr.sliceBound, hk, asIntOf]
     ·obtain ⟨kd, hk⟩ := hlo; simp [Instr.sliceBounds, Instr.sliceBound, hk, asIntOf]
     ·obtain ⟨kd, hk⟩ := hhi; obtain ⟨kd', hk'⟩ := hlo; simp [Instr.sliceBounds, Instr.sliceBound, hk, hk', asIntOf]
   simp only [xop, execOp, Instr.sliceAt, Instr.slice, Sem.run_bind, run_underlying hu, Result.andThen, hx, Option.map_none, e3, run_size hi', Sem.run_pure]
   simp
  ·have hc2 : h ≤ cap := by omega
   refine ⟨.slice (some ⟨b, if cap = l then off else off + l * k, none⟩) (h - l) (cap - l), fun w => ?_, fun g hr0 => ?_⟩
   ·obtain ⟨o', hr, ho, ho2⟩ := r_sl (P := P) (w := w) (ty := ty) ht hx hlo hhi h1 hc2
    by_cases hcl : cap = l
    ·rw [hr, ho2 hcl, if_pos hcl]
    ·rw [hr, ho (by omega), if_neg hcl]
   ·have hr1 := Rd.drop (n := l) (o' := if cap = l then off else off + l * k) hk (Rd.take (n := h) hr0 h2) (by simp; omega) (fun hlt => by rw [if_neg (by omega)])
    exact hr1
theorem o_slr {P : Program} {n : Nat} {e : Env} {w : World} {ops : Array Oper} {K : Env → World → Prop} {ty : TypeId} {α : Type} {enc : α → List Value} {k : Nat} (hk : ∀ x, (enc x).length = k) {i : Nat} {d : Option Tmp} {T E by_ : Nat} {x : Operand} {lo hi : Option Operand} {v : Value} {L : List α} (l h : Nat)
    (hl : Live ops e i d (.slice T x lo hi none) ty) (hd : dOk n d = true) (ht : elm P T = some (E, k, by_)) (hx : ev e x = v) (hr : Rd enc v L (hp w))
    (hlo : BndIs e lo l 0) (hhi : BndIs e hi h L.length) (h1 : l ≤ h) (h2 : h ≤ L.length) (kk : ∀ v', (∀ g, Rd enc v L g → Rd enc v' ((L.take h).drop l) g) → K (updO e d v') w) : OP1 P n ops i K e w :=
  let ⟨v', hr', hv'⟩ := slr_run (P := P) (ty := ty) hk l h ht hx hr hlo hhi h1 h2
  o_v hl hd (hr' w) (kk v' hv')
theorem d_slr {P : Program} {n : Nat} {e : Env} {w : World} {ops : Array Oper} {K : Env → World → Prop} {ty : TypeId} {LP : List Prom} {fuel : Nat} {listed : Array Bool} {α : Type} {enc : α → List Value} {k : Nat} (hk : ∀ x, (enc x).length = k) {i : Nat} {d : Option Tmp} {T E by_ : Nat} {x : Operand} {lo hi : Option Operand} {v : Value} {L : List α} (l h : Nat)
    (hl : Live ops e i d (.slice T x lo hi none) ty) (hd : dOk n d = true) (ht : elm P T = some (E, k, by_)) (hx : ev e x = v) (hr : Rd enc v L (hp w))
    (hlo : BndIs e lo l 0) (hhi : BndIs e hi h L.length) (h1 : l ≤ h) (h2 : h ≤ L.length) (hc : chk0 ops listed i = true) (kk : ∀ v', (∀ g, Rd enc v L g → Rd enc v' ((L.take h).drop l) g) → OPD P n ops LP fuel (listed.setIfInBounds i true) K (updO e d v') w) :
    OPD P n ops LP (fuel + 1) listed K e w :=
  let ⟨v', hr', hv'⟩ := slr_run (P := P) (ty := ty) hk l h ht hx hr hlo hhi h1 h2
  d_p hl hd hr' hc (kk v' hv')
end Go.Proofs.YtkdbglfdgeldpaaGreat
