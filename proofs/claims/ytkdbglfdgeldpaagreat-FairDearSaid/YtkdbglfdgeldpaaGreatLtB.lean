/- The engine, part B: one operation of a statement, a row of them, and a statement whose operations may come in more than one order. Condition: no select, no panic. -/
import Derived.Test.YtkdbglfdgeldpaaGreatLtA
import Derived.OrdersHeld
namespace Go.Lt

def xop (ρ : Operand → Value) (op : Op) (ty : TypeId) : Sem Next := execOp ρ { dst := none, op, type := ty, pos := "", after := #[], guard := none }
theorem xop_eq (ρ : Operand → Value) (o : Oper) : execOp ρ o = xop ρ o.op o.type := by
  obtain ⟨d, op, ty, p, af, g⟩ := o
  cases op <;> rfl

def Quiet0 : Exit → Act → World → Prop := fun _ _ _ => False

/-- Operation i, carried out. -/
def OP1 (P : Program) (n : Nat) (ops : Array Oper) (i : Nat) (K : Env → World → Prop) (e : Env) (w : World) : Prop :=
  ∀ (Q : Exit → Act → World → Prop) a, Fits n e a → wpOp P ops Q i (fun a' w' => ∃ e', Fits n e' a' ∧ K e' w') a w

def OPS (P : Program) (n : Nat) (ops : Array Oper) : List Nat → (Env → World → Prop) → Env → World → Prop
  | [], K => K
  | i :: l, K => OP1 P n ops i (OPS P n ops l K)

def QK (n : Nat) (K : Env → World → Prop) : Exit → Act → World → Prop := fun x a w => x = .normal ∧ ∃ e, Fits n e a ∧ K e w

section
variable {P : Program} {f : FuncId} {R : Ending → World → Prop} {n : Nat} {k : List Item} {e : Env} {w : World} {ops : Array Oper} {K : Env → World → Prop}

theorem OP1.mono {i : Nat} {K' : Env → World → Prop} (hk : ∀ e w, K e w → K' e w) (h : OP1 P n ops i K e w) : OP1 P n ops i K' e w :=
  fun Q a ha => wpOp_mono (fun _ _ ⟨e', hf, hk'⟩ => ⟨e', hf, hk _ _ hk'⟩) (h Q a ha)

theorem OPS.wp : ∀ (l : List Nat) (e : Env) (w : World), OPS P n ops l K e w → ∀ a, Fits n e a → wpOps P ops (QK n K) l a w
  | [], e, w, h, a, ha => ⟨rfl, e, ha, h⟩
  | i :: l, e, w, h, a, ha => by
    rw [wpOps_cons]
    exact wpOp_mono (fun a' w' ⟨e', hf, hk⟩ => OPS.wp l e' w' hk a' hf) (h _ a ha)

theorem G.of_code {c : Code} (h : ∀ a, Fits n e a → c.wp P (QK n (G P f R n k)) a w) : G P f R n (.code c :: k) e w := by
  intro a ha b cs hb hk
  obtain ⟨x, a', w', ⟨hx, e', ha', hg⟩, harr⟩ := h a ha b k cs
  subst hx
  obtain ⟨en, w2, fr, r, c', rest⟩ := hg a' ha' b cs hb hk
  exact ⟨en, w2, fr, r, Comes.of_steps harr c', rest⟩

theorem g_region {id : Nat} {l : List Nat} (hl : List.range ops.size = l) (h : OPS P n ops l (G P f R n k) e w) : G P f R n (.code (.region id ops false) :: k) e w :=
  G.of_code fun a ha => wp_region (by rw [hl]; exact OPS.wp l e w h a ha)

/-- Operation i is there, and is wanted. -/
def Live (ops : Array Oper) (e : Env) (i : Nat) (d : Option Tmp) (op : Op) (ty : TypeId) : Prop :=
  ∃ o, ops[i]? = some o ∧ o.dst = d ∧ o.op = op ∧ o.type = ty ∧
    (o.guard = none ∨ ∃ g t og dg, o.guard = some (g, t) ∧ ops[g]? = some og ∧ og.dst = some dg ∧ e dg = some (.bool t))

theorem lv {i : Nat} {d : Option Tmp} {op : Op} {ty : TypeId} {p : String} {af : Array Edge} (h : ops[i]? = some ⟨d, op, ty, p, af, none⟩) : Live ops e i d op ty :=
  ⟨_, h, rfl, rfl, rfl, .inl rfl⟩
theorem lvg {i : Nat} {d : Option Tmp} {op : Op} {ty : TypeId} {p : String} {af : Array Edge} {g : Nat} {t : Bool} {dg : Tmp} {op' : Op} {ty' : TypeId} {p' : String} {af' : Array Edge} {gu : Option (Nat × Bool)}
    (h : ops[i]? = some ⟨d, op, ty, p, af, some (g, t)⟩) (hg : ops[g]? = some ⟨some dg, op', ty', p', af', gu⟩) (he : e dg = some (.bool t)) : Live ops e i d op ty :=
  ⟨_, h, rfl, rfl, rfl, .inr ⟨g, t, _, dg, rfl, hg, rfl, he⟩⟩

theorem yielded_of {g : Nat} {og : Oper} {dg : Tmp} {t : Bool} {a : Act} (ha : Fits n e a) (hg : ops[g]? = some og) (hd : og.dst = some dg) (he : e dg = some (.bool t)) : yielded ops a.tmps g = some t := by
  have h1 : a.tmps.getD dg undef = .bool t := by rw [ha.get, he]; rfl
  have h2 : a.tmps[dg]? = some (.bool t) := by
    cases hh : a.tmps[dg]? with
    | none => simp [hh, undef] at h1
    | some v => simp [hh] at h1; rw [h1]
  simp [yielded, hg, hd, h2]

theorem Live.wanted {i : Nat} {d : Option Tmp} {op : Op} {ty : TypeId} (h : Live ops e i d op ty) {a : Act} (ha : Fits n e a) :
    ∃ o, ops[i]? = some o ∧ o.dst = d ∧ execOp a.eval o = xop (ev e) op ty ∧ Region.wanted o (yielded ops a.tmps) = true := by
  obtain ⟨o, ho, hd, hop, hty, hg⟩ := h
  refine ⟨o, ho, hd, ?_, ?_⟩
  · rw [xop_eq, hop, hty, ha.eval]
  · rcases hg with hg | ⟨g, t, og, dg, hg, hog, hdg, he⟩
    · simp [Region.wanted, hg]
    · simp [Region.wanted, hg, yielded_of ha hog hdg he]

def dOk (n : Nat) : Option Tmp → Bool
  | some d => Nat.blt d n
  | none => true
theorem dOk_spec {d : Option Tmp} (h : dOk n d = true) : ∀ i, d = some i → i < n := by
  rintro i rfl
  have h' : (i + 1).ble n = true := h
  exact Nat.le_of_ble_eq_true h'

theorem o_v {i : Nat} {d : Option Tmp} {op : Op} {ty : TypeId} {v : Value} {w1 : World} (hl : Live ops e i d op ty) (hd : dOk n d = true)
    (hr : (xop (ev e) op ty).run P w = .ok (.value v) w1) (h : K (updO e d v) w1) : OP1 P n ops i K e w := by
  intro Q a ha
  obtain ⟨o, ho, hod, hx, hw⟩ := hl.wanted ha
  unfold wpOp
  simp only [ho, hw, if_true, Oper.wp, hx, hr, Oper.upon]
  refine .inl ⟨_, ?_, h⟩
  rw [hod]; exact ha.put (dOk_spec hd) v

/-- A value in whatever world comes: for what makes memory. -/
theorem o_w {i : Nat} {d : Option Tmp} {op : Op} {ty : TypeId} (hl : Live ops e i d op ty) (hd : dOk n d = true)
    (hr : ∃ v w1, (xop (ev e) op ty).run P w = .ok (.value v) w1 ∧ K (updO e d v) w1) : OP1 P n ops i K e w :=
  let ⟨_, _, h, hk⟩ := hr
  o_v hl hd h hk

theorem o_s {i : Nat} {d : Option Tmp} {op : Op} {ty : TypeId} {w1 : World} (hl : Live ops e i d op ty) (hd : dOk n d = true)
    (hr : (xop (ev e) op ty).run P w = .ok .skip w1) (h : K (updO e d undef) w1) : OP1 P n ops i K e w := by
  intro Q a ha
  obtain ⟨o, ho, hod, hx, hw⟩ := hl.wanted ha
  unfold wpOp
  simp only [ho, hw, if_true, Oper.wp, hx, hr, Oper.upon]
  refine .inl ⟨_, ?_, h⟩
  rw [hod]; exact ha.put (dOk_spec hd) undef

/-- The guard says no. -/
theorem o_no {i : Nat} {d : Option Tmp} {op : Op} {ty : TypeId} {p : String} {af : Array Edge} {g : Nat} {t : Bool} {dg : Tmp} {op' : Op} {ty' : TypeId} {p' : String} {af' : Array Edge} {gu : Option (Nat × Bool)}
    (ho : ops[i]? = some ⟨d, op, ty, p, af, some (g, t)⟩) (hg : ops[g]? = some ⟨some dg, op', ty', p', af', gu⟩) (he : e dg = some (.bool (!t))) (hd : dOk n d = true)
    (h : K (updO e d undef) w) : OP1 P n ops i K e w := by
  intro Q a ha
  unfold wpOp
  have hw : Region.wanted ⟨d, op, ty, p, af, some (g, t)⟩ (yielded ops a.tmps) = false := by
    simp [Region.wanted, yielded_of ha hg rfl he]
  simp only [ho, hw, Bool.false_eq_true, if_false]
  exact ⟨_, ha.put (dOk_spec hd) undef, h⟩

/-- A guard that is not there either (its own guard said no): nothing is yielded. -/
theorem o_no2 {i : Nat} {d : Option Tmp} {op : Op} {ty : TypeId} {p : String} {af : Array Edge} {g : Nat} {t : Bool} {dg : Tmp} {op' : Op} {ty' : TypeId} {p' : String} {af' : Array Edge} {gu : Option (Nat × Bool)}
    (ho : ops[i]? = some ⟨d, op, ty, p, af, some (g, t)⟩) (hg : ops[g]? = some ⟨some dg, op', ty', p', af', gu⟩) (he : e dg = some undef) (hd : dOk n d = true)
    (h : K (updO e d undef) w) : OP1 P n ops i K e w := by
  intro Q a ha
  unfold wpOp
  have hy : yielded ops a.tmps g = none := by
    have h1 : a.tmps.getD dg undef = undef := by rw [ha.get, he]; rfl
    cases hh : a.tmps[dg]? with
    | none => simp [yielded, hg, hh]
    | some v =>
      simp [hh] at h1
      simp [yielded, hg, hh, h1, undef]
  have hw : Region.wanted ⟨d, op, ty, p, af, some (g, t)⟩ (yielded ops a.tmps) = false := by
    simp [Region.wanted, hy]
  simp only [ho, hw, Bool.false_eq_true, if_false]
  exact ⟨_, ha.put (dOk_spec hd) undef, h⟩

def enters (P : Program) (f : FuncId) : Bool := match P.funcs[f]? with
  | some fn => fn.name != "runtime.NumGoroutine" && fn.body.isSome
  | none => false

theorem run_callFunc {f : FuncId} {args : Array Value} (h : enters P f = true) : (callFunc f args).run P w = .ok (.enter f args) w := by
  unfold enters at h
  split at h
  · rename_i fn hf
    simp only [Bool.and_eq_true, bne_iff_ne] at h
    obtain ⟨h1, h2⟩ := h
    have h3 : (fn.name == "runtime.NumGoroutine") = false := by simpa using h1
    have h4 : fn.body.isNone = false := by cases hb : fn.body <;> simp_all
    have h5 : fn.body ≠ none := by intro hb; rw [hb] at h4; cases h4
    simp [callFunc, hf, h1, h5]
  · simp at h

theorem o_enter {i : Nat} {d : Option Tmp} {op : Op} {ty : TypeId} {f2 : FuncId} {vs : List Value} {Q : Value → World → Prop} (hl : Live ops e i d op ty) (hd : dOk n d = true)
    (hr : (xop (ev e) op ty).run P w = .ok (.enter f2 vs.toArray) w) (hc : Ret P f2 vs w Q) (hk : ∀ v w', Q v w' → K (updO e d v) w') : OP1 P n ops i K e w := by
  intro Q' a ha
  obtain ⟨o, ho, hod, hx, hw⟩ := hl.wanted ha
  unfold wpOp
  simp only [ho, hw, if_true, Oper.wp, hx, hr, Oper.upon]
  refine .inl (Calls.mono hc ?_)
  rintro en w' ⟨v, rfl, hq⟩
  refine ⟨_, ?_, hk v w' hq⟩
  rw [hod]; exact ha.put (dOk_spec hd) v

theorem o_call {i : Nat} {d : Option Tmp} {ty : TypeId} {f2 : FuncId} {as : Array Operand} {ts : Array TypeId} {vs : List Value} {Q : Value → World → Prop}
    (hl : Live ops e i d (.call ⟨.value (.func f2), as, ts⟩) ty) (hd : dOk n d = true) (hen : enters P f2 = true) (hv0 : evl e as.toList = some vs)
    (hc : Ret P f2 vs w Q) (hk : ∀ v w', Q v w' → K (updO e d v) w') : OP1 P n ops i K e w := by
  have hv := evl_map hv0
  refine o_enter hl hd ?_ hc hk
  have h1 : Array.map (ev e) as = vs.toArray := by subst hv; obtain ⟨as⟩ := as; simp
  have h2 : ev e (.func f2) = .func (.func f2) #[] #[] := rfl
  simp [xop, execOp, resolve, h2, Deferred.ofValue, invoke, run_callFunc hen, h1]

theorem o_callv {i : Nat} {d : Option Tmp} {ty : TypeId} {t : Tmp} {f2 : FuncId} {as : Array Operand} {ts : Array TypeId} {vs : List Value} {first cap us : List Value} {Q : Value → World → Prop}
    (hl : Live ops e i d (.call ⟨.value (.tmp t), as, ts⟩) ty) (hd : dOk n d = true) (hf : e t = some (.func (.func f2) first.toArray cap.toArray)) (hen : enters P f2 = true)
    (hv0 : evl e as.toList = some us) (hv1 : first ++ (us ++ cap) = vs)
    (hc : Ret P f2 vs w Q) (hk : ∀ v w', Q v w' → K (updO e d v) w') : OP1 P n ops i K e w := by
  have hv : first ++ (as.toList.map (ev e) ++ cap) = vs := by rw [evl_map hv0]; exact hv1
  refine o_enter hl hd ?_ hc hk
  have h1 : first.toArray ++ Array.map (ev e) as ++ cap.toArray = vs.toArray := by subst hv; obtain ⟨as⟩ := as; simp
  simp only [xop, execOp, resolve, ev, evo, hf, Option.getD_some, Deferred.ofValue, Sem.run_bind, Sem.run_pure, Result.andThen, invoke, run_callFunc hen]
  rw [h1]

/-! ### Statements whose order is open -/

abbrev Prom := (World → Prop) × List Nat
def Keeps (L : List Prom) (j : Nat) (w w' : World) : Prop := match L with
  | [] => True
  | p :: L => (p.2.contains j = false → p.1 w → p.1 w') ∧ Keeps L j w w'

theorem Keeps.of_mem {L : List Prom} {j : Nat} {w w' : World} (h : Keeps L j w w') : ∀ p ∈ L, p.2.contains j = false → p.1 w → p.1 w' := by
  induction L with
  | nil => intro p hp; cases hp
  | cons q L ih =>
    intro p hp
    rcases List.mem_cons.1 hp with rfl | hp
    · exact h.1
    · exact ih h.2 p hp
theorem Keeps.same {j : Nat} {w : World} : ∀ (L : List Prom), Keeps L j w w
  | [] => trivial
  | _ :: L => ⟨fun _ h => h, Keeps.same L⟩

def wpAnyP (P : Program) (ops : Array Oper) (Q : Exit → Act → World → Prop) (L : List Prom) : Nat → Array Bool → Act → World → Prop
  | 0, listed, a, w => Region.ready .any ops listed = [] ∧ Q .normal a w
  | fuel + 1, listed, a, w =>
    (Region.ready .any ops listed = [] → Q .normal a w) ∧
    ∀ i ∈ Region.ready .any ops listed, wpOp P ops Q i (fun a' w' => Keeps L i w w' ∧ wpAnyP P ops Q L fuel (listed.setIfInBounds i true) a' w') a w

variable {Q : Exit → Act → World → Prop} {L : List Prom}

theorem wpAnyP.any : ∀ (fuel : Nat) (listed : Array Bool) (a : Act) (w : World), wpAnyP P ops Q L fuel listed a w → wpAny P .any ops Q fuel listed a w
  | 0, _, _, _, h => h
  | fuel + 1, _, _, _, h => ⟨h.1, fun i hi => wpOp_mono (fun a' w' h' => wpAnyP.any fuel _ a' w' h'.2) (h.2 i hi)⟩

theorem wpAnyP.less {p : Prom} : ∀ (fuel : Nat) (listed : Array Bool) (a : Act) (w : World), wpAnyP P ops Q (p :: L) fuel listed a w → wpAnyP P ops Q L fuel listed a w
  | 0, _, _, _, h => h
  | fuel + 1, _, _, _, h => ⟨h.1, fun i hi => wpOp_mono (fun a' w' h' => ⟨h'.1.2, wpAnyP.less fuel _ a' w' h'.2⟩) (h.2 i hi)⟩

/-- Operation d waits for operation i, by a chain of at most 'fuel' edges. -/
def reachB (ops : Array Oper) (i : Nat) : Nat → Nat → Bool
  | 0, _ => false
  | fuel + 1, d => match ops[d]? with
    | some o => o.after.any fun x => Region.binds .any x && (x.on == i || reachB ops i fuel x.on)
    | none => false
def closedB (ops : Array Oper) (listed : Array Bool) : Bool :=
  (List.range ops.size).all fun j => !listed.getD j false || match ops[j]? with
    | some o => o.after.all fun x => !Region.binds .any x || listed.getD x.on false
    | none => true
def lastB (ops : Array Oper) (listed : Array Bool) (ds : List Nat) (i : Nat) : Bool :=
  ds.all fun d => listed.getD d true || reachB ops i ops.size d
def Closed (ops : Array Oper) (listed : Array Bool) : Prop :=
  ∀ j oj, ops[j]? = some oj → listed.getD j false = true → ∀ x ∈ oj.after, Region.binds .any x = true → listed.getD x.on false = true

theorem closedB_spec {listed : Array Bool} (h : closedB ops listed = true) : Closed ops listed := by
  intro j oj hj hl x he hb
  have hlt : j < ops.size := (Array.getElem?_eq_some_iff.1 hj).1
  have h1 := List.all_eq_true.1 h j (List.mem_range.2 hlt)
  simp only [hl, hj, Bool.not_true, Bool.false_or] at h1
  have h2 := Array.all_eq_true_iff_forall_mem.1 h1 x he
  simpa [hb] using h2

theorem Closed.set {listed : Array Bool} {i : Nat} (h : Closed ops listed) (hi : i ∈ Region.ready .any ops listed) : Closed ops (listed.setIfInBounds i true) := by
  obtain ⟨_, oi, hoi, hall⟩ := mem_ready.1 hi
  intro j oj hj hl x he hb
  by_cases hij : i = j
  · subst hij
    have : oj = oi := Option.some.inj (hj.symm.trans hoi)
    subst this
    exact getD_set_true (hall x he hb)
  · rw [getD_set_ne false hij] at hl
    exact getD_set_true (h j oj hj hl x he hb)

theorem reach_listed {listed : Array Bool} {i : Nat} (hc : Closed ops listed) : ∀ (fuel d : Nat), reachB ops i fuel d = true → listed.getD d false = true → listed.getD i false = true
  | 0, _, h, _ => by simp [reachB] at h
  | fuel + 1, d, h, hl => by
    unfold reachB at h
    cases ho : ops[d]? with
    | none => rw [ho] at h; simp at h
    | some o =>
      rw [ho] at h
      obtain ⟨x, he, h1⟩ := Array.any_eq_true'.1 h
      simp only [Bool.and_eq_true, Bool.or_eq_true, beq_iff_eq] at h1
      have hle := hc d o ho hl x he h1.1
      rcases h1.2 with h2 | h2
      · rw [← h2]; exact hle
      · exact reach_listed hc fuel x.on h2 hle

theorem reach_not_ready {listed : Array Bool} {i d fuel : Nat} (hc : Closed ops listed) (hr : reachB ops i fuel d = true) (hun : listed.getD i true = false) : d ∉ Region.ready .any ops listed := by
  intro hd
  obtain ⟨_, o, ho, hall⟩ := mem_ready.1 hd
  have hi : listed.getD i false = true := by
    cases fuel with
    | zero => simp [reachB] at hr
    | succ m =>
      unfold reachB at hr
      rw [ho] at hr
      obtain ⟨x, he, h1⟩ := Array.any_eq_true'.1 hr
      simp only [Bool.and_eq_true, Bool.or_eq_true, beq_iff_eq] at h1
      have hle := hall x he h1.1
      rcases h1.2 with h2 | h2
      · rw [← h2]; exact hle
      · exact reach_listed hc m x.on h2 hle
  rcases Nat.lt_or_ge i listed.size with h' | h'
  · simp [h'] at hun hi
    rw [hun] at hi
    cases hi
  · simp [Array.getElem?_eq_none h'] at hun

theorem wpAnyP_first {S : World → Prop} {ds : List Nat} {i : Nat} {oi : Oper} {v : Value} (hi : ops[i]? = some oi) (hsel : ∀ (j : Nat) (o : Oper) cs b, ops[j]? = some o → o.op ≠ .select cs b)
    (hQ : ∀ c a w, Q (.panic c) (a.put oi.dst v) w → Q (.panic c) a w) (m : Nat) (hmem : (S, ds) ∈ L) :
    ∀ (fuel : Nat) (listed : Array Bool) (a : Act) (w : World),
      (∀ j oj, ops[j]? = some oj → j ≠ i → listed.getD j true = false → (∀ x ∈ oj.after, Region.binds .any x = true → x.on ≠ i) → oi.apart ops oj = true) →
      Closed ops listed → (∀ d ∈ ds, listed.getD d true = false → reachB ops i m d = true) →
      i ∈ Region.ready .any ops listed → YieldsIf P ops S oi v a → S w →
      wpAnyP P ops Q L fuel (listed.setIfInBounds i true) (a.put oi.dst v) w → wpAnyP P ops Q L (fuel + 1) listed a w := by
  intro fuel
  induction fuel with
  | zero =>
    intro listed a w _ _ _ hr hy hS H
    refine ⟨fun h => (by rw [h] at hr; cases hr), fun j hj => ?_⟩
    by_cases hji : j = i
    · subst hji; exact hy.wpOp hi hS ⟨Keeps.same L, H⟩
    · have := ready_mono hj hji
      rw [H.1] at this
      cases this
  | succ fuel ih =>
    intro listed a w hfree hc hd hr hy hS H
    refine ⟨fun h => (by rw [h] at hr; cases hr), fun j hj => ?_⟩
    by_cases hji : j = i
    · subst hji; exact hy.wpOp hi hS ⟨Keeps.same L, H⟩
    · have h1 := H.2 j (ready_mono hj hji)
      obtain ⟨hjun, oj, hoj, hall⟩ := mem_ready.1 hj
      have hiun := (mem_ready.1 hr).1
      have hnot : ∀ x ∈ oj.after, Region.binds .any x = true → x.on ≠ i := fun x he hb heq => by
        have h1 := hall x he hb
        rw [heq] at h1
        rcases Nat.lt_or_ge i listed.size with h' | h'
        · simp [h'] at hiun h1; rw [hiun] at h1; cases h1
        · simp [Array.getElem?_eq_none h'] at h1
      have hjd : ds.contains j = false := by
        cases hh : ds.contains j
        · rfl
        · exact absurd hj (reach_not_ready hc (hd j (by simpa using hh) hjun) hiun)
      have h2 := wpOp_putIf hoj (hfree j oj hoj hji hjun hnot) (fun cs b => hsel i oi cs b hi) (fun cs b => hsel j oj cs b hoj) hQ hy h1
      have hfree' : ∀ k ok, ops[k]? = some ok → k ≠ i → (listed.setIfInBounds j true).getD k true = false →
          (∀ x ∈ ok.after, Region.binds .any x = true → x.on ≠ i) → oi.apart ops ok = true := fun k ok hk hki hun hno => by
        refine hfree k ok hk hki ?_ hno
        by_cases hjk : j = k
        · subst hjk; exact hjun
        · rw [getD_set_ne true hjk] at hun; exact hun
      have hd' : ∀ d ∈ ds, (listed.setIfInBounds j true).getD d true = false → reachB ops i m d = true := fun d hm hun => by
        refine hd d hm ?_
        by_cases hjk : j = d
        · subst hjk; exact hjun
        · rw [getD_set_ne true hjk] at hun; exact hun
      refine wpOp_mono (fun a' w' h3 => ⟨h3.2.1, ih (listed.setIfInBounds j true) a' w' hfree' (hc.set hj) hd' (ready_mono hr (Ne.symm hji)) h3.1 (h3.2.1.of_mem _ hmem hjd hS) ?_⟩) h2
      rw [Array.setIfInBounds_comm _ _ hji]
      exact h3.2.2

theorem wpAnyP_any {i : Nat} {oi : Oper} {v : Value} (hi : ops[i]? = some oi) (hsel : ∀ (j : Nat) (o : Oper) cs b, ops[j]? = some o → o.op ≠ .select cs b)
    (hQ : ∀ c a w, Q (.panic c) (a.put oi.dst v) w → Q (.panic c) a w) :
    ∀ (fuel : Nat) (listed : Array Bool) (a : Act) (w : World),
      (∀ j oj, ops[j]? = some oj → j ≠ i → listed.getD j true = false → (∀ x ∈ oj.after, Region.binds .any x = true → x.on ≠ i) → oi.apart ops oj = true) →
      i ∈ Region.ready .any ops listed → Yields P ops oi v a →
      wpAnyP P ops Q L fuel (listed.setIfInBounds i true) (a.put oi.dst v) w → wpAnyP P ops Q L (fuel + 1) listed a w := by
  intro fuel
  induction fuel with
  | zero =>
    intro listed a w _ hr hy H
    refine ⟨fun h => (by rw [h] at hr; cases hr), fun j hj => ?_⟩
    by_cases hji : j = i
    · subst hji; exact (hy.yieldsIf (S := fun _ => True)).wpOp hi trivial ⟨Keeps.same L, H⟩
    · have := ready_mono hj hji
      rw [H.1] at this
      cases this
  | succ fuel ih =>
    intro listed a w hfree hr hy H
    refine ⟨fun h => (by rw [h] at hr; cases hr), fun j hj => ?_⟩
    by_cases hji : j = i
    · subst hji; exact (hy.yieldsIf (S := fun _ => True)).wpOp hi trivial ⟨Keeps.same L, H⟩
    · have h1 := H.2 j (ready_mono hj hji)
      obtain ⟨hjun, oj, hoj, hall⟩ := mem_ready.1 hj
      have hiun := (mem_ready.1 hr).1
      have hnot : ∀ x ∈ oj.after, Region.binds .any x = true → x.on ≠ i := fun x he hb heq => by
        have h1 := hall x he hb
        rw [heq] at h1
        rcases Nat.lt_or_ge i listed.size with h' | h'
        · simp [h'] at hiun h1; rw [hiun] at h1; cases h1
        · simp [Array.getElem?_eq_none h'] at h1
      have h2 := wpOp_put hoj (hfree j oj hoj hji hjun hnot) (fun cs b => hsel i oi cs b hi) (fun cs b => hsel j oj cs b hoj) hQ hy h1
      have hfree' : ∀ k ok, ops[k]? = some ok → k ≠ i → (listed.setIfInBounds j true).getD k true = false →
          (∀ x ∈ ok.after, Region.binds .any x = true → x.on ≠ i) → oi.apart ops ok = true := fun k ok hk hki hun hno => by
        refine hfree k ok hk hki ?_ hno
        by_cases hjk : j = k
        · subst hjk; exact hjun
        · rw [getD_set_ne true hjk] at hun; exact hun
      refine wpOp_mono (fun a' w' h3 => ⟨h3.2.1, ih (listed.setIfInBounds j true) a' w' hfree' (ready_mono hr (Ne.symm hji)) h3.1 ?_⟩) h2
      rw [Array.setIfInBounds_comm _ _ hji]
      exact h3.2.2

def OPD (P : Program) (n : Nat) (ops : Array Oper) (L : List Prom) (fuel : Nat) (listed : Array Bool) (K : Env → World → Prop) (e : Env) (w : World) : Prop :=
  ∀ a, Fits n e a → wpAnyP P ops (QK n K) L fuel listed a w

def chk0 (ops : Array Oper) (listed : Array Bool) (i : Nat) : Bool := Region.noSelect ops && Region.free .any ops listed i && (Region.ready .any ops listed).contains i
def chk (ops : Array Oper) (listed : Array Bool) (ds : List Nat) (i : Nat) : Bool := chk0 ops listed i && closedB ops listed && lastB ops listed ds i

theorem g_regionD {id : Nat} (hm : P.follows .mixedOrders = true) (h : ∀ w1, w1 = { w with drawn := w.drawn + 1 } → OPD P n ops [] ops.size (Array.replicate ops.size false) (G P f R n k) e w1) :
    G P f R n (.code (.region id ops true) :: k) e w :=
  G.of_code fun a ha => wp_region_any hm (wpAnyP.any _ _ _ _ (h _ rfl a ha))

theorem QK_panic {c : List PanicEntry} {a a' : Act} {w : World} (h : QK n K (.panic c) a w) : QK n K (.panic c) a' w := by
  have := h.1; cases this

/-- A pure operation, first. -/
theorem d_p {i : Nat} {d : Option Tmp} {op : Op} {ty : TypeId} {v : Value} {fuel : Nat} {listed : Array Bool} (hl : Live ops e i d op ty) (hd : dOk n d = true)
    (hr : ∀ w, (xop (ev e) op ty).run P w = .ok (.value v) w) (hc : chk0 ops listed i = true) (h : OPD P n ops L fuel (listed.setIfInBounds i true) K (updO e d v) w) :
    OPD P n ops L (fuel + 1) listed K e w := by
  intro a ha
  obtain ⟨o, ho, hod, hx, hw⟩ := hl.wanted ha
  simp only [chk0, Bool.and_eq_true] at hc
  refine wpAnyP_any ho (Region.noSelect_spec hc.1.1) (fun c a w => QK_panic) fuel listed a w (Region.free_spec ho hc.1.2) (by simpa using hc.2) (.inl ⟨hw, fun w => by rw [hx]; exact hr w⟩) ?_
  refine h _ ?_
  rw [hod]; exact ha.put (dOk_spec hd) v

/-- An operation that yields wherever S holds, first; each of ds waits for it, all others keep S. -/
theorem d_q {i : Nat} {d : Option Tmp} {op : Op} {ty : TypeId} {v : Value} {fuel : Nat} {listed : Array Bool} (S : World → Prop) (ds : List Nat) (hl : Live ops e i d op ty) (hd : dOk n d = true)
    (hr : ∀ w, S w → (xop (ev e) op ty).run P w = .ok (.value v) w) (hS : S w) (hc : chk ops listed ds i = true)
    (h : OPD P n ops ((S, ds) :: L) fuel (listed.setIfInBounds i true) K (updO e d v) w) :
    OPD P n ops L (fuel + 1) listed K e w := by
  intro a ha
  obtain ⟨o, ho, hod, hx, hw⟩ := hl.wanted ha
  simp only [chk, chk0, Bool.and_eq_true] at hc
  refine wpAnyP.less (p := (S, ds)) _ _ _ _ (wpAnyP_first ho (Region.noSelect_spec hc.1.1.1.1) (fun c a w => QK_panic) ops.size (List.mem_cons_self ..) fuel listed a w (Region.free_spec ho hc.1.1.1.2)
    (closedB_spec hc.1.2) (fun d hm hun => ?_) (by simpa using hc.1.1.2) (.inl ⟨hw, fun w hs => by rw [hx]; exact hr w hs⟩) hS (h _ ?_))
  · have := List.all_eq_true.1 hc.2 d hm; rw [hun] at this; simpa using this
  · rw [hod]; exact ha.put (dOk_spec hd) v

/-- A guard that says no. -/
theorem d_no {i : Nat} {d : Option Tmp} {op : Op} {ty : TypeId} {p : String} {af : Array Edge} {g : Nat} {t : Bool} {dg : Tmp} {op' : Op} {ty' : TypeId} {p' : String} {af' : Array Edge} {gu : Option (Nat × Bool)}
    {fuel : Nat} {listed : Array Bool} (ho : ops[i]? = some ⟨d, op, ty, p, af, some (g, t)⟩) (hg : ops[g]? = some ⟨some dg, op', ty', p', af', gu⟩) (he : e dg = some (.bool (!t))) (hd : dOk n d = true)
    (hc : chk0 ops listed i = true) (h : OPD P n ops L fuel (listed.setIfInBounds i true) K (updO e d undef) w) : OPD P n ops L (fuel + 1) listed K e w := by
  intro a ha
  simp only [chk0, Bool.and_eq_true] at hc
  have hw : Region.wanted ⟨d, op, ty, p, af, some (g, t)⟩ (yielded ops a.tmps) = false := by
    simp [Region.wanted, yielded_of ha hg rfl he]
  refine wpAnyP_any ho (Region.noSelect_spec hc.1.1) (fun c a w => QK_panic) fuel listed a w (Region.free_spec ho hc.1.2) (by simpa using hc.2) (.inr ⟨hw, rfl⟩) ?_
  exact h _ (ha.put (dOk_spec hd) undef)

theorem d_no2 {i : Nat} {d : Option Tmp} {op : Op} {ty : TypeId} {p : String} {af : Array Edge} {g : Nat} {t : Bool} {dg : Tmp} {op' : Op} {ty' : TypeId} {p' : String} {af' : Array Edge} {gu : Option (Nat × Bool)}
    {fuel : Nat} {listed : Array Bool} (ho : ops[i]? = some ⟨d, op, ty, p, af, some (g, t)⟩) (hg : ops[g]? = some ⟨some dg, op', ty', p', af', gu⟩) (he : e dg = some undef) (hd : dOk n d = true)
    (hc : chk0 ops listed i = true) (h : OPD P n ops L fuel (listed.setIfInBounds i true) K (updO e d undef) w) : OPD P n ops L (fuel + 1) listed K e w := by
  intro a ha
  simp only [chk0, Bool.and_eq_true] at hc
  have hy : yielded ops a.tmps g = none := by
    have h1 : a.tmps.getD dg undef = undef := by rw [ha.get, he]; rfl
    cases hh : a.tmps[dg]? with
    | none => simp [yielded, hg, hh]
    | some v =>
      simp [hh] at h1
      simp [yielded, hg, hh, h1, undef]
  have hw : Region.wanted ⟨d, op, ty, p, af, some (g, t)⟩ (yielded ops a.tmps) = false := by
    simp [Region.wanted, hy]
  refine wpAnyP_any ho (Region.noSelect_spec hc.1.1) (fun c a w => QK_panic) fuel listed a w (Region.free_spec ho hc.1.2) (by simpa using hc.2) (.inr ⟨hw, rfl⟩) ?_
  exact h _ (ha.put (dOk_spec hd) undef)

/-- All that may come next: one operation alone. -/
theorem d_l {j : Nat} {fuel : Nat} {listed : Array Bool} (hr : Region.ready .any ops listed = [j])
    (h : OP1 P n ops j (fun e' w' => Keeps L j w w' ∧ OPD P n ops L fuel (listed.setIfInBounds j true) K e' w') e w) : OPD P n ops L (fuel + 1) listed K e w := by
  intro a ha
  refine ⟨fun h0 => (by rw [hr] at h0; cases h0), fun i hi => ?_⟩
  rw [hr] at hi
  have : i = j := by simpa using hi
  subst this
  exact wpOp_mono (fun a' w' ⟨e', hf, hk, ho⟩ => ⟨hk, ho a' hf⟩) (h _ a ha)

/-- One of two may come next. -/
theorem d_l2 {j j2 : Nat} {fuel : Nat} {listed : Array Bool} (hr : Region.ready .any ops listed = [j, j2])
    (h : OP1 P n ops j (fun e' w' => Keeps L j w w' ∧ OPD P n ops L fuel (listed.setIfInBounds j true) K e' w') e w)
    (h2 : OP1 P n ops j2 (fun e' w' => Keeps L j2 w w' ∧ OPD P n ops L fuel (listed.setIfInBounds j2 true) K e' w') e w) : OPD P n ops L (fuel + 1) listed K e w := by
  intro a ha
  refine ⟨fun h0 => (by rw [hr] at h0; cases h0), fun i hi => ?_⟩
  rw [hr] at hi
  rcases List.mem_cons.1 hi with rfl | hi
  · exact wpOp_mono (fun a' w' ⟨e', hf, hk, ho⟩ => ⟨hk, ho a' hf⟩) (h _ a ha)
  · have : i = j2 := by simpa using hi
    subst this
    exact wpOp_mono (fun a' w' ⟨e', hf, hk, ho⟩ => ⟨hk, ho a' hf⟩) (h2 _ a ha)

theorem d_end {fuel : Nat} {listed : Array Bool} (hr : Region.ready .any ops listed = []) (h : K e w) : OPD P n ops L fuel listed K e w := by
  intro a ha
  cases fuel with
  | zero => exact ⟨hr, ⟨rfl, e, ha, h⟩⟩
  | succ fuel => exact ⟨fun _ => ⟨rfl, e, ha, h⟩, fun i hi => by rw [hr] at hi; cases hi⟩

theorem keeps_cons {S : World → Prop} {ds : List Nat} {j : Nat} {w w' : World} (h1 : S w → S w') (h2 : Keeps L j w w') : Keeps ((S, ds) :: L) j w w' := ⟨fun _ => h1, h2⟩
theorem keeps_in {S : World → Prop} {ds : List Nat} {j : Nat} {w w' : World} (h1 : ds.contains j = true) (h2 : Keeps L j w w') : Keeps ((S, ds) :: L) j w w' :=
  ⟨fun h => absurd (h1.symm.trans h) (by simp), h2⟩

theorem s_ops {l : List Nat} {d : Option Tmp} {p : Prop} [Decidable p] (h1 : p → OPS P n ops l K (updO e d (.bool true)) w) (h2 : ¬ p → OPS P n ops l K (updO e d (.bool false)) w) : OPS P n ops l K (updO e d (.bool (decide p))) w := by
  by_cases h : p
  · rw [decide_eq_true h]; exact h1 h
  · rw [decide_eq_false h]; exact h2 h
theorem s_opsb {l : List Nat} {d : Option Tmp} {b : Bool} (h1 : b = true → OPS P n ops l K (updO e d (.bool true)) w) (h2 : b = false → OPS P n ops l K (updO e d (.bool false)) w) : OPS P n ops l K (updO e d (.bool b)) w := by
  cases b
  · exact h2 rfl
  · exact h1 rfl
theorem s_opd {fuel : Nat} {listed : Array Bool} {d : Option Tmp} {p : Prop} [Decidable p] (h1 : p → OPD P n ops L fuel listed K (updO e d (.bool true)) w) (h2 : ¬ p → OPD P n ops L fuel listed K (updO e d (.bool false)) w) :
    OPD P n ops L fuel listed K (updO e d (.bool (decide p))) w := by
  by_cases h : p
  · rw [decide_eq_true h]; exact h1 h
  · rw [decide_eq_false h]; exact h2 h
theorem s_opdb {fuel : Nat} {listed : Array Bool} {d : Option Tmp} {b : Bool} (h1 : b = true → OPD P n ops L fuel listed K (updO e d (.bool true)) w) (h2 : b = false → OPD P n ops L fuel listed K (updO e d (.bool false)) w) :
    OPD P n ops L fuel listed K (updO e d (.bool b)) w := by
  cases b
  · exact h2 rfl
  · exact h1 rfl
end
end Go.Lt
