/- The engine, part A: what it is that a function's code, from where it stands, comes to an ending that is wanted; one rule for each form of code and for single operations. Condition: one goroutine, no deferred call. -/
import Derived.Orders
import Derived.KernelRfl
import Derived.Laws.Sem
namespace Go.Lt

abbrev Env := Nat → Option Value
def upd (e : Env) (i : Nat) (v : Value) : Env := fun j => bif Nat.beq j i then some v else e j
def updO (e : Env) (d : Option Tmp) (v : Value) : Env := match d with | some i => upd e i v | none => e
def evo (e : Env) : Operand → Option Value
  | .tmp t => e t
  | .const v => some v
  | .global g => some (.pointer (some ⟨g, 0, none⟩))
  | .func f => some (.func (.func f) #[] #[])
def ev (e : Env) (x : Operand) : Value := (evo e x).getD undef
def evl (e : Env) : List Operand → Option (List Value)
  | [] => some []
  | x :: xs => match evo e x with
    | some v => match evl e xs with
      | some vs => some (v :: vs)
      | none => none
    | none => none
def evs (e : Env) : List (Nat × Operand) → Option (List (Nat × Value))
  | [] => some []
  | (i, x) :: xs => match evo e x with
    | some v => match evs e xs with
      | some vs => some ((i, v) :: vs)
      | none => none
    | none => none
theorem ev_of {e : Env} {x : Operand} {v : Value} (h : evo e x = some v) : ev e x = v := by simp [ev, h]

theorem evl_map {e : Env} : ∀ {as : List Operand} {vs : List Value}, evl e as = some vs → as.map (ev e) = vs
  | [], vs, h => by simp [evl] at h; subst h; rfl
  | x :: xs, vs, h => by
    unfold evl at h
    split at h <;> try (cases h; done)
    rename_i v hv
    split at h <;> try (cases h; done)
    rename_i us hus
    cases h
    rw [List.map_cons, ev_of hv, evl_map hus]
theorem evs_map {e : Env} : ∀ {as : List (Nat × Operand)} {vs : List (Nat × Value)}, evs e as = some vs → as.map (fun p => (p.1, ev e p.2)) = vs
  | [], vs, h => by simp [evs] at h; subst h; rfl
  | (i, x) :: xs, vs, h => by
    unfold evs at h
    split at h <;> try (cases h; done)
    rename_i v hv
    split at h <;> try (cases h; done)
    rename_i us hus
    cases h
    rw [List.map_cons, ev_of hv, evs_map hus]
def envOf (a : Act) : Env := fun i => if i < a.tmps.size then a.tmps[i]? else none
structure Fits (n : Nat) (e : Env) (a : Act) : Prop where
  defers : a.defers = []
  size : a.tmps.size = n
  env : envOf a = e

theorem Fits.eval {n : Nat} {e : Env} {a : Act} (h : Fits n e a) : a.eval = ev e := by
  funext x
  cases x with
  | tmp t =>
    simp only [ev, evo, ← h.env, envOf, Act.eval, Array.getD_eq_getD_getElem?]
    split
    · rfl
    · rename_i hn; rw [Array.getElem?_eq_none (Nat.le_of_not_lt hn)]
  | _ => rfl
theorem Fits.get {n : Nat} {e : Env} {a : Act} (h : Fits n e a) (t : Nat) : a.tmps.getD t undef = (e t).getD undef := by
  have := congrFun h.eval (.tmp t)
  exact this

theorem Fits.put {n : Nat} {e : Env} {a : Act} (h : Fits n e a) {d : Option Tmp} (hd : ∀ i, d = some i → i < n) (v : Value) : Fits n (updO e d v) (a.put d v) := by
  cases d with
  | none => exact h
  | some i =>
    have hi := hd i rfl
    refine ⟨h.defers, ?_, ?_⟩
    · simp [Act.put, h.size]
    · funext j
      rw [← h.env]
      simp only [envOf, Act.put, updO, upd, Array.size_setIfInBounds]
      by_cases hj : j = i
      · subst hj
        have : j < a.tmps.size := by rw [h.size]; exact hi
        simp [this]
      · have hb : Nat.beq j i = false := by
          cases hh : Nat.beq j i
          · rfl
          · exact absurd (Nat.eq_of_beq_eq_true hh) hj
        simp [hb, Array.getElem?_setIfInBounds_ne (Ne.symm hj)]

theorem upd_self (e : Env) (i : Nat) {v : Value} (h : e i = some v) : upd e i v = e := by
  funext j
  unfold upd
  cases hh : Nat.beq j i
  · rfl
  · have := Nat.eq_of_beq_eq_true hh
    subst this
    exact h.symm

/-- Some slots hold these; of the others nothing is said. -/
def J (e : Env) (l : List (Nat × Value)) : Env := l.foldl (fun e p => upd e p.1 p.2) e
def Has (e : Env) : List (Nat × Value) → Prop
  | [] => True
  | p :: l => e p.1 = some p.2 ∧ Has e l
theorem J_self {e : Env} : ∀ {l : List (Nat × Value)}, Has e l → e = J e l
  | [], _ => rfl
  | p :: l, h => by
    have h1 := upd_self e p.1 h.1
    show e = J (upd e p.1 p.2) l
    rw [h1]; exact J_self h.2
theorem has_0 {e : Env} : Has e [] := trivial
theorem has_s {e : Env} {i : Nat} {v : Value} {l : List (Nat × Value)} (h : e i = some v) (h2 : Has e l) : Has e ((i, v) :: l) := ⟨h, h2⟩

/-- What a function's frame comes to from the items that are left. -/
def G (P : Program) (f : FuncId) (R : Ending → World → Prop) (n : Nat) (todo : List Item) (e : Env) (w : World) : Prop :=
  ∀ a, Fits n e a → ∀ (b : Frame) (cs : List Frame), b.fn = f → b.kind = .normal →
    ∃ en w' fr, R en w' ∧ Comes P (lone (b.at a todo) cs w) (lone fr cs w') en ∧ fr.fn = f ∧ fr.leaving P w' en

section
variable {P : Program} {f : FuncId} {R : Ending → World → Prop} {n : Nat} {k : List Item} {e : Env} {w : World}

theorem G.step {todo todo' : List Item} {w' : World} (hs : ∀ (a : Act) (b : Frame) (cs : List Frame), Fits n e a → b.kind = .normal → step P (lone (b.at a todo) cs w) = .next (lone (b.at a todo') cs w'))
    (h : G P f R n todo' e w') : G P f R n todo e w := by
  intro a ha b cs hf hk
  obtain ⟨en, w2, fr, r, c, rest⟩ := h a ha b cs hf hk
  exact ⟨en, w2, fr, r, Comes.of_steps (.one (hs a b cs ha hk)) c, rest⟩

theorem g_seq {x y : Code} (h : G P f R n (.code x :: .code y :: k) e w) : G P f R n (.code (.seq x y) :: k) e w := G.step (fun _ _ _ _ _ => step_seq) h
theorem g_skip (h : G P f R n k e w) : G P f R n (.code .skip :: k) e w := G.step (fun _ _ _ _ _ => step_skip) h
theorem g_label {l : Nat} (h : G P f R n k e w) : G P f R n (.code (.label l) :: k) e w := G.step (fun _ _ _ _ _ => step_label) h
theorem g_inBlock {id : Nat} (h : G P f R n k e w) : G P f R n (.inBlock id :: k) e w := G.step (fun _ _ _ _ _ => step_inBlock) h
theorem g_block {id : Nat} {c : Code} (h : G P f R n (.code c :: .inBlock id :: k) e w) : G P f R n (.code (.block id c) :: k) e w := G.step (fun _ _ _ _ _ => step_block) h
theorem g_exit {id : Nat} {k' : List Item} (hx : exitTo id k = some k') (h : G P f R n k' e w) : G P f R n (.code (.exit id) :: k) e w := G.step (fun _ _ _ _ _ => step_exit hx) h
theorem g_cond {c : Operand} {x y : Code} {t : Bool} (hc : ev e c = .bool t) (h1 : t = true → G P f R n (.code x :: k) e w) (h2 : t = false → G P f R n (.code y :: k) e w) :
    G P f R n (.code (.cond c x y) :: k) e w := by
  refine G.step (todo' := .code (if t then x else y) :: k) (w' := w) (fun a b cs ha _ => step_cond (by rw [ha.eval]; exact hc)) ?_
  cases t
  · exact h2 rfl
  · exact h1 rfl
theorem g_true {c : Operand} {x y : Code} (hc : ev e c = .bool true) (h : G P f R n (.code x :: k) e w) : G P f R n (.code (.cond c x y) :: k) e w :=
  g_cond hc (fun _ => h) (fun h => by cases h)
theorem g_false {c : Operand} {x y : Code} (hc : ev e c = .bool false) (h : G P f R n (.code y :: k) e w) : G P f R n (.code (.cond c x y) :: k) e w :=
  g_cond hc (fun h => by cases h) (fun _ => h)
theorem g_if {c : Operand} {x y : Code} {p : Prop} [Decidable p] (hc : ev e c = .bool (decide p)) (h1 : p → G P f R n (.code x :: k) e w) (h2 : ¬ p → G P f R n (.code y :: k) e w) :
    G P f R n (.code (.cond c x y) :: k) e w :=
  g_cond hc (fun h => h1 (of_decide_eq_true h)) (fun h => h2 (of_decide_eq_false h))

theorem g_unroll {c : Code} (h : G P f R n (.code c :: .inLoop c :: k) e w) : G P f R n (.code (.loop c) :: k) e w := G.step (fun _ _ _ _ _ => step_loop) h
theorem g_inLoop {c : Code} (h : G P f R n (.code c :: .inLoop c :: k) e w) : G P f R n (.inLoop c :: k) e w := G.step (fun _ _ _ _ _ => step_inLoop) h

/-- A loop: I m holds at each round's head, m falls. -/
theorem g_loop {c : Code} (I : Nat → Env → World → Prop) (m : Nat) (h0 : I m e w)
    (round : ∀ m e w, I m e w → (∀ m' e' w', I m' e' w' → m' < m → G P f R n (.inLoop c :: k) e' w') → G P f R n (.code c :: .inLoop c :: k) e w) :
    G P f R n (.code (.loop c) :: k) e w := by
  have key : ∀ m e w, I m e w → G P f R n (.code c :: .inLoop c :: k) e w := by
    intro m
    induction m using Nat.strongRecOn with
    | _ m ih =>
      intro e w hI
      exact round m e w hI fun m' e' w' hI' hlt => G.step (fun _ _ _ _ _ => step_inLoop) (ih m' hlt e' w' hI')
  exact G.step (fun _ _ _ _ _ => step_loop) (key m e w h0)

/-- What a row of result variables holds. -/
def Res (P : Program) (e : Env) (w : World) : List ResultVar → List Value → Prop
  | [], [] => True
  | .tmp t :: rs, v :: vs => e t = some v ∧ Res P e w rs vs
  | .cell a t :: rs, v :: vs => (∃ x, e a = some (.pointer (some x)) ∧ (loadVar t x).run P w = .ok v w) ∧ Res P e w rs vs
  | _, _ => False


theorem res_cell {e : Env} {w : World} {a : Nat} {t : TypeId} {x : Addr} {v : Value} {rs : List ResultVar} {vs : List Value}
    (h : e a = some (.pointer (some x))) (hl : (loadVar t x).run P w = .ok v w) (hr : Res P e w rs vs) : Res P e w (.cell a t :: rs) (v :: vs) := ⟨⟨x, h, hl⟩, hr⟩

theorem results_of_res {a : Act} {e : Env} {w : World} (ha : Fits n e a) (g : ResultVar → Sem Value) (g1 : ∀ t, g (.tmp t) = pure (a.tmps.getD t undef))
    (g2 : ∀ b t, g (.cell b t) = (do loadVar t (← asAddr (a.tmps.getD b undef)))) : ∀ (rs : List ResultVar) (vs : List Value), Res P e w rs vs → (rs.mapM g).run P w = .ok vs w
  | [], [], _ => rfl
  | [], _ :: _, h => h.elim
  | .tmp t :: rs, [], h => h.elim
  | .cell _ _ :: rs, [], h => h.elim
  | .tmp t :: rs, v :: vs, h => by
    have := results_of_res ha g g1 g2 rs vs h.2
    have h1 : a.tmps.getD t undef = v := by rw [ha.get, h.1]; rfl
    simp only [List.mapM_cons, Sem.run_bind, Sem.run_pure, Result.andThen, g1, this, h1]
  | .cell b t :: rs, v :: vs, h => by
    have := results_of_res ha g g1 g2 rs vs h.2
    obtain ⟨⟨x, hx, hl⟩, _⟩ := h
    have h1 : a.tmps.getD b undef = .pointer (some x) := by rw [ha.get, hx]; rfl
    simp only [List.mapM_cons, Sem.run_bind, g2, h1, asAddr, Sem.run_pure, Result.andThen, hl, this]

def retv (vs : List Value) : Value := match vs with | [v] => v | vs => .tuple vs.toArray

theorem run_results {fn : Func} {a : Act} {e : Env} {w : World} (ha : Fits n e a) {vs : List Value} (h : Res P e w fn.results.toList vs) :
    (results fn a.tmps).run P w = .ok (retv vs) w := by
  unfold results
  generalize hrs : fn.results = rs at h
  obtain ⟨rs⟩ := rs
  rw [List.mapM_toArray]
  simp only [Sem.run_bind, Sem.run_map]
  rw [results_of_res ha _ (fun _ => rfl) (fun _ _ => rfl) _ _ h]
  simp only [Result.andThen]
  cases vs with
  | nil => rfl
  | cons v vs => cases vs <;> rfl

theorem g_ret {fn : Func} (hf : P.funcs[f]? = some fn) (vs : List Value) (hv : Res P e w fn.results.toList vs) (hR : R (.returned (retv vs)) w) : G P f R n (.code .ret :: k) e w := by
  intro a ha b cs hb hk
  refine ⟨.returned (retv vs), w, { b.at a (.code .ret :: k) with mode := .returning }, hR, .one step_ret, hb, rfl, ha.defers, hk, fn, ?_, run_results ha hv⟩
  show P.funcs[b.fn]? = some fn
  rw [hb]; exact hf

theorem g_end {fn : Func} (hf : P.funcs[f]? = some fn) (vs : List Value) (hv : Res P e w fn.results.toList vs) (hR : R (.returned (retv vs)) w) : G P f R n [] e w := by
  intro a ha b cs hb hk
  refine ⟨.returned (retv vs), w, { b.at a [] with mode := .returning }, hR, .one step_end, hb, rfl, ha.defers, hk, fn, ?_, run_results ha hv⟩
  show P.funcs[b.fn]? = some fn
  rw [hb]; exact hf

/-- A call that returns. -/
def Ret (P : Program) (f : FuncId) (args : List Value) (w : World) (Q : Value → World → Prop) : Prop :=
  Calls P f args.toArray w fun en w' => ∃ v, en = .returned v ∧ Q v w'

theorem Ret.mono {f : FuncId} {args : List Value} {w : World} {Q Q' : Value → World → Prop} (h : Ret P f args w Q) (hq : ∀ v w', Q v w' → Q' v w') : Ret P f args w Q' :=
  Calls.mono h fun _ _ ⟨v, he, hv⟩ => ⟨v, he, hq v _ hv⟩

def env0 (n : Nat) (args : List Value) : Env := fun i => match args[i]? with | some v => some v | none => if i < n then some undef else none

theorem res_0 {e : Env} {w : World} : Res P e w [] [] := trivial
theorem res_t {e : Env} {w : World} {t : Tmp} {v : Value} {rs : List ResultVar} {vs : List Value} (h : e t = some v) (hr : Res P e w rs vs) : Res P e w (.tmp t :: rs) (v :: vs) := ⟨h, hr⟩
theorem g_rq {fn : Func} {Q : Value → World → Prop} (hf : P.funcs[f]? = some fn) {vs : List Value} (hv : Res P e w fn.results.toList vs) (hR : Q (retv vs) w) :
    G P f (fun en w' => ∃ v, en = .returned v ∧ Q v w') n (.code .ret :: k) e w := g_ret hf vs hv ⟨_, rfl, hR⟩
theorem g_eq {fn : Func} {Q : Value → World → Prop} (hf : P.funcs[f]? = some fn) {vs : List Value} (hv : Res P e w fn.results.toList vs) (hR : Q (retv vs) w) :
    G P f (fun en w' => ∃ v, en = .returned v ∧ Q v w') n [] e w := g_end hf vs hv ⟨_, rfl, hR⟩

theorem ret_of_g {f : FuncId} {fn : Func} {c : Code} {args : List Value} {w : World} {Q : Value → World → Prop} (hf : P.funcs[f]? = some fn) (hb : fn.body = some c) (hn : fn.ntmps = n) (hl : args.length ≤ n)
    (h : G P f (fun en w' => ∃ v, en = .returned v ∧ Q v w') n [.code c] (env0 n args) w) : Ret P f args w Q := by
  intro cs
  let b : Frame := { (default : Frame) with fn := f, kind := .normal }
  let a : Act := { tmps := args.toArray ++ Array.replicate (fn.ntmps - args.toArray.size) undef, defers := [] }
  have henter : Frame.enter P f args.toArray .normal = b.at a [.code c] := by
    simp [Frame.enter, Frame.at, hf, hb, b, a]
  have hsz : a.tmps.size = n := by simp [a, hn]; omega
  have ha : Fits n (env0 n args) a := by
    refine ⟨rfl, hsz, ?_⟩
    funext i
    simp only [envOf, hsz, env0]
    simp only [a, Array.getElem?_append, List.size_toArray, List.getElem?_toArray, Array.getElem?_replicate]
    by_cases h1 : i < args.length
    · have h2 : i < n := by omega
      simp [h1, h2]
    · have : args[i]? = none := List.getElem?_eq_none (by omega)
      rw [this]
      by_cases h2 : i < n
      · have h3 : i - args.length < fn.ntmps - args.length := by omega
        simp [h1, h2, h3]
      · simp [h2]
  obtain ⟨en, w', fr, r, c', hfn, hl⟩ := h a ha b cs rfl rfl
  rw [← henter] at c'
  exact ⟨en, w', fr, r, c', hfn, hl⟩
end
end Go.Lt
