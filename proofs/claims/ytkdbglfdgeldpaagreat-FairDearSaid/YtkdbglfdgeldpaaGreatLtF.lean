/- Maps with int keys, as chunks: in the order in which their entries came. Condition: one flow of control. -/
import Derived.Test.YtkdbglfdgeldpaaGreatLtE
import Derived.MapKept
import Derived.Maps.RangeRun
namespace Go.Lt
open Go.MapKept

def mpt (P : Program) (T : Nat) : Option (Nat × Nat × Value) := match P.underlying T with
  | some (.map k e) => match P.underlying k, P.info? e with
    | some (.int .i64), some i => i.zero.map fun z => (k, e, z)
    | _, _ => none
  | _ => none
def kv (e : MapEntry) : Value × Value := (e.key, e.val)
def ent (p : Int × Value) : Value × Value := (.int .i64 p.1, p.2)
def Ents (es : List MapEntry) (l : List (Int × Value)) : Prop := es.map kv = l.map ent
def MapC (b : Nat) (l : List (Int × Value)) : HP := ex fun q : Array MapEntry × Nat => is (Stamped q.1 q.2 ∧ Ents q.1.toList l) (pt b (.map q.1 q.2))
def MapR (b : Nat) (l : List (Int × Value)) : HP := fun h => ∃ es clock, h b = some (.map es clock) ∧ Ents es.toList l
def mget (l : List (Int × Value)) (k : Int) : Option Value := (l.find? fun p => p.1 == k).map (·.2)
def mput : List (Int × Value) → Int → Value → List (Int × Value)
  | [], k, v => [(k, v)]
  | p :: l, k, v => if p.1 = k then (k, v) :: l else p :: mput l k v
def mdel : List (Int × Value) → Int → List (Int × Value)
  | [], _ => []
  | p :: l, k => if p.1 = k then l else p :: mdel l k

theorem ent_inj {p q : Int × Value} (h : ent p = ent q) : p = q := by
  obtain ⟨a, b⟩ := p; obtain ⟨c, d⟩ := q
  simp only [ent, Prod.mk.injEq, Value.int.injEq, true_and] at h
  rw [h.1, h.2]
theorem ents_keys {es : List MapEntry} {l : List (Int × Value)} (h : Ents es l) : ∀ x ∈ es, IsKey (.int .i64) x.key := by
  intro x hx
  have : kv x ∈ l.map ent := by rw [← h]; exact List.mem_map_of_mem hx
  obtain ⟨p, _, hp⟩ := List.mem_map.1 this
  have : x.key = .int .i64 p.1 := by have := congrArg Prod.fst hp; exact this.symm
  rw [this]; rfl

theorem find_spec (k : Int) : ∀ (el : List MapEntry) (l : List (Int × Value)) (i : Nat), Ents el l →
    (Instr.findNow (.int .i64) (.int .i64 k) el i = some none ∧ mget l k = none ∧ (∀ v, mput l k v = l ++ [(k, v)]) ∧ mdel l k = l ∧ ∀ x ∈ el, x.key ≠ .int .i64 k) ∨
    ∃ j e, Instr.findNow (.int .i64) (.int .i64 k) el i = some (some (i + j, e.val)) ∧ el[j]? = some e ∧ e.key = .int .i64 k ∧ mget l k = some e.val ∧ (∀ v, mput l k v = l.set j (k, v)) ∧ mdel l k = l.eraseIdx j
  | [], l, i, h => by
    have : l = [] := by cases l with | nil => rfl | cons _ _ => simp [Ents] at h
    subst this
    exact .inl ⟨rfl, rfl, fun _ => rfl, rfl, by simp⟩
  | e :: el, [], i, h => by simp [Ents] at h
  | e :: el, p :: l, i, h => by
    simp only [Ents, List.map_cons, List.cons.injEq] at h
    obtain ⟨h1, h2⟩ := h
    have hk : e.key = .int .i64 p.1 := congrArg Prod.fst h1
    have hv : e.val = p.2 := congrArg Prod.snd h1
    by_cases hp : p.1 = k
    · right
      refine ⟨0, e, ?_, rfl, by rw [hk, hp], by simp [mget, hp, hv], fun v => by simp [mput, hp], by simp [mdel, hp]⟩
      simp [Instr.findNow, Instr.sameNow, hk, hp]
    · have hs : Instr.sameNow (.int .i64) (.int .i64 k) e.key = some false := by
        simp [Instr.sameNow, hk]; exact fun h => hp h.symm
      rcases find_spec k el l (i + 1) h2 with ⟨g1, g2, g3, g4, g5⟩ | ⟨j, e', g1, g2, g3, g4, g5, g6⟩
      · left
        refine ⟨by simp only [Instr.findNow, hs, g1], ?_, fun v => by simp [mput, hp, g3], by simp [mdel, hp, g4], ?_⟩
        · simpa [mget, hp] using g2
        · intro x hx
          rcases List.mem_cons.1 hx with rfl | hx
          · rw [hk]; intro h; cases h; exact hp rfl
          · exact g5 x hx
      · right
        refine ⟨j + 1, e', by simp only [Instr.findNow, hs, g1]; rw [show i + 1 + j = i + (j + 1) from by omega], g2, g3, ?_, fun v => by simp [mput, hp, g5], by simp [mdel, hp, g6]⟩
        simpa [mget, hp] using g4

theorem mget_none {l : List (Int × Value)} {k : Int} (h : ∀ p ∈ l, p.1 ≠ k) : mget l k = none := by
  simp only [mget, Option.map_eq_none_iff, List.find?_eq_none, beq_iff_eq]
  exact h
theorem mget_mem : ∀ {l : List (Int × Value)} {k : Int} {v : Value}, (l.map Prod.fst).Nodup → (k, v) ∈ l → mget l k = some v
  | p :: l, k, v, hn, h => by
    simp only [List.map_cons, List.nodup_cons] at hn
    rcases List.mem_cons.1 h with h | h
    · subst h; simp [mget]
    · have : p.1 ≠ k := fun e => hn.1 (List.mem_map.2 ⟨(k, v), h, e.symm⟩)
      have ih := mget_mem hn.2 h
      simpa [mget, this] using ih
theorem mdel_none {l : List (Int × Value)} {k : Int} (h : ∀ p ∈ l, p.1 ≠ k) : mdel l k = l := by
  induction l with
  | nil => rfl
  | cons p l ih => simp only [mdel, if_neg (h p (List.mem_cons_self ..)), ih fun q hq => h q (List.mem_cons_of_mem _ hq)]
theorem mput_new {l : List (Int × Value)} {k : Int} {v : Value} (h : ∀ p ∈ l, p.1 ≠ k) : mput l k v = l ++ [(k, v)] := by
  induction l with
  | nil => rfl
  | cons p l ih => simp only [mput, if_neg (h p (List.mem_cons_self ..)), ih fun q hq => h q (List.mem_cons_of_mem _ hq), List.cons_append]
theorem mput_at : ∀ {l : List (Int × Value)} {j : Nat} {k : Int} {u v : Value}, (l.map Prod.fst).Nodup → l[j]? = some (k, u) → mput l k v = l.set j (k, v)
  | p :: l, 0, k, u, v, _, h => by simp at h; subst h; simp [mput]
  | p :: l, j + 1, k, u, v, hn, h => by
    simp only [List.map_cons, List.nodup_cons] at hn
    have h' : l[j]? = some (k, u) := by simpa using h
    have : p.1 ≠ k := fun e => hn.1 (List.mem_map.2 ⟨(k, u), List.mem_of_getElem? h', e.symm⟩)
    simp [mput, this, mput_at hn.2 h']
theorem mdel_at : ∀ {l : List (Int × Value)} {j : Nat} {k : Int} {u : Value}, (l.map Prod.fst).Nodup → l[j]? = some (k, u) → mdel l k = l.eraseIdx j
  | p :: l, 0, k, u, _, h => by simp at h; subst h; simp [mdel]
  | p :: l, j + 1, k, u, hn, h => by
    simp only [List.map_cons, List.nodup_cons] at hn
    have h' : l[j]? = some (k, u) := by simpa using h
    have : p.1 ≠ k := fun e => hn.1 (List.mem_map.2 ⟨(k, u), List.mem_of_getElem? h', e.symm⟩)
    simp [mdel, this, mdel_at hn.2 h']
section
variable {P : Program} {R : Base} {L : List HP} {w : World} {n : Nat} {ops : Array Oper} {e : Env} {K : Env → World → Prop} {ty : TypeId}

theorem mpt_spec {T kt et : Nat} {z : Value} (h : mpt P T = some (kt, et, z)) : ∃ i, P.underlying T = some (.map kt et) ∧ P.underlying kt = some (.int .i64) ∧ P.info? et = some i ∧ i.zero = some z := by
  unfold mpt at h
  split at h <;> try (cases h; done)
  rename_i k e' hu
  split at h <;> try (cases h; done)
  rename_i i hk hi
  obtain ⟨z', hz, hc⟩ := Option.map_eq_some_iff.1 h
  cases hc
  exact ⟨i, hu, hk, hi, hz⟩

theorem Holds.mopen {b : Nat} {l : List (Int × Value)} (h : Holds R (MapC b l :: L) w) : ∃ es clock, Stamped es clock ∧ Ents es.toList l ∧ Holds R (pt b (.map es clock) :: L) w := by
  obtain ⟨⟨es, clock⟩, h⟩ := h.open_ex
  obtain ⟨⟨h1, h2⟩, h⟩ := h.open_is
  exact ⟨es, clock, h1, h2, h⟩
theorem Holds.mshut {b : Nat} {l : List (Int × Value)} {es : Array MapEntry} {clock : Nat} (h1 : Stamped es clock) (h2 : Ents es.toList l) (h : Holds R (pt b (.map es clock) :: L) w) : Holds R (MapC b l :: L) w :=
  (Holds.shut_is ⟨h1, h2⟩ h).shut_ex (p := fun q : Array MapEntry × Nat => is (Stamped q.1 q.2 ∧ Ents q.1.toList l) (pt b (.map q.1 q.2))) (x := (es, clock))
theorem Holds.mrd {b : Nat} {l : List (Int × Value)} (h : Holds R (MapC b l :: L) w) : MapR b l (hp w) := by
  obtain ⟨es, clock, h1, h2, h⟩ := h.mopen
  exact ⟨es, clock, h.blk, h2⟩
theorem MapR.up {b : Nat} {l : List (Int × Value)} : Up (MapR b l) := fun _ _ ⟨es, c, h1, h2⟩ s => ⟨es, c, s _ _ h1, h2⟩
theorem Holds.mnodup {b : Nat} {l : List (Int × Value)} (h : Holds R (MapC b l :: L) w) : (l.map Prod.fst).Nodup := by
  obtain ⟨es, clock, h1, h2, h⟩ := h.mopen
  have h3 : es.toList.map (·.key) = (l.map Prod.fst).map (Value.int .i64) := by
    have := congrArg (List.map Prod.fst) h2
    simpa [List.map_map, Function.comp_def, kv, ent] using this
  have := h1.2.2
  rw [h3, List.Nodup, List.pairwise_map] at this
  exact this.imp (fun h e => h (by rw [e]))

theorem run_lookup {T kt et b : Nat} {z : Value} {k : Int} {l : List (Int × Value)} {ok : Bool} (hm : mpt P T = some (kt, et, z)) (hr : MapR b l (hp w)) :
    (Instr.lookup T (.map (some b)) (.int .i64 k) ok).run P w = .ok (if ok then .tuple #[(mget l k).getD z, .bool (mget l k).isSome] else (mget l k).getD z) w := by
  obtain ⟨i, h1, h2, h3, h4⟩ := mpt_spec hm
  obtain ⟨es, clock, hb, hE⟩ := hr
  replace hb : w.heap[b]? = some (.map es clock) := hb
  have hk : IsKey (.int .i64) (.int .i64 k) := rfl
  have hz : (zeroValue et).run P w = .ok z w := by simp [zeroValue, typeInfo, h3, h4]
  rcases find_spec k es.toList l 0 hE with ⟨g1, g2, -⟩ | ⟨j, e', g1, -, -, g2, -⟩
  · simp [Instr.lookup, run_underlying h1, MapKept.run_getObj_map hb, run_checkKey h2 hk, run_findKey h2 g1, hz, Result.andThen, g2]
  · simp [Instr.lookup, run_underlying h1, MapKept.run_getObj_map hb, run_checkKey h2 hk, run_findKey h2 g1, Result.andThen, g2]
theorem r_lk {T kt et b : Nat} {z : Value} {k : Int} {l : List (Int × Value)} {x y : Operand} (hm : mpt P T = some (kt, et, z)) (hx : ev e x = .map (some b)) (hy : ev e y = .int .i64 k) (hr : MapR b l (hp w)) :
    (xop (ev e) (.lookup T x y false) ty).run P w = .ok (.value ((mget l k).getD z)) w := by
  simp [xop, execOp, hx, hy, run_lookup hm hr]
theorem r_lk2 {T kt et b : Nat} {z : Value} {k : Int} {l : List (Int × Value)} {x y : Operand} (hm : mpt P T = some (kt, et, z)) (hx : ev e x = .map (some b)) (hy : ev e y = .int .i64 k) (hr : MapR b l (hp w)) :
    (xop (ev e) (.lookup T x y true) ty).run P w = .ok (.value (.tuple #[(mget l k).getD z, .bool (mget l k).isSome])) w := by
  simp [xop, execOp, hx, hy, run_lookup hm hr]

theorem r_lkv {T kt et b : Nat} {z : Value} {k : Int} {l : List (Int × Value)} {o : Option Value} {x y : Operand} (hm : mpt P T = some (kt, et, z)) (hx : ev e x = .map (some b)) (hy : ev e y = .int .i64 k) (hr : MapR b l (hp w)) (ho : mget l k = o) :
    (xop (ev e) (.lookup T x y false) ty).run P w = .ok (.value (o.getD z)) w := by subst ho; exact r_lk hm hx hy hr
theorem r_lkv2 {T kt et b : Nat} {z : Value} {k : Int} {l : List (Int × Value)} {o : Option Value} {x y : Operand} (hm : mpt P T = some (kt, et, z)) (hx : ev e x = .map (some b)) (hy : ev e y = .int .i64 k) (hr : MapR b l (hp w)) (ho : mget l k = o) :
    (xop (ev e) (.lookup T x y true) ty).run P w = .ok (.value (.tuple #[o.getD z, .bool o.isSome])) w := by subst ho; exact r_lk2 hm hx hy hr
theorem r_lkw {T kt et b : Nat} {z v : Value} {k : Int} {l : List (Int × Value)} {x y : Operand} (hm : mpt P T = some (kt, et, z)) (hx : ev e x = .map (some b)) (hy : ev e y = .int .i64 k) (hr : MapR b l (hp w)) (ho : (mget l k).getD z = v) :
    (xop (ev e) (.lookup T x y false) ty).run P w = .ok (.value v) w := by subst ho; exact r_lk hm hx hy hr
theorem heap_setB {b : Nat} {o o' : Obj} (hb : w.heap[b]? = some o) (x : Nat) : (w.heap.setIfInBounds b o')[x]? = if x = b then some o' else w.heap[x]? := by
  have hlt : b < w.heap.size := (Array.getElem?_eq_some_iff.1 hb).1
  by_cases h : x = b
  · subst h; simp [hlt]
  · simp [h, Ne.symm h]
theorem Ents.set {el : List MapEntry} {l : List (Int × Value)} (h : Ents el l) (j : Nat) (k : Int) (v : Value) (b : Nat) : Ents (el.set j ⟨.int .i64 k, v, b⟩) (l.set j (k, v)) := by
  unfold Ents at *
  rw [List.map_set, List.map_set, h]; rfl
theorem Ents.erase {el : List MapEntry} {l : List (Int × Value)} (h : Ents el l) (j : Nat) : Ents (el.eraseIdx j) (l.eraseIdx j) := by
  unfold Ents at *
  rw [Go.ChangeMaps.map_eraseIdx, Go.ChangeMaps.map_eraseIdx, h]

theorem o_mm {i : Nat} {d : Option Tmp} {T : Nat} (hl : Live ops e i d (.makeMap T none) ty) (hd : dOk n d = true) (hh : Holds R L w)
    (k : ∀ b w1, Holds R (MapC b [] :: L) w1 → K (updO e d (.map (some b))) w1) : OP1 P n ops i K e w := by
  refine o_v (w1 := { w with heap := w.heap.push (.map #[] 0) }) hl hd ?_ (k _ _ (Holds.mshut (stamped_empty 0) rfl (hh.alloc _)))
  rfl
theorem o_mu {i : Nat} {d : Option Tmp} {T kt et b : Nat} {z u : Value} {key : Int} {l : List (Int × Value)} {x y v : Operand} (hl : Live ops e i d (.mapUpdate T x y v) ty) (hd : dOk n d = true) (hm : mpt P T = some (kt, et, z))
    (hx : ev e x = .map (some b)) (hy : ev e y = .int .i64 key) (hv : evo e v = some u) (hh : Holds R (MapC b l :: L) w)
    (k : ∀ w1, Holds R (MapC b (mput l key u) :: L) w1 → K (updO e d undef) w1) : OP1 P n ops i K e w := by
  obtain ⟨inf, h1, h2, h3, h4⟩ := mpt_spec hm
  obtain ⟨es, clock, hs, hE, hh⟩ := hh.mopen
  have hb := hh.blk
  have hk : IsKey (.int .i64) (.int .i64 key) := rfl
  rcases find_spec key es.toList l 0 hE with ⟨g1, g2, g3, g4, g5⟩ | ⟨j, e', g1, g2, g3, g4, g5, g6⟩
  · refine o_s (w1 := { w with heap := w.heap.setIfInBounds b (.map (es.push ⟨.int .i64 key, u, clock⟩) (clock + 1)) }) hl hd ?_ (k _ ?_)
    · simp [xop, execOp, hx, hy, ev_of hv, Instr.mapUpdate, run_underlying h1, MapKept.run_getObj_map hb, run_checkKey h2 hk, run_findKey h2 g1, run_setObj_map _ hb, Result.andThen]
    · refine Holds.mshut (stamped_push hs g5) ?_ (hh.set (fun x => heap_setB hb x) rfl rfl rfl)
      rw [g3]
      unfold Ents at *
      rw [Array.toList_push, List.map_append, hE, List.map_append]; rfl
  · have hj : es[j]? = some e' := by simpa using g2
    have hkey : ∀ e2, es[j]? = some e2 → ({ e2 with key := .int .i64 key, val := u } : MapEntry).key = e2.key := fun e2 he2 => by rw [hj] at he2; cases he2; exact g3.symm
    refine o_s (w1 := { w with heap := w.heap.setIfInBounds b (.map (es.modify j fun e2 => { e2 with key := .int .i64 key, val := u }) clock) }) hl hd ?_ (k _ ?_)
    · simp [xop, execOp, hx, hy, ev_of hv, Instr.mapUpdate, run_underlying h1, MapKept.run_getObj_map hb, run_checkKey h2 hk, run_findKey h2 g1, hj, g3, run_keyThatStays hk, run_setObj_map _ hb, Result.andThen]
    · refine Holds.mshut (stamped_modify hs j (fun e2 => { e2 with key := .int .i64 key, val := u }) (fun _ _ => rfl) (fun e2 _ he2 => hkey e2 he2)) ?_ (hh.set (fun x => heap_setB hb x) rfl rfl rfl)
      rw [g5]
      have : (es.modify j fun e2 => { e2 with key := .int .i64 key, val := u }).toList = es.toList.set j ⟨.int .i64 key, u, e'.born⟩ := by
        apply List.ext_getElem?
        intro m
        rw [Array.getElem?_toList, Array.getElem?_modify, List.getElem?_set]
        by_cases hm : j = m
        · subst hm
          have := (List.getElem?_eq_some_iff.1 g2).1
          simp [hj]; simpa using this
        · simp [hm]
      rw [this]
      exact hE.set j key u _
theorem o_del {i : Nat} {d : Option Tmp} {T T2 kt et b : Nat} {z : Value} {key : Int} {l : List (Int × Value)} {x y : Operand} (hl : Live ops e i d (.call ⟨.builtin .delete, #[x, y], #[T, T2]⟩) ty) (hd : dOk n d = true) (hm : mpt P T = some (kt, et, z))
    (hx : ev e x = .map (some b)) (hy : ev e y = .int .i64 key) (hh : Holds R (MapC b l :: L) w)
    (k : ∀ w1, Holds R (MapC b (mdel l key) :: L) w1 → K (updO e d (.tuple #[])) w1) : OP1 P n ops i K e w := by
  obtain ⟨inf, h1, h2, h3, h4⟩ := mpt_spec hm
  obtain ⟨es, clock, hs, hE, hh⟩ := hh.mopen
  have hb := hh.blk
  have hk : IsKey (.int .i64) (.int .i64 key) := rfl
  rcases find_spec key es.toList l 0 hE with ⟨g1, g2, g3, g4, g5⟩ | ⟨j, e', g1, g2, g3, g4, g5, g6⟩
  · refine o_v (w1 := { w with heap := w.heap.setIfInBounds b (.map es clock) }) hl hd ?_ (k _ ?_)
    · simp [xop, execOp, resolve, invoke, builtin, hx, hy, Builtin.delete_, run_underlying h1, MapKept.run_getObj_map hb, run_checkKey h2 hk, run_findKey h2 g1, run_setObj_map _ hb, Result.andThen]
    · rw [g4]
      exact Holds.mshut hs hE (hh.set (fun x => heap_setB hb x) rfl rfl rfl)
  · have hlt : j < es.size := by have := (List.getElem?_eq_some_iff.1 g2).1; simpa using this
    refine o_v (w1 := { w with heap := w.heap.setIfInBounds b (.map (es.eraseIdxIfInBounds j) clock) }) hl hd ?_ (k _ ?_)
    · simp [xop, execOp, resolve, invoke, builtin, hx, hy, Builtin.delete_, run_underlying h1, MapKept.run_getObj_map hb, run_checkKey h2 hk, run_findKey h2 g1, run_setObj_map _ hb, Result.andThen]
    · refine Holds.mshut (stamped_erase hs j) ?_ (hh.set (fun x => heap_setB hb x) rfl rfl rfl)
      rw [g6]
      have : (es.eraseIdxIfInBounds j).toList = es.toList.eraseIdx j := by simp [Array.eraseIdxIfInBounds, hlt]
      rw [this]
      exact hE.erase j

/-! ### for k, v := range m -/
def Gone (es : List MapEntry) (seen : List Nat) (D : List (Int × Value)) : Prop := ∃ E : List MapEntry, (∀ x ∈ E, x ∈ es) ∧ seen = E.map (·.born) ∧ E.map kv = D.map ent ∧ seen.Nodup
/-- A map at b and what goes over it at r: D was there already. -/
def RngC (b r : Nat) (l D : List (Int × Value)) : HP := ex fun q : Array MapEntry × Nat × Array Nat => is (Stamped q.1 q.2.1 ∧ Ents q.1.toList l ∧ Gone q.1.toList q.2.2.toList D) (star (pt b (.map q.1 q.2.1)) (pt r (.mapIter (some b) q.2.1 q.2.2 q.2.1)))
theorem RngC.op {b r : Nat} {l D : List (Int × Value)} (h : Holds R (RngC b r l D :: L) w) : ∃ es clock seen, Stamped es clock ∧ Ents es.toList l ∧ Gone es.toList seen.toList D ∧ Holds R (pt b (.map es clock) :: pt r (.mapIter (some b) clock seen clock) :: L) w := by
  obtain ⟨⟨es, clock, seen⟩, h⟩ := h.open_ex
  obtain ⟨⟨h1, h2, h3⟩, h⟩ := h.open_is
  exact ⟨es, clock, seen, h1, h2, h3, h.open⟩
theorem RngC.mk {b r : Nat} {l D : List (Int × Value)} {es : Array MapEntry} {clock : Nat} {seen : Array Nat} (h1 : Stamped es clock) (h2 : Ents es.toList l) (h3 : Gone es.toList seen.toList D)
    (h : Holds R (pt b (.map es clock) :: pt r (.mapIter (some b) clock seen clock) :: L) w) : Holds R (RngC b r l D :: L) w :=
  (Holds.shut_is ⟨h1, h2, h3⟩ h.shut).shut_ex (p := fun q : Array MapEntry × Nat × Array Nat => is (Stamped q.1 q.2.1 ∧ Ents q.1.toList l ∧ Gone q.1.toList q.2.2.toList D) (star (pt b (.map q.1 q.2.1)) (pt r (.mapIter (some b) q.2.1 q.2.2 q.2.1)))) (x := (es, clock, seen))
theorem RngC.fin {b r : Nat} {l D : List (Int × Value)} (h : Holds R (RngC b r l D :: L) w) : Holds R (MapC b l :: L) w := by
  obtain ⟨es, clock, seen, h1, h2, h3, h⟩ := RngC.op h
  exact Holds.mshut h1 h2 h.p1.drop
theorem o_rg {i : Nat} {d : Option Tmp} {T kt et b : Nat} {z : Value} {l : List (Int × Value)} {x : Operand} (hl : Live ops e i d (.range T x) ty) (hd : dOk n d = true) (hm : mpt P T = some (kt, et, z)) (hx : ev e x = .map (some b)) (hh : Holds R (MapC b l :: L) w)
    (k : ∀ r w1, Holds R (RngC b r l [] :: L) w1 → K (updO e d (.pointer (some ⟨r, 0, none⟩))) w1) : OP1 P n ops i K e w := by
  obtain ⟨inf, h1, h2, h3, h4⟩ := mpt_spec hm
  obtain ⟨es, clock, hs, hE, hh⟩ := hh.mopen
  have hb := hh.blk
  refine o_v (w1 := { w with heap := w.heap.push (.mapIter (some b) clock #[] clock) }) hl hd ?_ (k _ _ (RngC.mk hs hE ⟨[], by simp, rfl, rfl, by simp⟩ (hh.alloc _).p1))
  simp [xop, execOp, hx, Instr.range, run_underlying h1, MapKept.run_getObj_map hb, newObj, Result.andThen, Sem.run]
def unent (q : Value × Value) : Int × Value := (match q.1 with | .int _ k => k | _ => 0, q.2)
theorem unent_ent (l : List (Int × Value)) : (l.map ent).map unent = l := by
  rw [List.map_map]; conv => rhs; rw [← List.map_id l]
  exact List.map_congr_left fun _ _ => rfl
theorem perm_of_ents {D l : List (Int × Value)} (h : (D.map ent).Perm (l.map ent)) : D.Perm l := by
  have := h.map unent
  rwa [unent_ent, unent_ent] at this
theorem perm_born {E es : List MapEntry} (h1 : ∀ x ∈ E, x ∈ es) (hn : (E.map (·.born)).Nodup) (h2 : ∀ x ∈ es, x ∈ E) (hn2 : (es.map (·.born)).Nodup) : E.Perm es := by
  refine (List.perm_ext_iff_of_nodup ?_ ?_).2 fun x => ⟨h1 x, h2 x⟩
  · rw [List.Nodup, List.pairwise_map] at hn; exact hn.imp fun h e => h (by rw [e])
  · rw [List.Nodup, List.pairwise_map] at hn2; exact hn2.imp fun h e => h (by rw [e])
theorem born_inj {es : List MapEntry} (hn : (es.map (·.born)).Nodup) {x y : MapEntry} (hx : x ∈ es) (hy : y ∈ es) (h : x.born = y.born) : x = y := by
  induction es with
  | nil => cases hx
  | cons a es ih =>
    simp only [List.map_cons, List.nodup_cons] at hn
    rcases List.mem_cons.1 hx with rfl | hx
    · rcases List.mem_cons.1 hy with rfl | hy
      · rfl
      · exact absurd (List.mem_map.2 ⟨y, hy, h.symm⟩) hn.1
    · rcases List.mem_cons.1 hy with rfl | hy
      · exact absurd (List.mem_map.2 ⟨x, by assumption, h⟩) hn.1
      · exact ih hn.2 hx hy
theorem key_inj {es : List MapEntry} (hn : (es.map (·.key)).Nodup) {x y : MapEntry} (hx : x ∈ es) (hy : y ∈ es) (h : x.key = y.key) : x = y := by
  induction es with
  | nil => cases hx
  | cons a es ih =>
    simp only [List.map_cons, List.nodup_cons] at hn
    rcases List.mem_cons.1 hx with rfl | hx
    · rcases List.mem_cons.1 hy with rfl | hy
      · rfl
      · exact absurd (List.mem_map.2 ⟨y, hy, h.symm⟩) hn.1
    · rcases List.mem_cons.1 hy with rfl | hy
      · exact absurd (List.mem_map.2 ⟨x, by assumption, h⟩) hn.1
      · exact ih hn.2 hx hy
theorem len_le_of_sub {α : Type} : ∀ {E es : List α}, E.Nodup → (∀ x ∈ E, x ∈ es) → E.length ≤ es.length
  | [], _, _, _ => Nat.zero_le _
  | x :: E, es, hn, hs => by
    obtain ⟨a, b, rfl⟩ := List.append_of_mem (hs x (List.mem_cons_self ..))
    rw [List.nodup_cons] at hn
    have := len_le_of_sub (es := a ++ b) hn.2 (fun y hy => by
      have h1 := hs y (List.mem_cons_of_mem _ hy)
      have h2 : y ≠ x := fun h => by subst h; exact hn.1 hy
      simp only [List.mem_append, List.mem_cons] at h1 ⊢
      rcases h1 with h | h | h
      · exact .inl h
      · exact absurd h h2
      · exact .inr h)
    simp only [List.length_append, List.length_cons] at this ⊢
    omega
theorem o_nx {i : Nat} {d : Option Tmp} {b r : Nat} {l D : List (Int × Value)} {x : Operand} (hl : Live ops e i d (.next x false) ty) (hd : dOk n d = true) (hx : ev e x = .pointer (some ⟨r, 0, none⟩)) (hh : Holds R (RngC b r l D :: L) w)
    (k1 : D.Perm l → K (updO e d (.tuple #[.bool false])) w)
    (k2 : ∀ p w1, p ∈ l → p ∉ D → D.length < l.length → Holds R (RngC b r l (D ++ [p]) :: L) w1 → K (updO e d (.tuple #[.bool true, .int .i64 p.1, p.2])) w1) : OP1 P n ops i K e w := by
  obtain ⟨es, clock, seen, hs, hE, ⟨E, hE1, hE2, hE3, hE4⟩, hh⟩ := RngC.op hh
  have hb := hh.blk
  have hr := hh.p1.blk
  have hmem : ∀ x : MapEntry, x ∈ (leftOf es seen).toList ↔ x ∈ es.toList ∧ x ∉ E := by
    intro x
    unfold leftOf
    simp only [Array.toList_filter, List.mem_filter, Bool.not_eq_true', Array.mem_toList_iff]
    constructor
    · rintro ⟨h1, h2⟩
      refine ⟨h1, fun h3 => ?_⟩
      have : x.born ∈ seen.toList := by rw [hE2]; exact List.mem_map.2 ⟨x, h3, rfl⟩
      have : seen.contains x.born = true := by simpa [Array.contains_iff_mem] using this
      rw [h2] at this; cases this
    · rintro ⟨h1, h2⟩
      refine ⟨h1, ?_⟩
      cases hc : seen.contains x.born with
      | false => rfl
      | true =>
        have : x.born ∈ seen.toList := by simpa [Array.contains_iff_mem] using hc
        rw [hE2] at this
        obtain ⟨y, hy, hyb⟩ := List.mem_map.1 this
        have := born_inj hs.2.1 (hE1 y hy) (by simpa using h1) hyb
        subst this; exact absurd hy h2
  rcases run_next_at (P := P) w ty r b clock clock seen es clock hr hb hs.1 (Nat.le_refl _) with ⟨h0, hrun⟩ | ⟨e', he, w1, hw, hrun⟩
  · refine o_v (w1 := w) hl hd (by simp [xop, execOp, hx, hrun]) (k1 ?_)
    have hsub : ∀ x ∈ es.toList, x ∈ E := fun x hx => Classical.byContradiction fun hne => by
      have := (hmem x).2 ⟨hx, hne⟩
      have hz : (leftOf es seen).toList = [] := by simpa using h0
      rw [hz] at this; cases this
    have hp := perm_born hE1 (by rw [← hE2]; exact hE4) hsub hs.2.1
    have := hp.map kv
    rw [hE3, hE] at this
    exact perm_of_ents this
  · obtain ⟨he1, he2⟩ := (hmem e').1 he
    have : kv e' ∈ l.map ent := by rw [← hE]; exact List.mem_map_of_mem he1
    obtain ⟨p, hp, hpe⟩ := List.mem_map.1 this
    have hk : e'.key = .int .i64 p.1 := (congrArg Prod.fst hpe).symm
    have hv : e'.val = p.2 := (congrArg Prod.snd hpe).symm
    have hnew : (seen.push e'.born).toList = (E ++ [e']).map (·.born) := by simp [hE2]
    have hnb : e'.born ∉ seen.toList := fun h => by
      rw [hE2] at h
      obtain ⟨y, hy, hyb⟩ := List.mem_map.1 h
      have := born_inj hs.2.1 (hE1 y hy) he1 hyb
      subst this; exact he2 hy
    have hnd : (seen.push e'.born).toList.Nodup := by
      rw [Array.toList_push, List.nodup_append]
      exact ⟨hE4, by simp, by intro a ha b hb; simp only [List.mem_singleton] at hb; subst hb; intro h; subst h; exact hnb ha⟩
    have hsub : ∀ x ∈ E ++ [e'], x ∈ es.toList := fun x hx => by
      rcases List.mem_append.1 hx with h | h
      · exact hE1 x h
      · rw [List.mem_singleton.1 h]; exact he1
    have hh1 : Holds R (pt b (.map es clock) :: pt r (.mapIter (some b) clock seen clock) :: L) w1 := by
      rcases hw with rfl | rfl
      · exact hh
      · exact hh.heap_same rfl rfl rfl rfl
    have hr1 := hh1.p1.blk
    refine o_v (w1 := Go.ChangeMaps.setBlock w1 r (.mapIter (some b) clock (seen.push e'.born) clock)) hl hd (by simp [xop, execOp, hx, hrun, hk, hv]) (k2 p _ hp ?_ ?_ ?_)
    · intro hpD
      have h5 : ent p ∈ E.map kv := by rw [hE3]; exact List.mem_map_of_mem hpD
      obtain ⟨y, hy, hye⟩ := List.mem_map.1 h5
      have hyk : y.key = e'.key := by rw [hk]; exact congrArg Prod.fst hye
      have : y = e' := key_inj hs.2.2 (hE1 y hy) he1 hyk
      subst this; exact he2 hy
    · have h6 : (E ++ [e']).length ≤ es.toList.length := by
        refine len_le_of_sub ?_ hsub
        rw [hnew, List.Nodup, List.pairwise_map] at hnd
        exact hnd.imp fun h e => h (by rw [e])
      have h7 := congrArg List.length hE3
      have h8 := congrArg List.length hE
      simp only [List.length_map, List.length_append, List.length_singleton] at h6 h7 h8
      omega
    · refine RngC.mk hs hE ⟨E ++ [e'], hsub, hnew, ?_, hnd⟩ ?_
      · rw [List.map_append, hE3, List.map_append]
        simp only [List.map_cons, List.map_nil, hpe]
      · exact (hh1.p1.set (w' := Go.ChangeMaps.setBlock w1 r (.mapIter (some b) clock (seen.push e'.born) clock)) (fun x => heap_setB hr1 x) rfl rfl rfl).p1
theorem o_en {i : Nat} {d : Option Tmp} {b r : Nat} {l D : List (Int × Value)} {p : Int × Value} {x : Operand} (hl : Live ops e i d (.entry x) ty) (hd : dOk n d = true) (hx : ev e x = .pointer (some ⟨r, 0, none⟩)) (hh : Holds R (RngC b r l (D ++ [p]) :: L) w)
    (k : K (updO e d (.tuple #[.int .i64 p.1, p.2])) w) : OP1 P n ops i K e w := by
  obtain ⟨es, clock, seen, hs, hE, ⟨E, hE1, hE2, hE3, hE4⟩, hh⟩ := RngC.op hh
  have hb := hh.blk
  have hr := hh.p1.blk
  have hne : E ≠ [] := fun h => by subst h; simp at hE3
  obtain ⟨E', e', rfl⟩ : ∃ E' e', E = E' ++ [e'] := ⟨_, _, (List.dropLast_concat_getLast hne).symm⟩
  have hlast : kv e' = ent p := by
    simp only [List.map_append, List.map_cons, List.map_nil] at hE3
    exact (List.append_inj_right' hE3 rfl) |> fun h => by simpa using h
  have hk : e'.key = .int .i64 p.1 := congrArg Prod.fst hlast
  have hv : e'.val = p.2 := congrArg Prod.snd hlast
  obtain ⟨seen', hseen⟩ : ∃ s' : Array Nat, seen = s'.push e'.born := by
    refine ⟨(E'.map (·.born)).toArray, ?_⟩
    apply Array.toList_inj.1
    rw [hE2]; simp
  subst hseen
  have := run_entry_at (P := P) w r b clock seen' es clock e' hr hb (hE1 e' (by simp)) hs.2.1
  refine o_v (w1 := w) hl hd (by simp [xop, execOp, hx, this, hk, hv]) k
end
end Go.Lt
