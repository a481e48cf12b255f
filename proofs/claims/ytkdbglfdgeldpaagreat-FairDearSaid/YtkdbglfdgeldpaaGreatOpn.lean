/- The arguments of a statement are opened: what they read as, and that they read so still when the memory has grown. Condition: none. -/
import Derived.Test.YtkdbglfdgeldpaaGreatRows
import Derived.WalkKit
import Derived.ProofKit
import Derived.OpenShut
import Derived.Test.YtkdbglfdgeldpaaGreatWide
namespace Go.Proofs.YtkdbglfdgeldpaaGreat
open Go.Lt Go.ChangeShapes Go.WideShapes Go.ChangeAt Go.RowKit

theorem cells24 : Tryz.prog.cellsOf 24 = 5 := by kernel_rfl
theorem cells3 : Tryz.prog.cellsOf 3 = 1 := by kernel_rfl
theorem cells22 : Tryz.prog.cellsOf 22 = 1 := by kernel_rfl
theorem cells39 : Tryz.prog.cellsOf 39 = 1 := by kernel_rfl
theorem cells46 : Tryz.prog.cellsOf 46 = 4 := by kernel_rfl

section
variable {W W' : World}
theorem cell_up (s : Sub (hp W) (hp W')) {a : Addr} {v : Value} (h : W.cell? a = some v) : W'.cell? a = some v := by
  unfold World.cell? at h ⊢
  cases hb : W.heap[a.block]? with
  | none => rw [hb] at h; cases h
  | some o => rw [hb] at h; rw [show W'.heap[a.block]? = some o from s _ _ hb]; exact h
theorem mapM_up {α β : Type} {f g : α → Option β} : ∀ (l : List α) (ys : List β), l.mapM f = some ys → (∀ i ∈ l, ∀ y ∈ ys, f i = some y → g i = some y) → l.mapM g = some ys
  | [], ys, h, _ => h
  | x :: l, ys, h, hk => by
    rw [List.mapM_cons] at h ⊢
    cases hx : f x with
    | none => rw [hx] at h; cases h
    | some y =>
      cases hl : l.mapM f with
      | none => rw [hx, hl] at h; cases h
      | some zs =>
        rw [hx, hl] at h
        cases h
        rw [hk x (by simp) y (by simp) hx, mapM_up l zs hl fun i hi z hz he => hk i (by simp [hi]) z (by simp [hz]) he]
        rfl
theorem cells_up (s : Sub (hp W) (hp W')) {base : Nat} {a : Addr} {n : Nat} {cs : List Value} (h : W.cells? base a n = some cs) : W'.cells? base a n = some cs := by
  unfold World.cells? at h ⊢
  split at h
  ·rename_i hb
   rw [if_pos hb]
   exact mapM_up _ _ h fun i _ y _ he => cell_up s he
  ·cases h

variable {H : Type} {enc : TypeId × Value → H} {P : Program} {sp : Nat → Bool}
/-- What is read of this type, is read again. -/
def Kp (enc : TypeId × Value → H) (P : Program) (W W' : World) (sp : Nat → Bool) (t : TypeId) : Prop :=
  ∀ fuel cs x, DataW.trod enc P W 0 (fun _ => true) true fuel t cs = some x → (∀ p ∈ x.2, sp p.block = true) → DataW.trod enc P W' 0 sp true fuel t cs = some x

theorem kp_int {t : TypeId} {k : IntKind} (ht : P.underlying t = some (.int k)) : Kp enc P W W' sp t := by
  intro fuel cs x h _
  cases fuel with
  | zero => simp [DataW.trod] at h
  | succ m =>
    obtain ⟨n, rfl, rfl, hw⟩ := DataW.trod_int ht h
    exact trod_int_mk m ht hw
theorem kp_struct {t : TypeId} {fs : Array Field} (ht : P.underlying t = some (.struct fs)) (hf : ∀ f ∈ fs.toList, Kp enc P W W' sp f.type) : Kp enc P W W' sp t := by
  intro fuel cs x h hsp
  cases fuel with
  | zero => simp [DataW.trod] at h
  | succ m =>
    obtain ⟨_, _, _, _, hl, _, _⟩ := DataW.trod_struct ht h
    have h2 : ∃ xs, fs.toList.mapM (fun f => DataW.trod enc P W 0 (fun _ => true) true m f.type ((cs.drop f.offset).take (P.cellsOf f.type))) = some xs ∧ x = (.agg (xs.map (·.1)), xs.flatMap (·.2)) := by
      unfold DataW.trod at h
      rw [ht] at h
      split at h <;> simp_all
      obtain ⟨xs, h1, h2⟩ := h
      exact ⟨xs, h1, h2.1.symm, h2.2.symm⟩
    obtain ⟨xs, h1, rfl⟩ := h2
    refine trod_struct_mk ht hl (mapM_up _ _ h1 fun f hfm y hy he => hf f hfm _ _ _ he fun p hp => hsp p (List.mem_flatMap.2 ⟨y, hy, hp⟩))
theorem mem_row {a : Addr} {n : Nat} (hn : 0 < n) : MemPlace.cell a.block a.off ∈ MemPlace.row a n := by
  unfold MemPlace.row
  exact List.mem_map.2 ⟨0, by simpa using hn, by simp⟩
theorem trod_slice_inv {w : World} {base : Nat} {spare : Nat → Bool} {held : Bool} {fuel : Nat} {t e : TypeId} {cs : List Value} {x : DataW H × List MemPlace} (ht : P.underlying t = some (.slice e)) (h : DataW.trod enc P w base spare held (fuel + 1) t cs = some x) :
    (cs = [.slice none 0 0] ∧ x = (.nil, [])) ∨ ∃ (a : Addr) (len cap : Nat) (elems rest : List (DataW H × List MemPlace)), cs = [.slice (some a) len cap] ∧ base ≤ a.block ∧ len ≤ cap ∧ cap ≤ maxLen ∧
      (List.range len).mapM (fun i => (w.cells? base (a.add (i * P.cellsOf e)) (P.cellsOf e)).bind (DataW.trod enc P w base spare held fuel e)) = some elems ∧
      (if spare a.block then (List.range (cap - len)).mapM (fun j => (w.cells? base (a.add ((len + j) * P.cellsOf e)) (P.cellsOf e)).bind (DataW.trod enc P w base spare held fuel e)) else some []) = some rest ∧
      x = (.slice (elems.map (·.1)) (rest.map (·.1)), MemPlace.row a ((elems.length + rest.length) * P.cellsOf e) ++ (elems ++ rest).flatMap (·.2)) := by
  rcases DataW.trod_slice ht h with h0 | ⟨a, len, cap, _, _, n, hn, rfl, hx, hb, hl, hm, _⟩
  ·exact .inl h0
  right
  clear hx
  unfold DataW.trod at h
  rw [ht] at h
  dsimp only at h
  rw [if_pos ⟨hb, hl, hm⟩] at h
  cases h1 : (List.range len).mapM (fun i => (w.cells? base (a.add (i * P.cellsOf e)) (P.cellsOf e)).bind (DataW.trod enc P w base spare held fuel e)) with
  | none => rw [h1] at h; cases h
  | some elems =>
    rw [h1, Option.bind_some, Option.map_eq_some_iff] at h
    obtain ⟨rest, h2, h3⟩ := h
    exact ⟨a, len, cap, elems, rest, rfl, hb, hl, hm, h1, h2, h3.symm⟩
theorem trod_slice_mk {w : World} {base : Nat} {spare : Nat → Bool} {held : Bool} {fuel : Nat} {t e : TypeId} (ht : P.underlying t = some (.slice e)) {a : Addr} {len cap : Nat} {elems rest : List (DataW H × List MemPlace)} (h1 : base ≤ a.block) (h2 : len ≤ cap) (h3 : cap ≤ maxLen)
    (h4 : (List.range len).mapM (fun i => (w.cells? base (a.add (i * P.cellsOf e)) (P.cellsOf e)).bind (DataW.trod enc P w base spare held fuel e)) = some elems)
    (h5 : (if spare a.block then (List.range (cap - len)).mapM (fun j => (w.cells? base (a.add ((len + j) * P.cellsOf e)) (P.cellsOf e)).bind (DataW.trod enc P w base spare held fuel e)) else some []) = some rest) :
    DataW.trod enc P w base spare held (fuel + 1) t [.slice (some a) len cap] = some (.slice (elems.map (·.1)) (rest.map (·.1)), MemPlace.row a ((elems.length + rest.length) * P.cellsOf e) ++ (elems ++ rest).flatMap (·.2)) := by
  unfold DataW.trod
  rw [ht]
  simp only [h1, h2, h3, and_self, if_true, h4, Option.bind_some, h5, Option.map_some]
theorem mapM_len {α β : Type} {f : α → Option β} : ∀ {l : List α} {ys : List β}, l.mapM f = some ys → ys.length = l.length
  | [], ys, h => by cases h; rfl
  | x :: l, ys, h => by
    rw [List.mapM_cons] at h
    cases hx : f x with
    | none => rw [hx] at h; cases h
    | some y =>
      cases hl : l.mapM f with
      | none => rw [hx, hl] at h; cases h
      | some zs => rw [hx, hl] at h; cases h; simp [mapM_len hl]
theorem kp_slice (s : Sub (hp W) (hp W')) {t e : TypeId} (ht : P.underlying t = some (.slice e)) (hc : 0 < P.cellsOf e) (he : Kp enc P W W' sp e) : Kp enc P W W' sp t := by
  intro fuel cs x h hsp
  cases fuel with
  | zero => simp [DataW.trod] at h
  | succ m =>
    rcases trod_slice_inv ht h with ⟨rfl, rfl⟩ | ⟨a, len, cap, elems, rest, rfl, h1, h2, h3, h4, h5, rfl⟩
    ·unfold DataW.trod; rw [ht]; rfl
    ·have hel : ∀ b : Addr, ∀ y ∈ elems ++ rest, (W.cells? 0 b (P.cellsOf e)).bind (DataW.trod enc P W 0 (fun _ => true) true m e) = some y → (W'.cells? 0 b (P.cellsOf e)).bind (DataW.trod enc P W' 0 sp true m e) = some y := by
       intro b y hy hb
       rw [Option.bind_eq_some_iff] at hb ⊢
       obtain ⟨c, hc1, hc2⟩ := hb
       exact ⟨c, cells_up s hc1, he _ _ _ hc2 fun p hp => hsp p (List.mem_append_right _ (List.mem_flatMap.2 ⟨y, hy, hp⟩))⟩
     have h5' : (List.range (cap - len)).mapM (fun j => (W.cells? 0 (a.add ((len + j) * P.cellsOf e)) (P.cellsOf e)).bind (DataW.trod enc P W 0 (fun _ => true) true m e)) = some rest := by simpa using h5
     have l1 := mapM_len h4
     have l2 := mapM_len h5'
     rw [List.length_range] at l1 l2
     refine trod_slice_mk ht h1 h2 h3 (mapM_up _ _ h4 fun i _ y hy hb => hel _ y (by simp [hy]) hb) ?_
     rcases Nat.eq_zero_or_pos cap with hz | hz
     ·have : rest = [] := List.eq_nil_of_length_eq_zero (by omega)
      subst this
      have e1 : cap - len = 0 := by omega
      rw [e1]
      split <;> rfl
     ·have : sp a.block = true := hsp (.cell a.block a.off) (List.mem_append_left _ (mem_row (Nat.mul_pos (by omega) hc)))
      rw [if_pos this]
      exact mapM_up _ _ h5' fun i _ y hy hb => hel _ y (by simp [hy]) hb
theorem trodAll_up : ∀ {ts : List TypeId} {vs : List Value} {ds : List (DataW H)} {ps : List MemPlace}, DataW.TrodAll enc P W 0 (fun _ => true) true ts vs ds ps → (∀ t ∈ ts, Kp enc P W W' sp t) → (∀ p ∈ ps, sp p.block = true) → DataW.TrodAll enc P W' 0 sp true ts vs ds ps
  | [], _, _, _, h, _, _ => by
    obtain ⟨rfl, rfl, rfl⟩ := trodAll_nil h
    rfl
  | t :: ts, _, _, _, h, hk, hp => by
    obtain ⟨v, vs1, d, ds1, a, b, rfl, rfl, rfl, ⟨fu, h1⟩, h2⟩ := trodAll_cons h
    exact ⟨a, b, ⟨fu, hk t (by simp) _ _ _ h1 fun p hp' => hp p (by simp [hp'])⟩, trodAll_up h2 (fun t ht => hk t (by simp [ht])) fun p hp' => hp p (by simp [hp']), rfl⟩

/-- What a world that only grew keeps. -/
theorem kept_of {w w' : World} (h : Go.Lt.Holds (baseOf w) [] w') (may : MemPlace → Prop) : w.keptBut w' may := by
  refine ⟨h.os, h.output, fun i hi => ?_⟩
  have e : w'.heap[i]? = w.heap[i]? := by
    have hb : w.heap[i]? = some w.heap[i] := Array.getElem?_eq_getElem hi
    rw [hb]; exact h.ro i _ hb
  rw [e]
  have hb : w.heap[i]? = some w.heap[i] := Array.getElem?_eq_getElem hi
  rw [hb]
  cases w.heap[i] <;> simp
theorem post_true {f : Func} {s : ChangeSpec} {W W' : World} {args : Array Value} {ds gs : List (DataW H)} {before : List MemPlace}
    (hW : DataW.Whole enc P f.params.toList s.vars false W args.toList ds gs before) (hv0 : s.vars = []) (hg : Go.Lt.Holds (baseOf W) [] W') (hkp : ∀ sp, ∀ t ∈ f.params.toList, Kp enc P W W' sp t) {tb : TypeId} (hr : f.resultTypes = #[tb]) (hb : P.underlying tb = some .bool)
    (hfn : s.fn H (ds ++ gs) = { results := [.lit (.bool true)], args := ds }) :
    s.post enc P f false true false false W args (.bool true) W' := by
  have hold : ∀ p ∈ before, (fun b => decide (b < W.heap.size)) p.block = true := fun p hp => by simpa using hW.lt p hp
  have hW0 := hW
  obtain ⟨p, q, hA, hV, rfl, hz, -⟩ := hW
  rw [hv0] at hV
  obtain ⟨rfl, rfl⟩ := trodVars_none hV
  rw [List.append_nil] at hold hfn hz
  have hsh : ∀ (b : Nat) (sp : Nat → Bool) (hd : Bool), DataW.TrodAll enc P W' b sp hd [tb] [.bool true] [.lit (.bool true)] [] := fun b sp hd => trodAll_cons_mk (shut_bool hb _) trodAll_mk0
  have hres : ∀ (b : Nat) (sp : Nat → Bool) (hd : Bool), DataW.TrodAll enc P W' b sp hd f.resultTypes.toList ((Value.bool true).resultList f.resultTypes.size) [.lit (.bool true)] [] := by
    intro b sp hd; rw [hr]; exact hsh b sp hd
  have hargs : ∀ sp : Nat → Bool, (∀ x ∈ p, sp x.block = true) → DataW.TrodAll enc P W' 0 sp true f.params.toList args.toList ds p := fun sp hs => trodAll_up hA (hkp sp) hs
  have hvars : ∀ sp : Nat → Bool, DataW.TrodVars enc P W' sp s.vars [] [] := fun sp => by rw [hv0]; rfl
  exact ⟨ds, [], p, [], p, [], by simpa using hW0, by rw [List.append_nil, hfn]; exact hres _ _ _, by rw [List.append_nil, hfn]; exact hargs _ hold, by rw [List.append_nil, hfn]; exact hvars _, kept_of hg _, fun h => by cases h⟩

theorem I_of {n : Int} (h : (Lit.int .i64 n).wf = true) : I n := bounds_i64 h
theorem U_of {n : Int} (h : (Lit.int .u64 n).wf = true) : U n := bounds_u64 h
theorem exists_list {α : Type} (Q : Nat → α → Prop) : ∀ n, (∀ i, i < n → ∃ x, Q i x) → ∃ l : List α, l.length = n ∧ ∀ i x, l[i]? = some x → Q i x
  | 0, _ => ⟨[], rfl, fun i x h => by simp at h⟩
  | n + 1, h => by
    obtain ⟨l, hl, hq⟩ := exists_list Q n fun i hi => h i (by omega)
    obtain ⟨x, hx⟩ := h n (by omega)
    refine ⟨l ++ [x], by simp [hl], fun i y hy => ?_⟩
    by_cases hi : i < l.length
    ·rw [List.getElem?_append_left hi] at hy; exact hq i y hy
    ·have : i = l.length := by
       have := (List.getElem?_eq_some_iff.1 hy).1
       simp at this; omega
     subst this
     simp at hy
     subst hy
     rw [hl]; exact hx
/-- An address at which a row of cells lies. -/
def Lies (w : World) (a : Addr) : Prop := a.spot = none ∧ ∃ c t fr, w.heap[a.block]? = some (.cells c t fr)
theorem lies_of_cell {w : World} {a : Addr} {v : Value} (h : w.cell? a = some v) : Lies w a := by
  unfold World.cell? at h
  cases hb : w.heap[a.block]? with
  | none => rw [hb] at h; cases h
  | some o =>
    rw [hb] at h
    cases o with
    | cells c t fr =>
      simp only at h
      split at h
      ·cases h
      ·rename_i hs; exact ⟨by simpa using hs, c, t, fr, hb⟩
    | _ => cases h
theorem open_slice {α : Type} {enc' : α → List Value} {Gd : α → Prop} {t e k : Nat} (ht : P.underlying t = some (.slice e)) (hc : P.cellsOf e = k) (hk0 : 0 < k) (hk : ∀ x, (enc' x).length = k)
    (hel : ∀ fuel cs y, DataW.trod enc P W 0 (fun _ => true) true fuel e cs = some y → ∃ x, Gd x ∧ cs = enc' x) {fuel : Nat} {cs0 : List Value} {x : DataW H × List MemPlace} (h : DataW.trod enc P W 0 (fun _ => true) true fuel t cs0 = some x) :
    ∃ (v : Value) (l : List α), cs0 = [v] ∧ Rw enc' v l (hp W) ∧ (Rd enc' v l (hp W) ∨ ∃ a, v = .slice (some a) 0 0) ∧ ((∀ a n m, v = .slice (some a) n m → Lies W a) → Rd enc' v l (hp W)) ∧ l.length ≤ 9223372036854775807 ∧ ∀ x ∈ l, Gd x := by
  rcases DataW.trod_slice ht h with ⟨rfl, _⟩ | ⟨a, len, cap, elems, rest, n, hn, rfl, hx, hb, hl, hm, hlen, hel', hsp, _⟩
  ·exact ⟨_, [], rfl, .inl (Rd.nil _ _), .inl (Rd.nil _ _), fun _ => Rd.nil _ _, by simp, by simp⟩
  obtain ⟨hrl, hr⟩ := hsp rfl
  rw [hc] at hel' hr
  have hone : ∀ i, i < cap → ∃ x : α, Gd x ∧ W.cells? 0 (a.add (i * k)) k = some (enc' x) := by
    intro i hi
    have : ∃ y, (W.cells? 0 (a.add (i * k)) k).bind (DataW.trod enc P W 0 (fun _ => true) true n e) = some y := by
      by_cases h1 : i < len
      ·exact ⟨_, (hel' i h1).trans (List.getElem?_eq_getElem (by omega))⟩
      ·have := hr (i - len) (by omega)
       rw [show len + (i - len) = i by omega] at this
       exact ⟨_, this.trans (List.getElem?_eq_getElem (by omega))⟩
    obtain ⟨y, hy⟩ := this
    rw [Option.bind_eq_some_iff] at hy
    obtain ⟨cs, hcs, hy⟩ := hy
    obtain ⟨x, hg, rfl⟩ := hel _ _ _ hy
    exact ⟨x, hg, hcs⟩
  obtain ⟨l, hll, hlq⟩ := exists_list (fun i x => Gd x ∧ W.cells? 0 (a.add (i * k)) k = some (enc' x)) len fun i hi => hone i (by omega)
  have hrd : Lies W a → Rd enc' (.slice (some a) len cap) l (hp W) := by
    rintro ⟨hs, c, t', fr, hb'⟩
    obtain ⟨b, off, spot⟩ := a
    cases hs
    refine .inr ⟨b, off, cap, c.toList, (t', fr), by rw [hll], by simpa [hp] using hb', by omega, fun j v hj => ?_⟩
    have hjl := (List.getElem?_eq_some_iff.1 hj).1
    rw [flat_length hk] at hjl
    have hi : j / k < l.length := (Nat.div_lt_iff_lt_mul hk0).2 hjl
    have hlt := Nat.mod_lt j hk0
    have hdm : j / k * k + j % k = j := Nat.div_add_mod' j k
    have hg := flat_get hk l (j / k) (j % k) _ (List.getElem?_eq_getElem hi) hlt
    rw [hdm, hj] at hg
    have hcs := (World.cells?_some (hlq _ _ (List.getElem?_eq_getElem hi)).2).2.2 (j % k) hlt
    rw [add_mk, add_mk, ← hg] at hcs
    rw [show off + j / k * k + j % k = off + j by omega] at hcs
    unfold World.cell? at hcs
    dsimp only at hb' hcs
    rw [hb'] at hcs
    simpa using hcs
  have hz : 0 < cap → Lies W a := by
    intro h0
    obtain ⟨x, _, hx⟩ := hone 0 h0
    have hx := (World.cells?_some hx).2.2 0 hk0
    have hlt : 0 < (enc' x).length := by rw [hk]; exact hk0
    rw [List.getElem?_eq_getElem hlt] at hx
    have e1 : (a.add (0 * k)).add 0 = a := by simp [Addr.add]
    rw [e1] at hx
    exact lies_of_cell hx
  have hgd : ∀ x ∈ l, Gd x := by
    intro x hx
    obtain ⟨i, hi⟩ := List.getElem?_of_mem hx
    exact (hlq i x hi).1
  have hml : l.length ≤ 9223372036854775807 := by rw [hll]; unfold maxLen at hm; omega
  rcases Nat.eq_zero_or_pos cap with h0 | h0
  ·have h1 : len = 0 := by omega
   subst h0 h1
   have : l = [] := List.eq_nil_of_length_eq_zero hll
   subst this
   exact ⟨_, [], rfl, .inr ⟨rfl, some a, rfl⟩, .inr ⟨a, rfl⟩, fun hv => hrd (hv _ _ _ rfl), hml, hgd⟩
  ·exact ⟨_, l, rfl, .inl (hrd (hz h0)), .inl (hrd (hz h0)), fun _ => hrd (hz h0), hml, hgd⟩
theorem lies_of_ok {r : Reach} {b0 : Nat} {t e : TypeId} {v : Value} (ht : P.underlying t = some (.slice e)) (hv : Value.okWide P W r b0 t v) : ∀ a n m, v = .slice (some a) n m → Lies W a := by
  rintro a n m rfl
  unfold Value.okWide at hv
  rw [ht] at hv
  unfold Cell.okWide at hv
  rw [ht] at hv
  unfold Cell.ok at hv
  rw [ht] at hv
  obtain ⟨_, _, _, hs, row, cells, hsh, _⟩ := hv
  refine ⟨hs, ?_⟩
  unfold World.shape? at hsh
  cases hb : W.heap[a.block]? with
  | none => rw [hb] at hsh; cases hsh
  | some o =>
    rw [hb] at hsh
    cases o with
    | cells c t fr => exact ⟨c, t, fr, rfl⟩
    | _ => cases hsh
end
set_option maxRecDepth 100000
section
variable {W W' : World} {H : Type} {enc : TypeId × Value → H} {sp : Nat → Bool} {b0 : Nat}
theorem open_call (fuel : Nat) (cs : List Value) (y : DataW H × List MemPlace) (h : DataW.trod enc Tryz.prog W 0 sp true fuel 46 cs = some y) : ∃ c : Call, c.ok ∧ cs = encC c := by
  obtain ⟨xs, n, rfl, rfl, hl, hlen, hf⟩ := DataW.trod_struct Tryz.underlying46 h
  rw [cells46] at hl
  match cs, hl with
  | [c0, c1, c2, c3], _ =>
    have h0 : DataW.trod enc Tryz.prog W 0 sp true n 3 (([c0, c1, c2, c3].drop 0).take (Tryz.prog.cellsOf 3)) = xs[0]? := hf 0 _ rfl
    have h1 : DataW.trod enc Tryz.prog W 0 sp true n 3 (([c0, c1, c2, c3].drop 1).take (Tryz.prog.cellsOf 3)) = xs[1]? := hf 1 _ rfl
    have h2 : DataW.trod enc Tryz.prog W 0 sp true n 3 (([c0, c1, c2, c3].drop 2).take (Tryz.prog.cellsOf 3)) = xs[2]? := hf 2 _ rfl
    have h3 : DataW.trod enc Tryz.prog W 0 sp true n 3 (([c0, c1, c2, c3].drop 3).take (Tryz.prog.cellsOf 3)) = xs[3]? := hf 3 _ rfl
    rw [cells3] at h0 h1 h2 h3
    dsimp only [List.drop, List.take] at h0 h1 h2 h3
    obtain ⟨n0, e0, -, w0⟩ := DataW.trod_int Tryz.underlying3 (h0.trans (List.getElem?_eq_getElem (by rw [hlen]; decide)))
    obtain ⟨n1, e1, -, w1⟩ := DataW.trod_int Tryz.underlying3 (h1.trans (List.getElem?_eq_getElem (by rw [hlen]; decide)))
    obtain ⟨n2, e2, -, w2⟩ := DataW.trod_int Tryz.underlying3 (h2.trans (List.getElem?_eq_getElem (by rw [hlen]; decide)))
    obtain ⟨n3, e3, -, w3⟩ := DataW.trod_int Tryz.underlying3 (h3.trans (List.getElem?_eq_getElem (by rw [hlen]; decide)))
    cases e0; cases e1; cases e2; cases e3
    exact ⟨⟨n0, n1, n2, n3⟩, ⟨I_of w0, I_of w1, I_of w2, I_of w3⟩, rfl⟩
theorem open_cfg {r : Reach} {v : Value} {d : DataW H} {ps : List MemPlace} (hv : Value.okWide Tryz.prog W r b0 24 v) (h : DataW.Trod enc Tryz.prog W 0 sp true 24 v d ps) :
    ∃ c : Config, v = vCfg c ∧ I c.shards ∧ I c.slots ∧ I c.workers ∧ I c.width ∧ U c.unit := by
  unfold Value.okWide at hv
  rw [Tryz.underlying24] at hv
  obtain ⟨cs, rfl, -, -⟩ := hv
  obtain ⟨fuel, h⟩ := h
  obtain ⟨xs, n, rfl, -, hl, hlen, hf⟩ := DataW.trod_struct Tryz.underlying24 h
  rw [cells24] at hl
  have hcs : (Value.agg cs).cells.toList = cs.toList := rfl
  rw [hcs] at hl hf
  obtain ⟨l⟩ := cs
  dsimp only at hl hf
  match l, hl with
  | [c0, c1, c2, c3, c4], _ =>
    have h0 : DataW.trod enc Tryz.prog W 0 sp true n 3 (([c0, c1, c2, c3, c4].drop 0).take (Tryz.prog.cellsOf 3)) = xs[0]? := hf 0 _ rfl
    have h1 : DataW.trod enc Tryz.prog W 0 sp true n 3 (([c0, c1, c2, c3, c4].drop 1).take (Tryz.prog.cellsOf 3)) = xs[1]? := hf 1 _ rfl
    have h2 : DataW.trod enc Tryz.prog W 0 sp true n 3 (([c0, c1, c2, c3, c4].drop 2).take (Tryz.prog.cellsOf 3)) = xs[2]? := hf 2 _ rfl
    have h3 : DataW.trod enc Tryz.prog W 0 sp true n 3 (([c0, c1, c2, c3, c4].drop 3).take (Tryz.prog.cellsOf 3)) = xs[3]? := hf 3 _ rfl
    have h4 : DataW.trod enc Tryz.prog W 0 sp true n 22 (([c0, c1, c2, c3, c4].drop 4).take (Tryz.prog.cellsOf 22)) = xs[4]? := hf 4 _ rfl
    rw [cells3] at h0 h1 h2 h3
    rw [cells22] at h4
    dsimp only [List.drop, List.take] at h0 h1 h2 h3 h4
    obtain ⟨n0, e0, -, w0⟩ := DataW.trod_int Tryz.underlying3 (h0.trans (List.getElem?_eq_getElem (by rw [hlen]; decide)))
    obtain ⟨n1, e1, -, w1⟩ := DataW.trod_int Tryz.underlying3 (h1.trans (List.getElem?_eq_getElem (by rw [hlen]; decide)))
    obtain ⟨n2, e2, -, w2⟩ := DataW.trod_int Tryz.underlying3 (h2.trans (List.getElem?_eq_getElem (by rw [hlen]; decide)))
    obtain ⟨n3, e3, -, w3⟩ := DataW.trod_int Tryz.underlying3 (h3.trans (List.getElem?_eq_getElem (by rw [hlen]; decide)))
    obtain ⟨n4, e4, -, w4⟩ := DataW.trod_int Tryz.underlying22 (h4.trans (List.getElem?_eq_getElem (by rw [hlen]; decide)))
    cases e0; cases e1; cases e2; cases e3; cases e4
    exact ⟨⟨n0, n1, n2, n3, n4⟩, rfl, I_of w0, I_of w1, I_of w2, I_of w3, U_of w4⟩
theorem cells_one {v : Value} {u : Value} (h : v.cells.toList = [u]) (hv : ∀ c, v ≠ .agg c) : v = u := by
  cases v <;> first | (simp [Value.cells] at h; exact h) | (exact absurd rfl (hv _))
theorem not_agg {r : Reach} {t e : TypeId} {v : Value} (ht : Tryz.prog.underlying t = some (.slice e)) (hv : Value.okWide Tryz.prog W r b0 t v) : ∀ c, v ≠ .agg c := by
  rintro c rfl
  unfold Value.okWide at hv
  rw [ht] at hv
  unfold Cell.okWide at hv
  rw [ht] at hv
  unfold Cell.ok at hv
  rw [ht] at hv
  exact hv
theorem open_turns {r : Reach} {v : Value} {d : DataW H} {ps : List MemPlace} (hv : Value.okWide Tryz.prog W r b0 26 v) (h : DataW.Trod enc Tryz.prog W 0 (fun _ => true) true 26 v d ps) :
    ∃ l : List Int, Rd encI v l (hp W) ∧ l.length ≤ 9223372036854775807 ∧ ∀ x ∈ l, I x := by
  obtain ⟨fuel, h⟩ := h
  obtain ⟨u, l, hu, -, -, hr, hl, hg⟩ := open_slice (enc' := encI) (Gd := I) Tryz.underlying26 cells3 (by decide) hkI (fun fuel cs y h => by
    obtain ⟨n, rfl, -, hw⟩ := DataW.trod_int Tryz.underlying3 h
    exact ⟨n, I_of hw, rfl⟩) h
  have := cells_one hu (not_agg Tryz.underlying26 hv)
  subst this
  exact ⟨l, hr (lies_of_ok Tryz.underlying26 hv), hl, hg⟩
theorem open_calls {r : Reach} {v : Value} {d : DataW H} {ps : List MemPlace} (hv : Value.okWide Tryz.prog W r b0 39 v) (h : DataW.Trod enc Tryz.prog W 0 (fun _ => true) true 39 v d ps) :
    ∃ l : List Call, Rd encC v l (hp W) ∧ l.length ≤ 9223372036854775807 ∧ ∀ x ∈ l, x.ok := by
  obtain ⟨fuel, h⟩ := h
  obtain ⟨u, l, hu, -, -, hr, hl, hg⟩ := open_slice (enc' := encC) (Gd := Call.ok) Tryz.underlying39 cells46 (by decide) hkC (fun fuel cs y h => open_call fuel cs y h) h
  have := cells_one hu (not_agg Tryz.underlying39 hv)
  subst this
  exact ⟨l, hr (lies_of_ok Tryz.underlying39 hv), hl, hg⟩
theorem open_lists {r : Reach} {v : Value} {d : DataW H} {ps : List MemPlace} (hv : Value.okWide Tryz.prog W r b0 25 v) (h : DataW.Trod enc Tryz.prog W 0 (fun _ => true) true 25 v d ps) :
    ∃ ls : List (List Call), WLists v ls (hp W) ∧ ls.length ≤ 9223372036854775807 ∧ ∀ l ∈ ls, l.length ≤ 9223372036854775807 ∧ ∀ c ∈ l, c.ok := by
  obtain ⟨fuel, h⟩ := h
  obtain ⟨u, vs, hu, -, -, hr, hl, hg⟩ := open_slice (enc' := encV) (Gd := fun x => ∃ l : List Call, Rw encC x l (hp W) ∧ l.length ≤ 9223372036854775807 ∧ ∀ c ∈ l, c.ok) Tryz.underlying25 cells39 (by decide) hkV (fun fuel cs y h => by
    obtain ⟨x, l, rfl, hrw, -, -, hl, hg⟩ := open_slice (enc' := encC) (Gd := Call.ok) Tryz.underlying39 cells46 (by decide) hkC (fun fuel cs y h => open_call fuel cs y h) h
    exact ⟨x, ⟨l, hrw, hl, hg⟩, rfl⟩) h
  have := cells_one hu (not_agg Tryz.underlying25 hv)
  subst this
  obtain ⟨ls, hls, hq⟩ := exists_list (fun i (l : List Call) => ∀ x, vs[i]? = some x → Rw encC x l (hp W) ∧ l.length ≤ 9223372036854775807 ∧ ∀ c ∈ l, c.ok) vs.length fun i hi => by
    obtain ⟨l, h1⟩ := hg _ (List.getElem_mem hi)
    exact ⟨l, fun x hx => by rw [List.getElem?_eq_getElem hi] at hx; cases hx; exact h1⟩
  refine ⟨ls, ⟨vs, hls.symm, hr (lies_of_ok Tryz.underlying25 hv), fun i x l hx hl => (hq i l hl x hx).1⟩, by omega, fun l hl => ?_⟩
  obtain ⟨i, hi⟩ := List.getElem?_of_mem hl
  have hlt := (List.getElem?_eq_some_iff.1 hi).1
  exact (hq i l hi _ (List.getElem?_eq_getElem (by omega))).2
theorem kp3 (W W' : World) (sp : Nat → Bool) : Kp enc Tryz.prog W W' sp 3 := kp_int Tryz.underlying3
theorem kp24 (W W' : World) (sp : Nat → Bool) : Kp enc Tryz.prog W W' sp 24 := kp_struct Tryz.underlying24 (by
  intro f hf
  simp only [List.mem_cons, List.not_mem_nil, or_false] at hf
  rcases hf with rfl | rfl | rfl | rfl | rfl <;> first | exact kp_int Tryz.underlying3 | exact kp_int Tryz.underlying22)
theorem kp46 (W W' : World) (sp : Nat → Bool) : Kp enc Tryz.prog W W' sp 46 := kp_struct Tryz.underlying46 (by
  intro f hf
  simp only [List.mem_cons, List.not_mem_nil, or_false] at hf
  rcases hf with rfl | rfl | rfl | rfl <;> exact kp_int Tryz.underlying3)
theorem kp39 (s : Go.Lt.Sub (hp W) (hp W')) : Kp enc Tryz.prog W W' sp 39 := kp_slice s Tryz.underlying39 (by rw [cells46]; decide) (kp46 W W' sp)
theorem kp25 (s : Go.Lt.Sub (hp W) (hp W')) : Kp enc Tryz.prog W W' sp 25 := kp_slice s Tryz.underlying25 (by rw [cells39]; decide) (kp39 s)
theorem kp26 (s : Go.Lt.Sub (hp W) (hp W')) : Kp enc Tryz.prog W W' sp 26 := kp_slice s Tryz.underlying26 (by rw [cells3]; decide) (kp3 W W' sp)
end
end Go.Proofs.YtkdbglfdgeldpaaGreat
