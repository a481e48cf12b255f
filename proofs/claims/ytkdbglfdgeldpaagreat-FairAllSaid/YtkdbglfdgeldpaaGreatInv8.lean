/- The plain law: what the books hold, step by step; gaps, fairness, what is left. Condition: none. -/
import Derived.Test.YtkdbglfdgeldpaaGreatFair
set_option linter.unusedVariables false
namespace Go.Proofs.YtkdbglfdgeldpaaGreat
open Go.Lt
/-! ### A model, seen flow by flow -/
def look (s : Sq) (f : Int) : Option Flw := match s.at f with
  | none => none
  | some i => (s.F[i]?).map (·.2)
theorem look_mem {s : Sq} (h : s.srt) {f : Int} {w : Flw} : look s f = some w ↔ (f, w) ∈ s.F := by
  constructor
  ·intro hl
   unfold look at hl
   split at hl
   ·cases hl
   ·rename_i i hi
    obtain ⟨x, hx, hf⟩ := Sq.at_spec hi
    rw [hx] at hl
    cases hl
    subst hf
    exact List.mem_of_getElem? hx
  ·intro hm
   obtain ⟨i, hi⟩ := List.getElem?_of_mem hm
   have := at_of_get h hi
   unfold look
   rw [this]; simp only [hi]; rfl
theorem look_none {s : Sq} (h : s.srt) {f : Int} : look s f = none ↔ s.at f = none := by
  unfold look
  constructor
  ·intro hl
   split at hl
   ·assumption
   ·rename_i i hi
    obtain ⟨x, hx, hf⟩ := Sq.at_spec hi
    rw [hx] at hl; cases hl
  ·intro hl; rw [hl]
theorem look_ext {s s' : Sq} (h : s.srt) (h' : s'.srt) {k : Int} {o : Option Flw} (hm : ∀ f w, (f, w) ∈ s'.F ↔ (f = k ∧ o = some w) ∨ (f ≠ k ∧ (f, w) ∈ s.F)) (f : Int) : look s' f = if f = k then o else look s f := by
  apply Option.ext
  intro w
  rw [look_mem h', hm]
  split
  ·rename_i hf; simp [hf]
  ·rename_i hf; simp [hf, look_mem h]
theorem mem_keys {F : Fs} (h : F.Pairwise (fun a b => a.1 < b.1)) {i : Nat} {x : Int × Flw} (hx : F[i]? = some x) {f : Int} {w : Flw} (hm : (f, w) ∈ F) (hf : f = x.1) : w = x.2 := by
  obtain ⟨j, hj⟩ := List.getElem?_of_mem hm
  have := key_idx h hj hx hf
  subst this
  rw [hx] at hj; cases hj; rfl
theorem mem_set {F : Fs} (h : F.Pairwise (fun a b => a.1 < b.1)) {i : Nat} {x : Int × Flw} (hx : F[i]? = some x) (y : Flw) (f : Int) (w : Flw) : (f, w) ∈ F.set i (x.1, y) ↔ (f = x.1 ∧ some y = some w) ∨ (f ≠ x.1 ∧ (f, w) ∈ F) := by
  have hi := (List.getElem?_eq_some_iff.1 hx).1
  constructor
  ·intro hm
   obtain ⟨j, hj⟩ := List.getElem?_of_mem hm
   by_cases hij : i = j
   ·subst hij
    rw [List.getElem?_set_self hi] at hj
    cases hj; exact .inl ⟨rfl, rfl⟩
   ·rw [List.getElem?_set_ne hij] at hj
    refine .inr ⟨fun he => hij ?_, List.mem_of_getElem? hj⟩
    exact (key_idx h hj hx he).symm
  ·rintro (⟨rfl, hw⟩ | ⟨hne, hm⟩)
   ·cases hw
    exact List.mem_of_getElem? (i := i) (by rw [List.getElem?_set_self hi])
   ·obtain ⟨j, hj⟩ := List.getElem?_of_mem hm
    refine List.mem_of_getElem? (i := j) ?_
    rw [List.getElem?_set_ne, hj]
    intro hij; subst hij; rw [hx] at hj; cases hj; exact hne rfl
theorem mem_cut {F : Fs} (h : F.Pairwise (fun a b => a.1 < b.1)) {i : Nat} {x : Int × Flw} (hx : F[i]? = some x) (f : Int) (w : Flw) : (f, w) ∈ F.eraseIdx i ↔ (f = x.1 ∧ none = some w) ∨ (f ≠ x.1 ∧ (f, w) ∈ F) := by
  rw [List.mem_eraseIdx_iff_getElem?]
  constructor
  ·rintro ⟨j, hji, hj⟩
   refine .inr ⟨fun he => hji (key_idx h hj hx he), List.mem_of_getElem? hj⟩
  ·rintro (⟨_, hw⟩ | ⟨hne, hm⟩)
   ·cases hw
   ·obtain ⟨j, hj⟩ := List.getElem?_of_mem hm
    refine ⟨j, fun hji => ?_, hj⟩
    subst hji; rw [hx] at hj; cases hj; exact hne rfl
theorem mem_add {s : Sq} {id r b : Int} (hno : ∀ x ∈ s.F, x.1 ≠ id) (f : Int) (w : Flw) : (f, w) ∈ (s.add id r b).F ↔ (f = id ∧ some (newFlw r b) = some w) ∨ (f ≠ id ∧ (f, w) ∈ s.F) := by
  have hF := List.takeWhile_append_dropWhile (p := fun x : Int × Flw => decide (x.1 < id)) (l := s.F)
  have h1 : (f, w) ∈ s.F ↔ (f, w) ∈ s.F.takeWhile (fun x => decide (x.1 < id)) ∨ (f, w) ∈ s.F.dropWhile (fun x => decide (x.1 < id)) := by
    conv => lhs; rw [← hF]
    exact List.mem_append
  have h2 : (f, w) ∈ (s.add id r b).F ↔ (f, w) ∈ s.F.takeWhile (fun x => decide (x.1 < id)) ∨ (f, w) = (id, newFlw r b) ∨ (f, w) ∈ s.F.dropWhile (fun x => decide (x.1 < id)) := by
    unfold Sq.add; simp only [List.mem_append, List.mem_cons]
  rw [h2, h1]
  have h3 : (f, w) ∈ s.F → f ≠ id := fun h => hno _ h
  rw [h1] at h3
  constructor
  ·rintro (h | h | h)
   ·exact .inr ⟨h3 (.inl h), .inl h⟩
   ·cases h; exact .inl ⟨rfl, rfl⟩
   ·exact .inr ⟨h3 (.inr h), .inr h⟩
  ·rintro (⟨rfl, hw⟩ | ⟨_, h | h⟩)
   ·cases hw; exact .inr (.inl rfl)
   ·exact .inl h
   ·exact .inr (.inr h)
theorem lenAt_look {s : Sq} (f : Int) : s.lenAt f = match look s f with
  | none => -1
  | some w => (w.l.length : Int) := by
  unfold Sq.lenAt look
  cases s.at f with
  | none => rfl
  | some i => simp only; cases s.F[i]? <;> rfl
theorem rate_look {s : Sq} (f : Int) : s.rate f = match look s f with
  | none => 0
  | some w => w.r := by
  unfold Sq.rate look
  cases s.at f with
  | none => rfl
  | some i => simp only; cases s.F[i]? <;> rfl
/-! ### Accounts -/
theorem aget_aput : ∀ (A : As) (k : Int) (a : Acc) (f : Int), aget (aput A k a) f = if f = k then a else aget A f
  | [], k, a, f => by
    unfold aput aget
    by_cases h : f = k
    ·subst h; simp
    ·have : ¬ k = f := fun e => h e.symm
     simp [h, this]
  | p :: A, k, a, f => by
    have ih := aget_aput A k a f
    unfold aput
    by_cases hp : p.1 = k
    ·rw [if_pos hp]
     by_cases h : f = k
     ·subst h; simp [aget]
     ·have h2 : ¬ k = f := fun e => h e.symm
      have h3 : ¬ p.1 = f := fun e => h (e.symm.trans hp)
      simp [aget, h, h2, h3]
    ·rw [if_neg hp]
     by_cases h : p.1 = f
     ·have h4 : ¬ f = k := fun e => hp (h.trans e)
      simp [aget, h, h4]
     ·have : ∀ B : As, aget (p :: B) f = aget B f := fun B => by simp [aget, h]
      rw [this, this, ih]
theorem akeys_aput : ∀ (A : As) (k : Int) (a : Acc) (f : Int), f ∈ akeys (aput A k a) ↔ f = k ∨ f ∈ akeys A
  | [], k, a, f => by simp [akeys, aput]
  | p :: A, k, a, f => by
    have ih := akeys_aput A k a f
    unfold aput
    by_cases hp : p.1 = k
    ·rw [if_pos hp]; simp only [akeys, List.map_cons, List.mem_cons]
     constructor
     ·rintro (h | h)
      ·exact .inl h
      ·exact .inr (.inr h)
     ·rintro (h | h | h)
      ·exact .inl h
      ·exact .inl (h.trans hp)
      ·exact .inr h
    ·rw [if_neg hp]
     simp only [akeys, List.map_cons, List.mem_cons] at ih ⊢
     rw [ih]
     constructor
     ·rintro (h | h | h)
      ·exact .inr (.inl h)
      ·exact .inl h
      ·exact .inr (.inr h)
     ·rintro (h | h | h)
      ·exact .inr (.inl h)
      ·exact .inl h
      ·exact .inr (.inr h)
theorem nodup_aput : ∀ (A : As) (k : Int) (a : Acc), (akeys A).Nodup → (akeys (aput A k a)).Nodup
  | [], k, a, _ => by simp [akeys, aput]
  | p :: A, k, a, h => by
    have h' : p.1 ∉ akeys A ∧ (akeys A).Nodup := by simpa [akeys] using h
    unfold aput
    by_cases hp : p.1 = k
    ·rw [if_pos hp]; show (k :: akeys A).Nodup; rw [← hp]; exact List.nodup_cons.2 h'
    ·rw [if_neg hp]
     show (p.1 :: akeys (aput A k a)).Nodup
     refine List.nodup_cons.2 ⟨fun hm => ?_, nodup_aput A k a h'.2⟩
     rcases (akeys_aput A k a p.1).1 hm with h1 | h1
     ·exact hp h1
     ·exact h'.1 h1
theorem len_aput : ∀ (A : As) (k : Int) (a : Acc), (aput A k a).length ≤ A.length + 1
  | [], k, a => by simp [aput]
  | p :: A, k, a => by
    have ih := len_aput A k a
    unfold aput
    split
    ·simp
    ·simp only [List.length_cons]; omega
theorem aget_no {A : As} {f : Int} (h : f ∉ akeys A) : aget A f = acc0 := aget_none fun p hp he => h (by rw [← he]; exact List.mem_map_of_mem hp)
/-- A sum over all accounts. -/
def gsum (g : Acc → Int) : As → Int
  | [] => 0
  | p :: A => g p.2 + gsum g A
theorem gsum_aput {g : Acc → Int} (h0 : g acc0 = 0) : ∀ (A : As) (k : Int) (a : Acc), gsum g (aput A k a) = gsum g A - g (aget A k) + g a
  | [], k, a => by simp [gsum, aput, aget, h0]
  | p :: A, k, a => by
    have ih := gsum_aput h0 A k a
    unfold aput
    by_cases hp : p.1 = k
    ·rw [if_pos hp]
     have : aget (p :: A) k = p.2 := by simp [aget, hp]
     rw [this]; simp only [gsum]; omega
    ·rw [if_neg hp]
     have : aget (p :: A) k = aget A k := by simp [aget, hp]
     rw [this]; simp only [gsum]; omega
theorem gsum_nonneg {g : Acc → Int} : ∀ (A : As), (∀ p ∈ A, 0 ≤ g p.2) → 0 ≤ gsum g A
  | [], _ => Int.le_refl _
  | p :: A, h => by
    have h1 := h p (List.mem_cons_self ..)
    have h2 := gsum_nonneg A fun q hq => h q (List.mem_cons_of_mem _ hq)
    simp only [gsum]; omega
theorem gsum_get {g : Acc → Int} (h0 : g acc0 = 0) : ∀ (A : As), (∀ p ∈ A, 0 ≤ g p.2) → ∀ f, g (aget A f) ≤ gsum g A ∧ ∀ f2, f ≠ f2 → g (aget A f) + g (aget A f2) ≤ gsum g A
  | [], _, f => by simp [gsum, aget, h0]
  | p :: A, h, f => by
    have h1 := h p (List.mem_cons_self ..)
    have hA : ∀ q ∈ A, 0 ≤ g q.2 := fun q hq => h q (List.mem_cons_of_mem _ hq)
    have ih := gsum_get h0 A hA
    have hn := gsum_nonneg A hA
    have hget : ∀ f, aget (p :: A) f = if p.1 = f then p.2 else aget A f := fun f => by
      by_cases hp : p.1 = f <;> simp [aget, hp]
    simp only [gsum]
    refine ⟨?_, fun f2 hne => ?_⟩
    ·rw [hget]; have := (ih f).1; split <;> omega
    ·rw [hget, hget]
     have a1 := (ih f).1; have a2 := (ih f2).1; have a3 := (ih f).2 f2 hne
     split
     ·split
      ·rename_i e1 e2; exact absurd (e1.symm.trans e2) hne
      ·omega
     ·split <;> omega
theorem gsum_le {g h : Acc → Int} : ∀ (A : As), (∀ p ∈ A, g p.2 ≤ h p.2) → gsum g A ≤ gsum h A
  | [], _ => Int.le_refl _
  | p :: A, hle => by
    have h1 := hle p (List.mem_cons_self ..)
    have h2 := gsum_le A fun q hq => hle q (List.mem_cons_of_mem _ hq)
    simp only [gsum]; omega
def cs (l : List Parcel) : Int := l.foldr (fun q a => q.cost + a) 0
theorem cs_append (l m : List Parcel) : cs (l ++ m) = cs l + cs m := by
  induction l with
  | nil => simp [cs]
  | cons q l ih => simp only [cs, List.cons_append, List.foldr_cons] at ih ⊢; rw [ih]; omega
theorem cs_nonneg {l : List Parcel} (h : ∀ q ∈ l, 0 ≤ q.cost) : 0 ≤ cs l := by
  induction l with
  | nil => simp [cs]
  | cons q l ih =>
    have h1 := h q (List.mem_cons_self ..)
    have h2 := ih fun x hx => h x (List.mem_cons_of_mem _ hx)
    simp only [cs, List.foldr_cons] at h2 ⊢; omega
def cAll (a : Acc) : Int := cs a.came
def cTold (a : Acc) : Int := cs (a.came.take a.left.length)
def pend (a : Acc) : List Parcel := a.came.drop a.left.length
end Go.Proofs.YtkdbglfdgeldpaaGreat

namespace Go.Proofs.YtkdbglfdgeldpaaGreat
open Go.Lt
inductive Knd
  | no
  | rg (f : Int)
  | en (p : Packet)
def kndOf (ls : List (List Call)) (x : Point) : Knd := if reg ls x then .rg (callOf ls x).1.flow else if came ls x then .en ⟨(callOf ls x).1.flow, (callOf ls x).1.a, (callOf ls x).1.b⟩ else .no
inductive Evt (i : Nat) (m : Mdl) (A : As) (s : Int) : Knd → List Packet → Mdl → As → Int → Prop
  | idle : Evt i m A s .no [] m A s
  | reg (f : Int) (w : Flw) (m' : Mdl) : look m.s f = none → w.l = [] → w.finish = 0 → I f → (∀ g, look m'.s g = if g = f then some w else look m.s g) → m'.s.v = m.s.v → m'.s.most = m.s.most →
      Evt i m A s (.rg f) [] m' (aput A f { aget A f with r := w.r }) s
  | close (f : Int) (w : Flw) (m' : Mdl) : look m.s f = some w → w.l = [] → (∀ g, look m'.s g = if g = f then none else look m.s g) → m'.s.v = m.s.v → m'.s.most = m.s.most → Evt i m A s .no [] m' A s
  | enq (f : Int) (w : Flw) (p : Packet) (m' : Mdl) : look m.s f = some w → p.flow = f → (∀ g, look m'.s g = if g = f then some (w.arrive m.s.v p) else look m.s g) → m'.s.v = m.s.v → m'.s.most = m.s.most →
      Evt i m A s (.en p) [] m' (aput A f { aget A f with came := (aget A f).came ++ [⟨p, costOf p.len (aget A f).r, i⟩] }) (satAdd s (costOf p.len (aget A f).r))
  | deq (f : Int) (w : Flw) (p : Packet) (rest : List Packet) (m' : Mdl) : look m.s f = some w → w.l = p :: rest → p.flow = f → (∀ g w', look m.s g = some w' → w'.l ≠ [] → w.start ≤ w'.start) →
      (∀ g, look m'.s g = if g = f then some (w.serve p) else look m.s g) → m'.s.v = w.start → m'.s.most = max m.s.most (w.fin p) → Evt i m A s .no [p] m' (tell i A p) s
  | empty (m' : Mdl) : (∀ g w, look m.s g = some w → w.l = []) → (∀ g, look m'.s g = look m.s g) → m'.s.v = max m.s.v m.s.most → m'.s.most = m.s.most → Evt i m A s .no [] m' A s
theorem callOf_5 {ls : List (List Call)} {x : Point} (h : (callOf ls x).1.op = 5) : x.ret.e = 1 := by
  unfold callOf at h
  split at h
  ·simp at h
  ·split at h
   ·simp at h
   ·split at h
    ·simp at h
    ·split at h
     ·simp at h
     ·rename_i c hc
      by_cases h5 : c.op = 5 ∧ x.ret.e ≠ 1
      ·rw [if_pos h5] at h; simp at h
      ·rw [if_neg h5] at h
       exact Classical.byContradiction fun hne => h5 ⟨h, hne⟩
theorem do_op3 (m : Mdl) (c : Call) (h : c.op = 3) : m.do c = if c.a < 1 ∨ 65536 < c.a then (code 3, m) else (code (m.s.arrive ⟨c.flow, c.a, c.b⟩).1, { m with s := (m.s.arrive ⟨c.flow, c.a, c.b⟩).2 }) := by
  unfold Mdl.do; rw [if_neg (by omega), if_neg (by omega), if_pos h]
theorem do_op0 (m : Mdl) (c : Call) (h : c.op < 1 ∨ 6 < c.op) : m.do c = (code 2, m) := by
  unfold Mdl.do; rw [if_neg (by omega), if_neg (by omega), if_neg (by omega), if_neg (by omega), if_neg (by omega), if_neg (by omega)]
theorem book_no {unit : Int} {ls : List (List Call)} {A : As} {s i : Int} {x : Point} (h : x.ret.e ≠ 0) : bookStep unit ls A s i x = (A, s) := by unfold bookStep; rw [if_pos h]
theorem book_yes {unit : Int} {ls : List (List Call)} {A : As} {s i : Int} {x : Point} (h : x.ret.e = 0) : bookStep unit ls A s i x = (x.ret.packets.foldl (tell i) (bookMid unit ls A s i x).1, (bookMid unit ls A s i x).2) := by unfold bookStep; rw [if_neg (by omega)]
theorem batch_e (m : Mdl) (n : Int) (h : (m.batch n).1.e = 1) : m.batch n = (code 1, m) := by
  unfold Mdl.batch at h ⊢
  split
  ·rfl
  ·rename_i hn
   rw [if_neg hn] at h
   have key : ∀ (k : Nat) (m : Mdl) (l : List Packet), (m.many k l).1.e = 0 ∨ (m.many k l).1.e = 10 := by
     intro k
     induction k with
     | zero => intro m l; exact .inl rfl
     | succ k ih =>
       intro m l
       have h1 : m.one.1.e = 0 ∨ m.one.1.e = 10 := by unfold Mdl.one; split <;> simp [code]
       rw [many_S]
       split
       ·simpa using h1
       ·exact ih _ _
   rcases key n.toNat m [] with h' | h' <;> omega
theorem nil_of_len {α : Type} {l : List α} (h : l.length = 0) : l = [] := List.eq_nil_of_length_eq_zero h
theorem step_evt {ls : List (List Call)} {m : Mdl} {A : As} {s : Int} {i : Nat} {x : Point} {unit : Int} (hinv : m.s.inv) (hcfg : cfgOk m.c) (hu : m.c.unit = unit) (hls : listsOk ls) (hr : (m.do (callOf ls x).1).1 = x.ret) :
    Evt i m A s (kndOf ls x) x.ret.packets (m.do (callOf ls x).1).2 (bookStep unit ls A s i x).1 (bookStep unit ls A s i x).2 := by
  have hsrt := hinv.1
  have hco := callOf_ok hls x
  have h5 := callOf_5 (ls := ls) (x := x)
  have hmidN : (callOf ls x).1.op ≠ 1 → (callOf ls x).1.op ≠ 3 → bookMid unit ls A s i x = (A, s) := fun h1 h3 => by unfold bookMid; rw [if_neg h1, if_neg h3]
  have kno : ((callOf ls x).1.op ≠ 1 ∧ (callOf ls x).1.op ≠ 3) ∨ x.ret.e ≠ 0 → kndOf ls x = .no := fun h => by
    unfold kndOf
    rw [if_neg (by unfold reg; rintro ⟨h1, h2⟩; rcases h with h | h; exact h.1 h1; exact h h2), if_neg (by unfold came; rintro ⟨h1, h2⟩; rcases h with h | h; exact h.2 h1; exact h h2)]
  have krg : (callOf ls x).1.op = 1 → x.ret.e = 0 → kndOf ls x = .rg (callOf ls x).1.flow := fun h1 h2 => by unfold kndOf; rw [if_pos ⟨h1, h2⟩]
  have ken : (callOf ls x).1.op = 3 → x.ret.e = 0 → kndOf ls x = .en ⟨(callOf ls x).1.flow, (callOf ls x).1.a, (callOf ls x).1.b⟩ := fun h1 h2 => by
    unfold kndOf; rw [if_neg (by unfold reg; omega), if_pos ⟨h1, h2⟩]
  generalize hcc : (callOf ls x).1 = cc at *
  by_cases o1 : cc.op = 1
  ·rw [do_op1 m cc o1] at hr ⊢
   have bad : ∀ e : Int, e ≠ 0 → m.register cc = (e, m) → Evt i m A s (kndOf ls x) x.ret.packets (m.register cc).2 (bookStep unit ls A s i x).1 (bookStep unit ls A s i x).2 := fun e he h => by
     rw [h] at hr ⊢
     rw [book_no (by rw [← hr]; exact he), kno (.inr (by rw [← hr]; exact he)), ← hr]; exact .idle
   by_cases c1 : cc.flow < 0 ∨ 1048576 < cc.flow
   ·exact bad 1 (by omega) (by unfold Mdl.register; rw [if_pos c1])
   by_cases c2 : cc.a < 1 ∨ 65536 < cc.a
   ·exact bad 4 (by omega) (by unfold Mdl.register; rw [if_neg c1, if_pos c2])
   by_cases c3 : cc.b < 1 ∨ 8 < cc.b
   ·exact bad 1 (by omega) (by unfold Mdl.register; rw [if_neg c1, if_neg c2, if_pos c3])
   by_cases c4 : (m.s.at cc.flow).isSome = true
   ·exact bad 6 (by omega) (by unfold Mdl.register; rw [if_neg c1, if_neg c2, if_neg c3, if_pos c4])
   by_cases c5 : m.c.slots ≤ mates m.s.F m.c.shards cc.flow
   ·exact bad 7 (by omega) (by unfold Mdl.register; rw [if_neg c1, if_neg c2, if_neg c3, if_neg c4, if_pos c5])
   have hreg : m.register cc = (0, { m with s := m.s.add cc.flow (inverse m.c.unit cc.a) cc.b }) := by unfold Mdl.register; rw [if_neg c1, if_neg c2, if_neg c3, if_neg c4, if_neg c5]
   rw [hreg] at hr ⊢
   have hat : m.s.at cc.flow = none := by simpa using c4
   have hno := at_none_ne hat
   have hiv : invOk unit cc.a := by unfold invOk; unfold cfgOk at hcfg; omega
   have hmid : bookMid unit ls A s i x = (aput A cc.flow { aget A cc.flow with r := inverse unit cc.a }, s) := by unfold bookMid; rw [hcc, if_pos o1, if_pos hiv]
   rw [book_yes (by rw [← hr]; rfl), hmid, krg o1 (by rw [← hr]; rfl), ← hr, ← hu]
   refine Evt.reg cc.flow (newFlw (inverse m.c.unit cc.a) cc.b) _ ((look_none hsrt).2 hat) rfl rfl hco.2.1 (look_ext hsrt (Sq.add_srt hsrt hno) (mem_add hno)) rfl rfl
  by_cases o2 : cc.op = 2
  ·rw [do_op2 m cc o2] at hr ⊢
   have hm0 := hmidN (by omega) (by omega)
   have bad : ∀ e : Int, e ≠ 0 → m.close cc.flow = (e, m) → Evt i m A s (kndOf ls x) x.ret.packets (m.close cc.flow).2 (bookStep unit ls A s i x).1 (bookStep unit ls A s i x).2 := fun e he h => by
     rw [h] at hr ⊢
     rw [book_no (by rw [← hr]; exact he), kno (.inr (by rw [← hr]; exact he)), ← hr]; exact .idle
   cases hat : m.s.at cc.flow with
   | none => exact bad 5 (by omega) (by unfold Mdl.close; rw [hat])
   | some k =>
     obtain ⟨y, hy, hyf⟩ := Sq.at_spec hat
     by_cases hl : y.2.l.length ≠ 0
     ·exact bad 8 (by omega) (by unfold Mdl.close; rw [hat]; simp only [hy]; rw [if_pos hl])
     ·have hcl : m.close cc.flow = (0, { m with s := m.s.cut k }) := by unfold Mdl.close; rw [hat]; simp only [hy]; rw [if_neg hl]
      rw [hcl] at hr ⊢
      rw [book_yes (by rw [← hr]; rfl), hm0, kno (.inl ⟨by omega, by omega⟩), ← hr]
      refine Evt.close cc.flow y.2 _ ((look_mem hsrt).2 (by rw [← hyf]; exact List.mem_of_getElem? hy)) (nil_of_len (by omega)) (fun g => ?_) rfl rfl
      exact look_ext hsrt (Sq.cut_srt hsrt k) (fun f w => by rw [← hyf]; exact mem_cut hsrt hy f w) g
  by_cases o3 : cc.op = 3
  ·rw [do_op3 m cc o3] at hr ⊢
   by_cases c1 : cc.a < 1 ∨ 65536 < cc.a
   ·rw [if_pos c1] at hr ⊢
    rw [book_no (by rw [← hr]; simp [code]), kno (.inr (by rw [← hr]; simp [code])), ← hr]; exact .idle
   rw [if_neg c1] at hr ⊢
   have bad : ∀ e : Int, e ≠ 0 → m.s.arrive ⟨cc.flow, cc.a, cc.b⟩ = (e, m.s) → Evt i m A s (kndOf ls x) x.ret.packets { m with s := (m.s.arrive ⟨cc.flow, cc.a, cc.b⟩).2 } (bookStep unit ls A s i x).1 (bookStep unit ls A s i x).2 := fun e he h => by
     rw [h] at hr ⊢
     rw [book_no (by rw [← hr]; exact he), kno (.inr (by rw [← hr]; exact he)), ← hr]; exact .idle
   cases hat : m.s.at cc.flow with
   | none => exact bad 5 (by omega) (by unfold Sq.arrive; rw [hat])
   | some k =>
     obtain ⟨y, hy, hyf⟩ := Sq.at_spec hat
     by_cases hl : (y.2.l.length : Int) = y.2.most
     ·exact bad 9 (by omega) (by unfold Sq.arrive; rw [hat]; simp only [hy]; rw [if_pos hl])
     ·have har : m.s.arrive ⟨cc.flow, cc.a, cc.b⟩ = (0, m.s.put k (y.1, y.2.arrive m.s.v ⟨cc.flow, cc.a, cc.b⟩)) := by unfold Sq.arrive; rw [hat]; simp only [hy]; rw [if_neg hl]
      rw [har] at hr ⊢
      have hmid : bookMid unit ls A s i x = (aput A cc.flow { aget A cc.flow with came := (aget A cc.flow).came ++ [⟨⟨cc.flow, cc.a, cc.b⟩, costOf cc.a (aget A cc.flow).r, i⟩] }, satAdd s (costOf cc.a (aget A cc.flow).r)) := by
        unfold bookMid; rw [hcc, if_neg o1, if_pos o3]
      rw [book_yes (by rw [← hr]; rfl), hmid, ken o3 (by rw [← hr]; rfl), ← hr]
      refine Evt.enq cc.flow y.2 ⟨cc.flow, cc.a, cc.b⟩ _ ((look_mem hsrt).2 (by rw [← hyf]; exact List.mem_of_getElem? hy)) rfl (fun g => ?_) rfl rfl
      exact look_ext hsrt (Sq.put_srt hsrt hy _) (fun f w => by rw [← hyf]; exact mem_set hsrt hy _ f w) g
  by_cases o4 : cc.op = 4
  ·rw [do_op4 m cc o4] at hr ⊢
   have hm0 := hmidN (by omega) (by omega)
   have hbs := bestB_spec hsrt m.s.F.length (Nat.le_refl _)
   cases hb : bestB m.s.F m.s.F.length with
   | none =>
     have h1 : m.one = (code 10, { m with s := { m.s with v := max m.s.v m.s.most } }) := by unfold Mdl.one; rw [serve_none hb]
     rw [h1] at hr ⊢
     rw [book_no (by rw [← hr]; simp [code]), kno (.inr (by rw [← hr]; simp [code])), ← hr]
     refine Evt.empty _ (fun g w hg => ?_) (fun g => rfl) rfl rfl
     obtain ⟨j, hj⟩ := List.getElem?_of_mem ((look_mem hsrt).1 hg)
     exact nil_of_len (hbs.1 hb j _ (List.getElem?_eq_some_iff.1 hj).1 hj)
   | some k =>
     obtain ⟨y, hy, hyl, hmin⟩ := hbs.2 k hb
     obtain ⟨p, rest, hpl⟩ : ∃ p rest, y.2.l = p :: rest := by
       cases hl : y.2.l with
       | nil => rw [hl] at hyl; simp at hyl
       | cons p rest => exact ⟨p, rest, rfl⟩
     have h1 : m.one = (⟨0, [p], 0, 0⟩, { m with s := { F := m.s.F.set k (y.1, y.2.serve p), v := y.2.start, most := max m.s.most (y.2.fin p) }, served := m.served + 1 }) := by
       unfold Mdl.one; rw [serve_some hb hy hpl]
     have hpf : p.flow = y.1 := hinv.2 y (List.mem_of_getElem? hy) p (by rw [hpl]; simp)
     rw [h1] at hr ⊢
     rw [book_yes (by rw [← hr]), hm0, kno (.inl ⟨by omega, by omega⟩), ← hr]
     refine Evt.deq y.1 y.2 p rest _ ((look_mem hsrt).2 (List.mem_of_getElem? hy)) hpl hpf (fun g w' hg hne => ?_) (fun g => ?_) rfl rfl
     ·obtain ⟨j, hj⟩ := List.getElem?_of_mem ((look_mem hsrt).1 hg)
      have hlt := (List.getElem?_eq_some_iff.1 hj).1
      rcases hmin j _ hlt hj (fun h => hne (nil_of_len h)) with he | ha
      ·have : w' = y.2 := by rw [← he]
       rw [this]; exact Int.le_refl _
      ·unfold aheadP at ha; dsimp only at ha; omega
     ·exact look_ext (s' := ⟨m.s.F.set k (y.1, y.2.serve p), y.2.start, max m.s.most (y.2.fin p)⟩) hsrt (set_srt hsrt hy _) (fun f w => mem_set hsrt hy _ f w) g
  by_cases o5 : cc.op = 5
  ·rw [do_op5 m cc o5] at hr ⊢
   have he := h5 o5
   have hb := batch_e m cc.a (by rw [hr]; exact he)
   rw [hb] at hr ⊢
   rw [book_no (by omega), kno (.inr (by omega)), ← hr]; exact .idle
  by_cases o6 : cc.op = 6
  ·rw [do_op6 m cc o6] at hr ⊢
   rw [book_yes (by rw [← hr]), hmidN o1 o3, kno (.inl ⟨o1, o3⟩), ← hr]
   exact .idle
  ·rw [do_op0 m cc (by omega)] at hr ⊢
   rw [book_no (by rw [← hr]; simp [code]), kno (.inr (by rw [← hr]; simp [code])), ← hr]; exact .idle
end Go.Proofs.YtkdbglfdgeldpaaGreat

namespace Go.Proofs.YtkdbglfdgeldpaaGreat
open Go.Lt
structure Inv (i : Nat) (m : Mdl) (A : As) (s : Int) : Prop where
  nd : (akeys A).Nodup
  kI : ∀ f ∈ akeys A, I f
  len : A.length ≤ i
  le : ∀ f, (aget A f).left.length ≤ (aget A f).came.length
  ok : ∀ f, (aget A f).wrong = false
  came : ∀ f, ∀ q ∈ (aget A f).came, q.p.flow = f ∧ 0 ≤ q.cost ∧ q.pt < i
  no : ∀ f, look m.s f = none → pend (aget A f) = []
  yes : ∀ f w, look m.s f = some w → f ∈ akeys A ∧ (aget A f).r = w.r ∧ (pend (aget A f)).map (·.p) = w.l ∧ ∀ q ∈ pend (aget A f), q.cost = costOf q.p.len w.r
  sum : s = min (gsum cAll A) top
theorem look_ok {s : Sq} (h : s.ok) {f : Int} {w : Flw} (hl : look s f = some w) : w.ok := by
  unfold look at hl
  split at hl
  ·cases hl
  ·rename_i i hi
   cases hx : s.F[i]? with
   | none => rw [hx] at hl; cases hl
   | some x => rw [hx] at hl; cases hl; exact (h.1 x (List.mem_of_getElem? hx)).2
theorem costOf_nonneg {a r : Int} (hr : 0 ≤ r) : 0 ≤ costOf a r := by
  have := Int.mul_nonneg (show 0 ≤ max a 0 by omega) hr
  unfold costOf satMul top; omega
theorem inv0 (c : Config) : Inv 0 (mkMdl c) [] 0 := by
  refine ⟨by simp [akeys], by simp [akeys], by simp, by simp [aget, acc0], by simp [aget, acc0], by simp [aget, acc0], by simp [aget, acc0, pend], ?_, by simp only [gsum, top]; omega⟩
  intro f w h
  simp [look, mkMdl, Sq.at] at h
theorem cAll_nonneg {i : Nat} {m : Mdl} {A : As} {s : Int} (h : Inv i m A s) : ∀ p ∈ A, 0 ≤ cAll p.2 := fun p hp => by
  have he : aget A p.1 = p.2 := aget_mem h.nd (by simpa using hp)
  exact cs_nonneg fun q hq => (h.came p.1 q (by rw [he]; exact hq)).2.1
theorem pend_get {a : Acc} {q : Parcel} {r : List Parcel} (h : pend a = q :: r) : a.came[a.left.length]? = some q ∧ a.left.length < a.came.length ∧ a.came.drop (a.left.length + 1) = r := by
  unfold pend at h
  have hlt : a.left.length < a.came.length := by
    rcases Nat.lt_or_ge a.left.length a.came.length with h' | h'
    ·exact h'
    ·rw [List.drop_of_length_le h'] at h; cases h
  rw [List.drop_eq_getElem_cons hlt] at h
  injection h with h1 h2
  exact ⟨by rw [List.getElem?_eq_getElem hlt, h1], hlt, h2⟩
theorem evt_inv {i : Nat} {m m' : Mdl} {A A' : As} {s s' : Int} {k : Knd} {ps : List Packet} (h : Inv i m A s) (hok : m.s.ok) (e : Evt i m A s k ps m' A' s') : Inv (i + 1) m' A' s' := by
  have hcame : ∀ f, ∀ q ∈ (aget A f).came, q.p.flow = f ∧ 0 ≤ q.cost ∧ q.pt < ((i + 1 : Nat) : Int) := fun f q hq => by
    have := h.came f q hq; exact ⟨this.1, this.2.1, by omega⟩
  cases e with
  | idle => exact ⟨h.nd, h.kI, by have := h.len; omega, h.le, h.ok, hcame, h.no, h.yes, h.sum⟩
  | empty _ h1 h2 h3 h4 =>
    refine ⟨h.nd, h.kI, by have := h.len; omega, h.le, h.ok, hcame, fun f hf => h.no f ((h2 f).symm.trans hf), fun f w hw => h.yes f w ((h2 f).symm.trans hw), h.sum⟩
  | close f w _ h1 h2 h3 h4 h5 =>
    refine ⟨h.nd, h.kI, by have := h.len; omega, h.le, h.ok, hcame, fun g hg => ?_, fun g w' hw => ?_, h.sum⟩
    ·rw [h3] at hg
     split at hg
     ·rename_i he; subst he
      have := (h.yes g w h1).2.2.1
      rw [h2] at this
      exact List.map_eq_nil_iff.1 this
     ·exact h.no g hg
    ·rw [h3] at hw
     split at hw
     ·cases hw
     ·exact h.yes g w' hw
  | reg f w _ h1 h2 h3 h4 h5 h6 h7 =>
    have hg : ∀ g, aget (aput A f { aget A f with r := w.r }) g = if g = f then { aget A f with r := w.r } else aget A g := fun g => aget_aput A f _ g
    have hpn := h.no f h1
    refine ⟨nodup_aput _ _ _ h.nd, fun g hgk => ?_, by have := len_aput A f { aget A f with r := w.r }; have := h.len; omega, fun g => ?_, fun g => ?_, fun g q hq => ?_, fun g hl => ?_, fun g w' hl => ?_, ?_⟩
    ·rcases (akeys_aput ..).1 hgk with rfl | hk
     ·exact h4
     ·exact h.kI g hk
    ·rw [hg]; split
     ·exact h.le f
     ·exact h.le g
    ·rw [hg]; split
     ·exact h.ok f
     ·exact h.ok g
    ·rw [hg] at hq; split at hq
     ·rename_i he; subst he; exact hcame g q hq
     ·exact hcame g q hq
    ·rw [h5] at hl
     split at hl
     ·cases hl
     ·rename_i hne; rw [hg, if_neg hne]; exact h.no g hl
    ·rw [h5] at hl
     rw [hg]
     split at hl
     ·rename_i he; subst he
      cases hl
      rw [if_pos rfl]
      have hp2 : pend ({ aget A g with r := w.r } : Acc) = [] := hpn
      refine ⟨(akeys_aput ..).2 (.inl rfl), rfl, by rw [hp2, h2]; rfl, by rw [hp2]; simp⟩
     ·rename_i hne
      rw [if_neg hne]
      have := h.yes g w' hl
      exact ⟨(akeys_aput ..).2 (.inr this.1), this.2⟩
    ·rw [gsum_aput (by rfl)]
     have : cAll ({ aget A f with r := w.r } : Acc) = cAll (aget A f) := rfl
     rw [this, h.sum]; congr 1; omega
  | enq f w p _ h1 h2 h3 h4 h5 =>
    have hy := h.yes f w h1
    have hr0 : 0 ≤ (aget A f).r := by rw [hy.2.1]; have := look_ok hok h1; unfold Flw.ok U at this; exact this.1.1
    have hc0 := costOf_nonneg (a := p.len) hr0
    generalize hco : costOf p.len (aget A f).r = co at *
    let a' : Acc := { aget A f with came := (aget A f).came ++ [⟨p, co, i⟩] }
    have hg : ∀ g, aget (aput A f a') g = if g = f then a' else aget A g := fun g => aget_aput A f _ g
    have hpend : pend a' = pend (aget A f) ++ [⟨p, co, i⟩] := List.drop_append_of_le_length (h.le f)
    refine ⟨nodup_aput _ _ _ h.nd, fun g hgk => ?_, by have := len_aput A f a'; have := h.len; show (aput A f a').length ≤ _; omega, fun g => ?_, fun g => ?_, fun g q hq => ?_, fun g hl => ?_, fun g w' hl => ?_, ?_⟩
    ·rcases (akeys_aput ..).1 hgk with rfl | hk
     ·exact h.kI g hy.1
     ·exact h.kI g hk
    ·rw [hg]; split
     ·have := h.le f; show (aget A f).left.length ≤ ((aget A f).came ++ [_]).length; simp; omega
     ·exact h.le g
    ·rw [hg]; split
     ·exact h.ok f
     ·exact h.ok g
    ·rw [hg] at hq; split at hq
     ·rename_i he; subst he
      rcases List.mem_append.1 hq with h' | h'
      ·exact hcame g q h'
      ·rw [List.mem_singleton.1 h']; exact ⟨h2, hc0, by simp only; omega⟩
     ·exact hcame g q hq
    ·rw [h3] at hl
     split at hl
     ·cases hl
     ·rename_i hne; rw [hg, if_neg hne]; exact h.no g hl
    ·rw [h3] at hl
     rw [hg]
     split at hl
     ·rename_i he; subst he
      cases hl
      rw [if_pos rfl]
      refine ⟨(akeys_aput ..).2 (.inl rfl), hy.2.1, ?_, ?_⟩
      ·rw [hpend, List.map_append, hy.2.2.1]; rfl
      ·rw [hpend]
       intro q hq
       rcases List.mem_append.1 hq with h' | h'
       ·exact hy.2.2.2 q h'
       ·rw [List.mem_singleton.1 h']; show co = costOf p.len w.r; rw [← hco, hy.2.1]
     ·rename_i hne
      rw [if_neg hne]
      have := h.yes g w' hl
      exact ⟨(akeys_aput ..).2 (.inr this.1), this.2⟩
    ·show satAdd s co = min (gsum cAll (aput A f a')) top
     rw [gsum_aput (by rfl)]
     have : cAll a' = cAll (aget A f) + co := by
       show cs ((aget A f).came ++ [_]) = _
       rw [cs_append]; simp [cs, cAll]
     rw [this, h.sum]; unfold satAdd top; omega
  | deq f w p rest _ h1 h2 h3 h4 h5 h6 h7 =>
    have hy := h.yes f w h1
    obtain ⟨q0, qr, hpe⟩ : ∃ q0 qr, pend (aget A f) = q0 :: qr := by
      cases hpp : pend (aget A f) with
      | nil => rw [hpp, h2] at hy; simp at hy
      | cons a b => exact ⟨a, b, rfl⟩
    obtain ⟨hq1, hq2, hq3⟩ := pend_get hpe
    have hqp : q0.p = p ∧ qr.map (·.p) = rest := by
      have := hy.2.2.1
      rw [hpe, h2] at this
      simpa using this
    have hpt := (h.came f q0 (List.mem_of_getElem? hq1)).2.2
    subst h3
    have hwr : ((aget A p.flow).wrong || wrongAt (aget A p.flow) i p) = false := by
      rw [h.ok]; unfold wrongAt; rw [hq1]; simp [hqp.1]; omega
    have htell : tell i A p = aput A p.flow { aget A p.flow with left := (aget A p.flow).left ++ [(i : Int)] } := by
      unfold tell; rw [hwr]; congr 1
      have := h.ok p.flow
      generalize aget A p.flow = a at this ⊢
      obtain ⟨a1, a2, a3, a4⟩ := a
      simp only at this
      simp [this]
    rw [htell]
    let a' : Acc := { aget A p.flow with left := (aget A p.flow).left ++ [(i : Int)] }
    have hg : ∀ g, aget (aput A p.flow a') g = if g = p.flow then a' else aget A g := fun g => aget_aput A p.flow _ g
    have hpend : pend a' = qr := by
      show (aget A p.flow).came.drop ((aget A p.flow).left ++ [(i : Int)]).length = qr
      rw [List.length_append]; exact hq3
    refine ⟨nodup_aput _ _ _ h.nd, fun g hgk => ?_, by have := len_aput A p.flow a'; have := h.len; show (aput A p.flow a').length ≤ _; omega, fun g => ?_, fun g => ?_, fun g q hq => ?_, fun g hl => ?_, fun g w' hl => ?_, ?_⟩
    ·rcases (akeys_aput ..).1 hgk with rfl | hk
     ·exact h.kI _ hy.1
     ·exact h.kI g hk
    ·rw [hg]; split
     ·show ((aget A p.flow).left ++ [(i : Int)]).length ≤ (aget A p.flow).came.length; simp; omega
     ·exact h.le g
    ·rw [hg]; split
     ·exact h.ok p.flow
     ·exact h.ok g
    ·rw [hg] at hq; split at hq
     ·rename_i he; subst he; exact hcame _ q hq
     ·exact hcame g q hq
    ·rw [h5] at hl
     split at hl
     ·cases hl
     ·rename_i hne; rw [hg, if_neg hne]; exact h.no g hl
    ·rw [h5] at hl
     rw [hg]
     split at hl
     ·rename_i he; subst he
      cases hl
      rw [if_pos rfl]
      refine ⟨(akeys_aput ..).2 (.inl rfl), hy.2.1, ?_, ?_⟩
      ·rw [hpend, hqp.2]; unfold Flw.serve; simp [h2]
      ·rw [hpend]
       intro q hq
       exact hy.2.2.2 q (by rw [hpe]; exact List.mem_cons_of_mem _ hq)
     ·rename_i hne
      rw [if_neg hne]
      have := h.yes g w' hl
      exact ⟨(akeys_aput ..).2 (.inr this.1), this.2⟩
    ·rw [gsum_aput (by rfl)]
     have : cAll a' = cAll (aget A p.flow) := rfl
     rw [this, h.sum]; congr 1; omega
end Go.Proofs.YtkdbglfdgeldpaaGreat

namespace Go.Proofs.YtkdbglfdgeldpaaGreat
open Go.Lt
theorem dearL_le {l : List Parcel} : ∀ {q : Parcel}, q ∈ l → q.cost ≤ dearL l := by
  have key : ∀ (l : List Parcel) (a : Int), a ≤ l.foldl (fun a q => max a q.cost) a ∧ ∀ q ∈ l, q.cost ≤ l.foldl (fun a q => max a q.cost) a := by
    intro l
    induction l with
    | nil => intro a; exact ⟨Int.le_refl _, by simp⟩
    | cons x l ih =>
      intro a
      obtain ⟨h1, h2⟩ := ih (max a x.cost)
      simp only [List.foldl_cons]
      refine ⟨by omega, fun q hq => ?_⟩
      rcases List.mem_cons.1 hq with rfl | hq
      ·omega
      ·exact h2 q hq
  intro q hq; exact (key l 0).2 q hq
theorem dearL_mono {l m : List Parcel} (h : l <+: m) : dearL l ≤ dearL m := by
  obtain ⟨r, rfl⟩ := h
  have key : ∀ (l : List Parcel) (a : Int), a ≤ l.foldl (fun a q => max a q.cost) a := by
    intro l
    induction l with
    | nil => intro a; exact Int.le_refl _
    | cons x l ih => intro a; have := ih (max a x.cost); simp only [List.foldl_cons]; omega
  unfold dearL; rw [List.foldl_append]; exact key _ _
theorem dearL_nonneg (l : List Parcel) : 0 ≤ dearL l := dearL_mono (List.nil_prefix (l := l))
theorem dearL_cs {l : List Parcel} (h : ∀ q ∈ l, 0 ≤ q.cost) : dearL l ≤ cs l := by
  have key : ∀ (l : List Parcel) (a : Int), 0 ≤ a → (∀ q ∈ l, 0 ≤ q.cost) → l.foldl (fun a q => max a q.cost) a ≤ a + cs l := by
    intro l
    induction l with
    | nil => intro a _ _; simp [cs]
    | cons x l ih =>
      intro a ha hq
      have hx := hq x (List.mem_cons_self ..)
      have := ih (max a x.cost) (by omega) fun q h => hq q (List.mem_cons_of_mem _ h)
      simp only [List.foldl_cons, cs, List.foldr_cons] at this ⊢
      omega
  have := key l 0 (Int.le_refl _) h
  unfold dearL; omega
theorem evt_came {i : Nat} {m m' : Mdl} {A A' : As} {s s' : Int} {k : Knd} {ps : List Packet} (e : Evt i m A s k ps m' A' s') (f : Int) : (aget A f).came <+: (aget A' f).came := by
  cases e with
  | idle => exact List.prefix_refl _
  | empty => exact List.prefix_refl _
  | close => exact List.prefix_refl _
  | reg g w _ => rw [aget_aput]; split
                 ·rename_i h _ _ _ _ _ he; subst he; exact List.prefix_refl _
                 ·exact List.prefix_refl _
  | enq g w p _ => rw [aget_aput]; split
                   ·rename_i he; subst he; exact List.prefix_append _ _
                   ·exact List.prefix_refl _
  | deq g w p rest _ => unfold tell; rw [aget_aput]; split
                        ·rename_i he; subst he; exact List.prefix_refl _
                        ·exact List.prefix_refl _
theorem aput_came_sum {A : As} {k : Int} {a : Acc} (h : cAll a = cAll (aget A k)) : gsum cAll (aput A k a) = gsum cAll A := by rw [gsum_aput (by rfl), h]; omega
theorem evt_all {i : Nat} {m m' : Mdl} {A A' : As} {s s' : Int} {k : Knd} {ps : List Packet} (h : Inv i m A s) (hok : m.s.ok) (e : Evt i m A s k ps m' A' s') : gsum cAll A ≤ gsum cAll A' := by
  cases e with
  | idle => exact Int.le_refl _
  | empty => exact Int.le_refl _
  | close => exact Int.le_refl _
  | reg f w _ => rw [aput_came_sum (by rfl)]; exact Int.le_refl _
  | enq f w p _ h1 =>
    rw [gsum_aput (by rfl)]
    have hy := h.yes f w h1
    have hr0 : 0 ≤ (aget A f).r := by rw [hy.2.1]; have := look_ok hok h1; unfold Flw.ok U at this; exact this.1.1
    have hc0 := costOf_nonneg (a := p.len) hr0
    have : cAll { aget A f with came := (aget A f).came ++ [⟨p, costOf p.len (aget A f).r, i⟩] } = cAll (aget A f) + costOf p.len (aget A f).r := by
      show cs ((aget A f).came ++ [_]) = _
      rw [cs_append]; simp [cs, cAll]
    rw [this]; omega
  | deq f w p rest _ => unfold tell; rw [aput_came_sum (by rfl)]; exact Int.le_refl _
/-- How far starts are from each other. -/
structure Fr (m : Mdl) (A : As) : Prop where
  v : 0 ≤ m.s.v ∧ m.s.v ≤ gsum cTold A
  most : m.s.most ≤ gsum cTold A
  fin : ∀ f w, look m.s f = some w → w.finish ≤ gsum cTold A ∧ w.finish ≤ m.s.v + dear A f
  st : ∀ f w, look m.s f = some w → w.l ≠ [] → m.s.v ≤ w.start ∧ w.start ≤ m.s.v + dear A f ∧ w.start ≤ gsum cTold A
theorem fr0 (c : Config) : Fr (mkMdl c) [] := by
  refine ⟨by simp [mkMdl, gsum], by simp [mkMdl, gsum], ?_, ?_⟩ <;> intro f w h <;> simp [look, mkMdl, Sq.at] at h
theorem dear_nonneg (A : As) (f : Int) : 0 ≤ dear A f := dearL_nonneg _
theorem dear_step {i : Nat} {m m' : Mdl} {A A' : As} {s s' : Int} {k : Knd} {ps : List Packet} (e : Evt i m A s k ps m' A' s') (f : Int) : dear A f ≤ dear A' f := dearL_mono (evt_came e f)
theorem cTold_le {i : Nat} {m : Mdl} {A : As} {s : Int} (h : Inv i m A s) : gsum cTold A ≤ gsum cAll A := by
  refine gsum_le A fun p hp => ?_
  have he : aget A p.1 = p.2 := aget_mem h.nd (by simpa using hp)
  have hq : ∀ q ∈ p.2.came, 0 ≤ q.cost := fun q hq => (h.came p.1 q (by rw [he]; exact hq)).2.1
  have := cs_append (p.2.came.take p.2.left.length) (p.2.came.drop p.2.left.length)
  rw [List.take_append_drop] at this
  have h2 := cs_nonneg (l := p.2.came.drop p.2.left.length) fun q h => hq q (List.mem_of_mem_drop h)
  unfold cTold cAll; omega
/-- What is told costs what it did when it came. -/
theorem evt_deq {i : Nat} {m : Mdl} {A : As} {s : Int} (h : Inv i m A s) {f : Int} {w : Flw} {p : Packet} {rest : List Packet} (h1 : look m.s f = some w) (h2 : w.l = p :: rest) (h3 : p.flow = f) :
    ∃ q, (aget A f).came[(aget A f).left.length]? = some q ∧ q.p = p ∧ q.cost = costOf p.len w.r ∧ 0 ≤ q.cost ∧ cTold { aget A f with left := (aget A f).left ++ [(i : Int)] } = cTold (aget A f) + q.cost ∧ q ∈ (aget A f).came ∧
      tell i A p = aput A f { aget A f with left := (aget A f).left ++ [(i : Int)] } := by
  have hy := h.yes f w h1
  obtain ⟨q0, qr, hpe⟩ : ∃ q0 qr, pend (aget A f) = q0 :: qr := by
    cases hpp : pend (aget A f) with
    | nil => rw [hpp, h2] at hy; simp at hy
    | cons a b => exact ⟨a, b, rfl⟩
  obtain ⟨hq1, hq2, hq3⟩ := pend_get hpe
  have hqp : q0.p = p := by
    have := hy.2.2.1
    rw [hpe, h2] at this
    simpa using (List.cons.inj this).1
  have hco := hy.2.2.2 q0 (by rw [hpe]; simp)
  have hin := h.came f q0 (List.mem_of_getElem? hq1)
  refine ⟨q0, hq1, hqp, by rw [hco, hqp], hin.2.1, ?_, List.mem_of_getElem? hq1, ?_⟩
  ·show cs ((aget A f).came.take ((aget A f).left ++ [(i : Int)]).length) = _
   rw [List.length_append, List.length_singleton, List.take_add_one, hq1, cs_append]; simp [cs, cTold]
  ·subst h3
   have hwr : ((aget A p.flow).wrong || wrongAt (aget A p.flow) i p) = false := by
     rw [h.ok]; unfold wrongAt; rw [hq1]; simp [hqp]; have := hin.2.2; omega
   unfold tell; rw [hwr]; congr 1
   have := h.ok p.flow
   generalize aget A p.flow = a at this ⊢
   obtain ⟨a1, a2, a3, a4⟩ := a
   simp only at this
   simp [this]
theorem evt_fr {i : Nat} {m m' : Mdl} {A A' : As} {s s' : Int} {k : Knd} {ps : List Packet} (h : Inv i m A s) (hok : m.s.ok) (hf : Fr m A) (e : Evt i m A s k ps m' A' s') (hcap : gsum cAll A' < top) : Fr m' A' := by
  have hi' := evt_inv h hok e
  have hle' := cTold_le hi'
  have hd := dear_step e
  cases e with
  | idle => exact hf
  | empty _ h1 h2 h3 h4 =>
    have hv := hf.v; have hmo := hf.most
    refine ⟨by rw [h3]; omega, by rw [h4]; exact hmo, fun f w hw => ?_, fun f w hw hne => ?_⟩
    ·rw [h2] at hw; have := hf.fin f w hw; rw [h3]; omega
    ·rw [h2] at hw; exact absurd (h1 f w hw) hne
  | close f w _ h1 h2 h3 h4 h5 =>
    refine ⟨by rw [h4]; exact hf.v, by rw [h5]; exact hf.most, fun g w' hw => ?_, fun g w' hw hne => ?_⟩
    ·rw [h3] at hw
     split at hw
     ·cases hw
     ·rw [h4]; exact hf.fin g w' hw
    ·rw [h3] at hw
     split at hw
     ·cases hw
     ·rw [h4]; exact hf.st g w' hw hne
  | reg f w _ h1 h2 h3 h4 h5 h6 h7 =>
    have hT : gsum cTold (aput A f { aget A f with r := w.r }) = gsum cTold A := by
      rw [gsum_aput (by rfl)]
      have : cTold ({ aget A f with r := w.r } : Acc) = cTold (aget A f) := rfl
      omega
    have hv := hf.v
    refine ⟨by rw [h6, hT]; exact hf.v, by rw [h7, hT]; exact hf.most, fun g w' hw => ?_, fun g w' hw hne => ?_⟩
    ·rw [h5] at hw
     rw [h6, hT]
     split at hw
     ·cases hw
      have := dear_nonneg (aput A f { aget A f with r := w.r }) g
      rw [h3]; omega
     ·have := hf.fin g w' hw; have := hd g; omega
    ·rw [h5] at hw
     rw [h6, hT]
     split at hw
     ·cases hw; exact absurd h2 hne
     ·have := hf.st g w' hw hne; have := hd g; omega
  | enq f w p _ h1 h2 h3 h4 h5 =>
    have hT : gsum cTold (aput A f { aget A f with came := (aget A f).came ++ [⟨p, costOf p.len (aget A f).r, i⟩] }) = gsum cTold A := by
      rw [gsum_aput (by rfl)]
      have : cTold ({ aget A f with came := (aget A f).came ++ [⟨p, costOf p.len (aget A f).r, i⟩] } : Acc) = cTold (aget A f) := by
        show cs (((aget A f).came ++ [_]).take _) = _
        rw [List.take_append_of_le_length (h.le f)]; rfl
      omega
    have hv := hf.v
    refine ⟨by rw [h4, hT]; exact hf.v, by rw [h5, hT]; exact hf.most, fun g w' hw => ?_, fun g w' hw hne => ?_⟩
    ·rw [h3] at hw
     rw [h4, hT]
     split at hw
     ·rename_i he; subst he
      cases hw
      have := hf.fin g w h1; have := hd g
      show w.finish ≤ _ ∧ w.finish ≤ _
      omega
     ·have := hf.fin g w' hw; have := hd g; omega
    ·rw [h3] at hw
     rw [h4, hT]
     split at hw
     ·rename_i he; subst he
      cases hw
      have h8 := hf.fin g w h1; have h9 := hd g
      show _ ≤ (if w.l.length = 0 then max m.s.v w.finish else w.start) ∧ (if w.l.length = 0 then max m.s.v w.finish else w.start) ≤ _ ∧ (if w.l.length = 0 then max m.s.v w.finish else w.start) ≤ _
      have hdn := dear_nonneg A g
      split
      ·omega
      ·rename_i hl
       have := hf.st g w h1 (fun h => hl (by rw [h]; rfl)); omega
     ·have := hf.st g w' hw hne; have := hd g; omega
  | deq f w p rest _ h1 h2 h3 h4 h5 h6 h7 =>
    obtain ⟨q, hq1, hq2, hq3, hq4, hq5, hq6, hq7⟩ := evt_deq h h1 h2 h3
    have hT : gsum cTold (tell i A p) = gsum cTold A + q.cost := by rw [hq7, gsum_aput (by rfl), hq5]; omega
    have hs := hf.st f w h1 (by rw [h2]; simp)
    have hv := hf.v; have hmo := hf.most
    have hfin : w.fin p = w.start + q.cost := by
      unfold Flw.fin satAdd
      have : satMul (max p.len 0) w.r = q.cost := by rw [hq3]; rfl
      rw [this]; unfold top at hcap ⊢; omega
    have hdq : q.cost ≤ dear (tell i A p) f := by
      have h10 := hd f
      have : q.cost ≤ dear A f := dearL_le hq6
      omega
    refine ⟨by rw [h6, hT]; omega, by rw [h7, hT, hfin]; omega, fun g w' hw => ?_, fun g w' hw hne => ?_⟩
    ·rw [h5] at hw
     rw [h6, hT]
     split at hw
     ·rename_i he; subst he
      cases hw
      show w.fin p ≤ _ ∧ w.fin p ≤ _
      rw [hfin]; omega
     ·have := hf.fin g w' hw; have := hd g; omega
    ·rw [h5] at hw
     rw [h6, hT]
     split at hw
     ·rename_i he; subst he
      cases hw
      show _ ≤ w.fin p ∧ w.fin p ≤ _ ∧ w.fin p ≤ _
      rw [hfin]; omega
     ·have := hf.st g w' hw hne; have := hd g; have := h4 g w' hw hne; omega
end Go.Proofs.YtkdbglfdgeldpaaGreat

namespace Go.Proofs.YtkdbglfdgeldpaaGreat
open Go.Lt
structure St (c : Config) (i : Nat) (m : Mdl) (A : As) (s : Int) : Prop where
  inv : Inv i m A s
  ok : m.ok i
  si : m.s.inv
  mc : m.c = c
theorem st0 {c : Config} (h : cfgOk c) : St c 0 (mkMdl c) [] 0 := ⟨inv0 c, mkMdl_ok c h, mkMdl_inv c, rfl⟩
theorem st_step {c : Config} {ls : List (List Call)} {i : Nat} {m : Mdl} {A : As} {s : Int} {x : Point} {l : List Point} {last : Option Int} {me : Mdl} (hls : listsOk ls) (h : St c i m A s) (hi : i < 1000000) (hp : playL ls (x :: l) m last = some me) :
    (callOf ls x).2 = true ∧ (m.do (callOf ls x).1).1 = x.ret ∧ Evt i m A s (kndOf ls x) x.ret.packets (m.do (callOf ls x).1).2 (bookStep c.unit ls A s i x).1 (bookStep c.unit ls A s i x).2 ∧
      St c (i + 1) (m.do (callOf ls x).1).2 (bookStep c.unit ls A s i x).1 (bookStep c.unit ls A s i x).2 ∧ playL ls l (m.do (callOf ls x).1).2 (some x.step) = some me ∧ ¬ tooLate last x := by
  rw [playL_S] at hp
  split at hp
  ·cases hp
  ·rename_i hc
   have h1 : (callOf ls x).2 = true := by
     cases h' : (callOf ls x).2 with
     | true => rfl
     | false => exact absurd (.inl h') hc
   have h2 : (m.do (callOf ls x).1).1 = x.ret := Classical.byContradiction fun hne => hc (.inr (.inr hne))
   have hdo := Mdl.do_ok h.ok (by omega) (callOf_ok hls x)
   have he := step_evt (A := A) (s := s) (i := i) (x := x) (unit := c.unit) h.si h.ok.1 (by rw [h.mc]) hls h2
   exact ⟨h1, h2, he, ⟨evt_inv h.inv h.ok.2.1 he, hdo.1, Mdl.do_inv h.si _, hdo.2.2.trans h.mc⟩, hp, fun h' => hc (.inr (.inl h'))⟩
theorem book_run {c : Config} {ls : List (List Call)} (hls : listsOk ls) : ∀ (l : List Point) (i : Nat) (m : Mdl) (A : As) (s : Int) (last : Option Int) (me : Mdl), St c i m A s → i + l.length ≤ 1000000 → playL ls l m last = some me →
    St c (i + l.length) me (bookL c.unit ls l i A s).1 (bookL c.unit ls l i A s).2 ∧ (∀ f, (aget A f).came <+: (aget (bookL c.unit ls l i A s).1 f).came) ∧ gsum cAll A ≤ gsum cAll (bookL c.unit ls l i A s).1
  | [], i, m, A, s, last, me, h, _, hp => by
    cases hp
    exact ⟨h, fun f => List.prefix_refl _, Int.le_refl _⟩
  | x :: l, i, m, A, s, last, me, h, hi, hp => by
    simp only [List.length_cons] at hi
    obtain ⟨_, _, he, hst, hp', _⟩ := st_step hls h (by omega) hp
    obtain ⟨g1, g2, g3⟩ := book_run hls l (i + 1) _ _ _ _ me hst (by omega) hp'
    rw [bookL_S]
    refine ⟨by rw [show i + (x :: l).length = i + 1 + l.length from by simp; omega]; exact g1, fun f => (evt_came he f).trans (g2 f), ?_⟩
    have := evt_all h.inv h.ok.2.1 he
    omega
theorem cT_nonneg {i : Nat} {m : Mdl} {A : As} {s : Int} (h : Inv i m A s) (f : Int) : 0 ≤ cTold (aget A f) := cs_nonneg fun q hq => (h.came f q (List.mem_of_mem_take hq)).2.1
theorem cT_all {i : Nat} {m : Mdl} {A : As} {s : Int} (h : Inv i m A s) (f g : Int) (hfg : f ≠ g) : cTold (aget A f) + cTold (aget A g) ≤ gsum cAll A ∧ cTold (aget A f) ≤ gsum cAll A := by
  have hn : ∀ p ∈ A, 0 ≤ cTold p.2 := fun p hp => by
    have he : aget A p.1 = p.2 := aget_mem h.nd (by simpa using hp)
    rw [← he]; exact cT_nonneg h p.1
  have h1 := gsum_get (g := cTold) (by rfl) A hn f
  have h2 := h1.2 g hfg
  have h3 := cTold_le h
  omega
theorem both_spec {m : Mdl} {f g : Int} : both m f g = true ↔ (∃ w, look m.s f = some w ∧ w.l ≠ []) ∧ ∃ w, look m.s g = some w ∧ w.l ≠ [] := by
  have key : ∀ f, 0 < m.s.lenAt f ↔ ∃ w, look m.s f = some w ∧ w.l ≠ [] := fun f => by
    rw [lenAt_look]
    cases look m.s f with
    | none => simp
    | some w =>
      simp only [Option.some.injEq, exists_eq_left']
      cases w.l <;> simp
  unfold both
  rw [Bool.and_eq_true, decide_eq_true_eq, decide_eq_true_eq, key, key]
theorem rFrom_both {m : Mdl} {f g : Int} {fr : List Int} : rFrom m f g fr = if both m f g = true then fr ++ [0] else [] := by
  unfold rFrom both
  by_cases h : m.s.lenAt f < 1 ∨ m.s.lenAt g < 1
  ·rw [if_pos h, if_neg]; simp; omega
  ·rw [if_neg h, if_pos]; simp; omega
def startF (m : Mdl) (f : Int) : Int := match look m.s f with
  | some w => w.start
  | none => 0
theorem start_some {m : Mdl} {f : Int} {w : Flw} (h : look m.s f = some w) : startF m f = w.start := by unfold startF; rw [h]
/-- What one point tells, for both. -/
theorem evt_tell {i : Nat} {m m' : Mdl} {A A' Af : As} {s s' : Int} {k : Knd} {ps : List Packet} (h : Inv i m A s) (hok : m.s.ok) (e : Evt i m A s k ps m' A' s') (hpre : ∀ f, (aget A' f).came <+: (aget Af f).came) (hA : gsum cAll A' ≤ gsum cAll Af) (hcap : gsum cAll Af < 4611686018427387904)
    {f g : Int} (hfg : f ≠ g) {S : Int} (hS : S = cTold (aget A f) - cTold (aget A g)) :
    ∃ d, gTells Af f g ps (S, (aget A f).left.length, (aget A g).left.length) = some (S + d, (aget A' f).left.length, (aget A' g).left.length) ∧ rTells m f g ps 0 = some d ∧
      cTold (aget A f) ≤ cTold (aget A' f) ∧ cTold (aget A g) ≤ cTold (aget A' g) ∧ d = (cTold (aget A' f) - cTold (aget A f)) - (cTold (aget A' g) - cTold (aget A g)) := by
  have hi' := evt_inv h hok e
  have hb' := cT_all hi' f g hfg
  have n1 := cT_nonneg hi' f; have n2 := cT_nonneg hi' g
  have m1 := cT_nonneg h f; have m2 := cT_nonneg h g
  have nothing : ∀ B : As, (∀ f, (aget B f).left = (aget A f).left) → (∀ f, cTold (aget B f) = cTold (aget A f)) → ∃ d, gTells Af f g [] (S, (aget A f).left.length, (aget A g).left.length) = some (S + d, (aget B f).left.length, (aget B g).left.length) ∧ rTells m f g [] 0 = some d ∧
      cTold (aget A f) ≤ cTold (aget B f) ∧ cTold (aget A g) ≤ cTold (aget B g) ∧ d = (cTold (aget B f) - cTold (aget A f)) - (cTold (aget B g) - cTold (aget A g)) := fun B hl hc =>
    ⟨0, by rw [hl, hl]; simp [gTells], rfl, by rw [hc]; exact Int.le_refl _, by rw [hc]; exact Int.le_refl _, by rw [hc, hc]; omega⟩
  cases e with
  | idle => exact nothing A (fun _ => rfl) (fun _ => rfl)
  | empty => exact nothing A (fun _ => rfl) (fun _ => rfl)
  | close => exact nothing A (fun _ => rfl) (fun _ => rfl)
  | reg a w _ => exact nothing _ (fun y => by rw [aget_aput]; split; rename_i he; subst he; rfl; rfl) (fun y => by rw [aget_aput]; split; rename_i he; subst he; rfl; rfl)
  | enq a w p _ =>
    refine nothing _ (fun y => by rw [aget_aput]; split; rename_i he; subst he; rfl; rfl) (fun y => ?_)
    rw [aget_aput]
    split
    ·rename_i he; subst he
     show cs (((aget A y).came ++ [_]).take _) = _
     rw [List.take_append_of_le_length (h.le y)]; rfl
    ·rfl
  | deq a w p rest _ h1 h2 h3 h4 h5 h6 h7 =>
    obtain ⟨q, hq1, hq2, hq3, hq4, hq5, hq6, hq7⟩ := evt_deq h h1 h2 h3
    have hg : ∀ y, aget (tell i A p) y = if y = a then { aget A a with left := (aget A a).left ++ [(i : Int)] } else aget A y := fun y => by rw [hq7]; exact aget_aput A a _ y
    have hca : (aget (tell i A p) a).came = (aget A a).came := by rw [hg, if_pos rfl]
    have hqf : ∀ {n : Nat}, (aget A a).left.length = n → (aget Af a).came[n]? = some q := fun {n} hn => by
      obtain ⟨r, hr⟩ := hpre a
      rw [hca] at hr
      rw [← hr, ← hn, List.getElem?_append_left (List.getElem?_eq_some_iff.1 hq1).1]; exact hq1
    have hrate : m.s.rate p.flow = w.r := by rw [rate_look, h3, h1]
    have hcost : costOf p.len (m.s.rate p.flow) = q.cost := by rw [hrate, hq3]
    have ha' : cTold (aget (tell i A p) a) = cTold (aget A a) + q.cost := by rw [hg, if_pos rfl]; exact hq5
    have hla : (aget (tell i A p) a).left.length = (aget A a).left.length + 1 := by rw [hg, if_pos rfl]; simp
    have hqb : q.cost ≤ 4611686018427387904 := by
      have := cT_nonneg h a
      have h8 := (cT_all hi' a (a + 1) (by omega)).2
      omega
    by_cases hf : a = f
    ·subst hf
     have hgg : aget (tell i A p) g = aget A g := by rw [hg, if_neg (fun h => hfg h.symm)]
     refine ⟨q.cost, ?_, ?_, by omega, by rw [hgg]; exact Int.le_refl _, by rw [hgg]; omega⟩
     ·have h9 : gTell Af a g (S, (aget A a).left.length, (aget A g).left.length) p = some (S + q.cost, (aget A a).left.length + 1, (aget A g).left.length) := by
        unfold gTell
        rw [if_pos h3]
        simp only [hqf rfl]
        rw [if_pos ⟨⟨hq4, hqb⟩, by unfold smallI; rw [hgg] at hb'; omega⟩]
      rw [gTells, h9, hla, hgg]; rfl
     ·rw [rTells]
      unfold rD2 rD1
      rw [hcost, if_pos h3, if_neg (fun h => hfg (h3.symm.trans h)), if_pos ⟨hqb, by unfold smallI; omega, by unfold smallI; omega⟩]
      simp [rTells]
    ·by_cases hg2 : a = g
     ·subst hg2
      have hff : aget (tell i A p) f = aget A f := by rw [hg, if_neg (fun h => hf h.symm)]
      refine ⟨-q.cost, ?_, ?_, by rw [hff]; exact Int.le_refl _, by omega, by rw [hff]; omega⟩
      ·have h9 : gTell Af f a (S, (aget A f).left.length, (aget A a).left.length) p = some (S - q.cost, (aget A f).left.length, (aget A a).left.length + 1) := by
         unfold gTell
         rw [if_neg (fun h => hf (h3.symm.trans h)), if_pos h3]
         simp only [hqf rfl]
         rw [if_pos ⟨⟨hq4, hqb⟩, by unfold smallI; rw [hff] at hb'; omega⟩]
       rw [gTells, h9, hla, hff]; rfl
      ·rw [rTells]
       unfold rD2 rD1
       rw [hcost, if_neg (fun h => hf (h3.symm.trans h)), if_pos h3, if_pos ⟨hqb, by unfold smallI; omega, by unfold smallI; omega⟩]
       simp [rTells]
     ·have hff : aget (tell i A p) f = aget A f := by rw [hg, if_neg (fun h => hf h.symm)]
      have hgg : aget (tell i A p) g = aget A g := by rw [hg, if_neg (fun h => hg2 h.symm)]
      refine ⟨0, ?_, ?_, by rw [hff]; exact Int.le_refl _, by rw [hgg]; exact Int.le_refl _, by rw [hff, hgg]; omega⟩
      ·have h9 : gTell Af f g (S, (aget A f).left.length, (aget A g).left.length) p = some (S, (aget A f).left.length, (aget A g).left.length) := by
         unfold gTell
         rw [if_neg (fun h => hf (h3.symm.trans h)), if_neg (fun h => hg2 (h3.symm.trans h))]
       rw [gTells, h9, hff, hgg]; simp [gTells]
      ·rw [rTells]
       unfold rD2 rD1
       rw [hcost, if_neg (fun h => hf (h3.symm.trans h)), if_neg (fun h => hg2 (h3.symm.trans h)), if_pos ⟨hqb, by unfold smallI; omega, by unfold smallI; omega⟩]
       simp [rTells]
/-- A flow that has packets before and behind: its start moves by what it is told. -/
theorem evt_start {i : Nat} {m m' : Mdl} {A A' : As} {s s' : Int} {k : Knd} {ps : List Packet} (h : Inv i m A s) (hok : m.s.ok) (hf : Fr m A) (e : Evt i m A s k ps m' A' s') (hcap : gsum cAll A' < top) {f : Int} {w w' : Flw} (hw : look m.s f = some w) (hl : w.l ≠ []) (hw' : look m'.s f = some w') :
    w'.start = w.start + (cTold (aget A' f) - cTold (aget A f)) := by
  have hi' := evt_inv h hok e
  have hle' := cTold_le hi'
  cases e with
  | idle => rw [hw] at hw'; cases hw'; omega
  | empty _ h1 h2 => rw [h2, hw] at hw'; cases hw'; omega
  | close a v _ h1 h2 h3 =>
    rw [h3] at hw'
    split at hw'
    ·cases hw'
    ·rw [hw] at hw'; cases hw'; omega
  | reg a v _ h1 h2 h3 h4 h5 =>
    rw [h5] at hw'
    split at hw'
    ·rename_i he; subst he; rw [hw] at h1; cases h1
    ·rename_i hne
     rw [hw] at hw'; cases hw'
     rw [aget_aput, if_neg hne]; omega
  | enq a v p _ h1 h2 h3 =>
    rw [h3] at hw'
    split at hw'
    ·rename_i he; subst he
     rw [hw] at h1; cases h1; cases hw'
     rw [aget_aput, if_pos rfl]
     have : cTold ({ aget A f with came := (aget A f).came ++ [⟨p, costOf p.len (aget A f).r, i⟩] } : Acc) = cTold (aget A f) := by
       show cs (((aget A f).came ++ [_]).take _) = _
       rw [List.take_append_of_le_length (h.le f)]; rfl
     rw [this]
     show (if w.l.length = 0 then max m.s.v w.finish else w.start) = _
     rw [if_neg (fun hz => hl (nil_of_len hz))]; omega
    ·rename_i hne
     rw [hw] at hw'; cases hw'
     rw [aget_aput, if_neg hne]; omega
  | deq a v p rest _ h1 h2 h3 h4 h5 h6 h7 =>
    obtain ⟨q, hq1, hq2, hq3, hq4, hq5, hq6, hq7⟩ := evt_deq h h1 h2 h3
    rw [h5] at hw'
    split at hw'
    ·rename_i he; subst he
     rw [hw] at h1; cases h1; cases hw'
     have hT : gsum cTold (tell i A p) = gsum cTold A + q.cost := by rw [hq7, gsum_aput (by rfl), hq5]; omega
     have hs := hf.st f w hw hl
     have hfin : w.fin p = w.start + q.cost := by
       unfold Flw.fin satAdd
       have : satMul (max p.len 0) w.r = q.cost := by rw [hq3]; rfl
       rw [this]; unfold top at hcap ⊢; omega
     rw [hq7, aget_aput, if_pos rfl, hq5]
     show w.fin p = _
     rw [hfin]; omega
    ·rename_i hne
     rw [hw] at hw'; cases hw'
     rw [hq7, aget_aput, if_neg hne]; omega
end Go.Proofs.YtkdbglfdgeldpaaGreat

namespace Go.Proofs.YtkdbglfdgeldpaaGreat
open Go.Lt
theorem foldl_mostS {lo hi : Int} : ∀ (L : List Int) (a : Int), (∀ v ∈ L, lo ≤ v ∧ v ≤ hi) → lo ∈ L → hi ∈ L → L.foldl mostS a = max a (max hi (-lo)) := by
  have up : ∀ (L : List Int) (a : Int), a ≤ L.foldl mostS a ∧ ∀ v ∈ L, v ≤ L.foldl mostS a ∧ -v ≤ L.foldl mostS a := by
    intro L
    induction L with
    | nil => intro a; exact ⟨Int.le_refl _, by simp⟩
    | cons x L ih =>
      intro a
      obtain ⟨h1, h2⟩ := ih (mostS a x)
      simp only [List.foldl_cons]
      have : a ≤ mostS a x ∧ x ≤ mostS a x ∧ -x ≤ mostS a x := by unfold mostS; omega
      refine ⟨by omega, fun v hv => ?_⟩
      rcases List.mem_cons.1 hv with rfl | hv
      ·omega
      ·exact h2 v hv
  have dn : ∀ (L : List Int) (a B : Int), a ≤ B → (∀ v ∈ L, v ≤ B ∧ -v ≤ B) → L.foldl mostS a ≤ B := by
    intro L
    induction L with
    | nil => intro a B h _; exact h
    | cons x L ih =>
      intro a B h hv
      have hx := hv x (List.mem_cons_self ..)
      simp only [List.foldl_cons]
      exact ih _ _ (by unfold mostS; omega) fun v h => hv v (List.mem_cons_of_mem _ h)
  intro L a hb h1 h2
  have h3 := (up L a).1
  have h4 := (up L a).2 lo h1
  have h5 := (up L a).2 hi h2
  have h6 := dn L a (max a (max hi (-lo))) (by omega) fun v hv => by have := hb v hv; omega
  omega
structure GR (f g : Int) (m : Mdl) (A : As) (Df Dg : Int) (gs : Gs) (rs : Rs) : Prop where
  gm : gs.m = m
  rm : rs.m = m
  t : gs.t = (cTold (aget A f) - cTold (aget A g), (aget A f).left.length, (aget A g).left.length)
  ins : gs.ins = both m f g
  most : gs.most = rs.most
  mb : 0 ≤ gs.most ∧ gs.most ≤ Df + Dg
  fr : ∀ v ∈ rs.fr, -cTold (aget A g) ≤ v ∧ v ≤ cTold (aget A f)
  run : both m f g = true → (∀ v ∈ rs.fr ++ [0], gs.t.1 - gs.high ≤ v ∧ v ≤ gs.t.1 - gs.low) ∧ gs.t.1 - gs.low ∈ rs.fr ++ [0] ∧ gs.t.1 - gs.high ∈ rs.fr ++ [0] ∧ gs.low ≤ gs.t.1 ∧ gs.t.1 ≤ gs.high ∧ gs.high - gs.low ≤ gs.most ∧
    ∃ k, gs.t.1 = k + (startF m f - startF m g) ∧ k - Dg ≤ gs.low ∧ gs.high ≤ k + Df
theorem gr_step {i : Nat} {m m' : Mdl} {A A' Af : As} {s s' : Int} {k : Knd} {ps : List Packet} (h : Inv i m A s) (hok : m.s.ok) (hf : Fr m A) (e : Evt i m A s k ps m' A' s') (hpre : ∀ f, (aget A' f).came <+: (aget Af f).came) (hA : gsum cAll A' ≤ gsum cAll Af) (hcap : gsum cAll Af < 4611686018427387904)
    {f g : Int} (hfg : f ≠ g) {gs : Gs} {rs : Rs} (hR : GR f g m A (dear Af f) (dear Af g) gs rs) :
    ∃ t d, gTells Af f g ps gs.t = some t ∧ rTells rs.m f g ps 0 = some d ∧ (∀ v ∈ (rFrom rs.m f g rs.fr).map (· + d), smallI v) ∧ GR f g m' A' (dear Af f) (dear Af g) (gEnd f g m' gs t) (rEnd f g m' rs d) ∧ gs.most ≤ (gEnd f g m' gs t).most := by
  obtain ⟨gm, ⟨S, n0, n1⟩, low, high, most, ins⟩ := gs
  obtain ⟨rm, fr, rmost⟩ := rs
  obtain ⟨h1, h2, h3, h4, h5, h6, h7, h8⟩ := hR
  dsimp only at h1 h2 h3 h4 h5 h6 h7 h8 ⊢
  subst h1 h2 h5
  injection h3 with h3a h3b
  injection h3b with h3b h3c
  subst h3b h3c
  obtain ⟨d, hd1, hd2, hd3, hd4, hd5⟩ := evt_tell h hok e hpre hA hcap hfg h3a
  have hi' := evt_inv h hok e
  have hf' := evt_fr h hok hf e (by unfold top; omega)
  have hb' := cT_all hi' f g hfg
  have n1 := cT_nonneg hi' f; have n2 := cT_nonneg hi' g
  have m1 := cT_nonneg h f; have m2 := cT_nonneg h g
  have hdf : ∀ f, dear A' f ≤ dear Af f := fun f => dearL_mono (hpre f)
  have hfb : ∀ v ∈ rFrom rm f g fr, -cTold (aget A g) ≤ v ∧ v ≤ cTold (aget A f) := fun v hv => by
    rw [rFrom_both] at hv
    split at hv
    ·rcases List.mem_append.1 hv with h | h
     ·exact h7 v h
     ·rw [List.mem_singleton.1 h]; omega
    ·cases hv
  have hfb' : ∀ v ∈ (rFrom rm f g fr).map (· + d), -cTold (aget A' g) ≤ v ∧ v ≤ cTold (aget A' f) := fun v hv => by
    obtain ⟨u, hu, rfl⟩ := List.mem_map.1 hv
    have := hfb u hu
    (try simp only); omega
  refine ⟨_, d, hd1, hd2, fun v hv => by have := hfb' v hv; unfold smallI; omega, ?_, ?_⟩
  ·by_cases b' : both m' f g = true
   ·have bs := both_spec.1 b'
    obtain ⟨⟨wf', hwf', hlf'⟩, ⟨wg', hwg', hlg'⟩⟩ := bs
    have sf := hf'.st f wf' hwf' hlf'
    have sg := hf'.st g wg' hwg' hlg'
    have df := hdf f; have dg := hdf g
    have hD : -(dear Af g) ≤ startF m' f - startF m' g ∧ startF m' f - startF m' g ≤ dear Af f := by
      rw [start_some hwf', start_some hwg']; omega
    unfold gEnd rEnd
    rw [if_pos b', if_pos b']
    by_cases b : both rm f g = true
    · -- the stretch goes on
     obtain ⟨r1, r2, r3, r4, r5, r6, k0, r7, r8, r9⟩ := h8 b
     have hins : ins = true := by rw [h4, b]
     subst hins
     have hfrE : rFrom rm f g fr = fr ++ [0] := by rw [rFrom_both, if_pos b]
     obtain ⟨⟨wf, hwf, hlf⟩, ⟨wg, hwg, hlg⟩⟩ := both_spec.1 b
     have ef := evt_start h hok hf e (by unfold top; omega) hwf hlf hwf'
     have eg := evt_start h hok hf e (by unfold top; omega) hwg hlg hwg'
     have hk : S + d = k0 + (startF m' f - startF m' g) := by
       rw [start_some hwf, start_some hwg] at r7
       rw [start_some hwf', start_some hwg', ef, eg]; omega
     have hmap : ∀ v ∈ (rFrom rm f g fr).map (· + d), S + d - high ≤ v ∧ v ≤ S + d - low := fun v hv => by
       rw [hfrE] at hv
       obtain ⟨u, hu, rfl⟩ := List.mem_map.1 hv
       have := r1 u hu
       (try simp only); omega
     have hin1 : S + d - low ∈ (rFrom rm f g fr).map (· + d) := by rw [hfrE]; exact List.mem_map.2 ⟨_, r2, by (try simp only); omega⟩
     have hin2 : S + d - high ∈ (rFrom rm f g fr).map (· + d) := by rw [hfrE]; exact List.mem_map.2 ⟨_, r3, by (try simp only); omega⟩
     have hfold := foldl_mostS _ most hmap hin2 hin1
     simp only [if_true]
     refine ⟨rfl, rfl, by simp only; congr 1; omega, b'.symm, ?_, ?_, hfb', fun _ => ?_⟩
     ·simp only; rw [hfold]; omega
     ·(try simp only); omega
     ·simp only
      refine ⟨fun v hv => ?_, ?_, ?_, by omega, by omega, by omega, k0, hk, by omega, by omega⟩
      ·rcases List.mem_append.1 hv with h | h
       ·have := hmap v h; omega
       ·rw [List.mem_singleton.1 h]; omega
      ·by_cases hc : low ≤ S + d
       ·rw [show min low (S + d) = low from by omega]; exact List.mem_append_left _ hin1
       ·rw [show min low (S + d) = S + d from by omega, Int.sub_self]; exact List.mem_append_right _ (by simp)
      ·by_cases hc : S + d ≤ high
       ·rw [show max high (S + d) = high from by omega]; exact List.mem_append_left _ hin2
       ·rw [show max high (S + d) = S + d from by omega, Int.sub_self]; exact List.mem_append_right _ (by simp)
    · -- a stretch begins
     have hins : ins = false := by rw [h4]; simpa using b
     subst hins
     have hfrE : rFrom rm f g fr = [] := by rw [rFrom_both, if_neg b]
     simp only [hfrE, List.map_nil, List.foldl_nil, Bool.false_eq_true, if_false]
     refine ⟨rfl, rfl, by simp only; congr 1; omega, b'.symm, by (try simp only); omega, by (try simp only); omega, by simp, fun _ => ?_⟩
     simp only [List.nil_append]
     refine ⟨fun v hv => by rw [List.mem_singleton.1 hv]; omega, by simp, by simp, by omega, by omega, by omega, S + d - (startF m' f - startF m' g), by omega, by omega, by omega⟩
   ·unfold gEnd rEnd
    rw [if_neg b', if_neg b']
    exact ⟨rfl, rfl, by simp only; congr 1; omega, by simpa using b', rfl, h6, hfb', fun h => absurd h b'⟩
  ·unfold gEnd
   split
   ·(try simp only); omega
   ·exact Int.le_refl _
theorem gap_run {c : Config} {ls : List (List Call)} (hls : listsOk ls) {f g : Int} (hfg : f ≠ g) {Af : As} (hcap : gsum cAll Af < 4611686018427387904) : ∀ (l : List Point) (i : Nat) (m : Mdl) (A : As) (s : Int) (last : Option Int) (me : Mdl) (gs : Gs) (rs : Rs), St c i m A s → i + l.length ≤ 1000000 → playL ls l m last = some me →
    (∀ f, (aget (bookL c.unit ls l i A s).1 f).came <+: (aget Af f).came) → gsum cAll (bookL c.unit ls l i A s).1 ≤ gsum cAll Af → Fr m A → GR f g m A (dear Af f) (dear Af g) gs rs →
    ∃ gs' rs', gapL Af f g ls l gs = some gs' ∧ rgapL f g ls l rs = some rs' ∧ gs'.most = rs'.most ∧ (0 ≤ gs'.most ∧ gs'.most ≤ dear Af f + dear Af g) ∧ gs.most ≤ gs'.most
  | [], i, m, A, s, last, me, gs, rs, h, _, hp, hpre, hA, hf, hR => ⟨gs, rs, rfl, rfl, hR.most, hR.mb, Int.le_refl _⟩
  | x :: l, i, m, A, s, last, me, gs, rs, h, hi, hp, hpre, hA, hf, hR => by
    simp only [List.length_cons] at hi
    obtain ⟨_, _, he, hst, hp', _⟩ := st_step hls h (by omega) hp
    rw [bookL_S] at hpre hA
    obtain ⟨_, b2, b3⟩ := book_run hls l (i + 1) _ _ _ _ me hst (by omega) hp'
    obtain ⟨t, d, h1, h2, h3, h4, h5⟩ := gr_step h.inv h.ok.2.1 hf he (fun f => (b2 f).trans (hpre f)) (by omega) hcap hfg hR
    have hf' := evt_fr h.inv h.ok.2.1 hf he (by unfold top; omega)
    obtain ⟨gs', rs', k1, k2, k3, k4, k5⟩ := gap_run hls hfg hcap l (i + 1) _ _ _ _ me _ _ hst (by omega) hp' hpre hA hf' h4
    refine ⟨gs', rs', ?_, ?_, k3, k4, by omega⟩
    ·unfold gapL; rw [h1, hR.gm]; exact k1
    ·unfold rgapL; rw [h2]; simp only; rw [if_pos h3, hR.rm]; exact k2
end Go.Proofs.YtkdbglfdgeldpaaGreat

namespace Go.Proofs.YtkdbglfdgeldpaaGreat
open Go.Lt
theorem knd_en {ls : List (List Call)} {x : Point} {p : Packet} (h : kndOf ls x = .en p) : came ls x ∧ p = ⟨(callOf ls x).1.flow, (callOf ls x).1.a, (callOf ls x).1.b⟩ := by
  unfold kndOf at h
  split at h
  ·cases h
  ·split at h
   ·rename_i hc; cases h; exact ⟨hc, rfl⟩
   ·cases h
theorem knd_rg {ls : List (List Call)} {x : Point} {f : Int} (h : kndOf ls x = .rg f) : reg ls x ∧ f = (callOf ls x).1.flow ∧ ¬ came ls x := by
  unfold kndOf at h
  split at h
  ·rename_i hc; cases h; exact ⟨hc, rfl, fun h2 => by unfold reg at hc; unfold came at h2; omega⟩
  ·split at h
   ·cases h
   ·cases h
theorem knd_no {ls : List (List Call)} {x : Point} (h : kndOf ls x = .no) : ¬ reg ls x ∧ ¬ came ls x := by
  unfold kndOf at h
  split at h
  ·cases h
  ·split at h
   ·cases h
   ·rename_i h1 h2; exact ⟨h1, h2⟩
def SR (f g : Int) (A : As) (t : Sums) : Prop := t.all = min (gsum cAll A) lim ∧ t.a = dear A f ∧ t.b = dear A g
theorem dear_snoc {a : Acc} {q : Parcel} : dearL (a.came ++ [q]) = max (dearL a.came) q.cost := dearL_snoc _ _
theorem sr_step {ls : List (List Call)} {i : Nat} {m m' : Mdl} {A A' : As} {s s' : Int} {x : Point} {ps : List Packet} (h : Inv i m A s) (hok : m.s.ok) (e : Evt i m A s (kndOf ls x) ps m' A' s') {f g : Int} {t : Sums} (ht : SR f g A t) : SR f g A' (sumStep ls f g m t x) := by
  generalize hk : kndOf ls x = k at e
  have nothing : ¬ came ls x → (∀ y, (aget A' y).came = (aget A y).came) → gsum cAll A' = gsum cAll A → SR f g A' (sumStep ls f g m t x) := fun hc hca hg => by
    unfold sumStep
    rw [if_neg hc]
    refine ⟨by rw [hg]; exact ht.1, ?_, ?_⟩
    ·rw [ht.2.1]; unfold dear; rw [hca]
    ·rw [ht.2.2]; unfold dear; rw [hca]
  cases e with
  | idle => exact nothing (knd_no hk).2 (fun _ => rfl) rfl
  | empty => exact nothing (knd_no hk).2 (fun _ => rfl) rfl
  | close => exact nothing (knd_no hk).2 (fun _ => rfl) rfl
  | reg a w _ => exact nothing (knd_rg hk).2.2 (fun y => by rw [aget_aput]; split; rename_i he; subst he; rfl; rfl) (aput_came_sum (by rfl))
  | deq a w p rest _ => exact nothing (knd_no hk).2 (fun y => by unfold tell; rw [aget_aput]; split; rename_i he; subst he; rfl; rfl) (by unfold tell; exact aput_came_sum (by rfl))
  | enq a w p _ h1 h2 h3 h4 h5 =>
    obtain ⟨hc, hp⟩ := knd_en hk
    have hy := h.yes a w h1
    have hr0 : 0 ≤ (aget A a).r := by rw [hy.2.1]; have := look_ok hok h1; unfold Flw.ok U at this; exact this.1.1
    have hc0 := costOf_nonneg (a := p.len) hr0
    have hfl : (callOf ls x).1.flow = a := by rw [← h2, hp]
    have hcost : costAt ls m x = costOf p.len (aget A a).r := by
      unfold costAt; rw [hfl, rate_look, h1, hp, hy.2.1]
    generalize costOf p.len (aget A a).r = co at *
    have hd : ∀ y, dear (aput A a { aget A a with came := (aget A a).came ++ [⟨p, co, i⟩] }) y = if a = y then max (dear A y) co else dear A y := fun y => by
      unfold dear
      rw [aget_aput]
      by_cases he : y = a
      ·subst he
       rw [if_pos rfl, if_pos rfl]
       show dearL ((aget A y).came ++ [_]) = _
       rw [dearL_snoc]
      ·rw [if_neg he, if_neg (fun h => he h.symm)]
    unfold sumStep
    rw [if_pos hc, hcost, hfl]
    refine ⟨?_, ?_, ?_⟩
    ·show min (satAdd t.all co) lim = _
     rw [gsum_aput (by rfl), ht.1]
     have : cAll { aget A a with came := (aget A a).came ++ [⟨p, co, i⟩] } = cAll (aget A a) + co := by
       show cs ((aget A a).came ++ [_]) = _
       rw [cs_append]; simp [cs, cAll]
     rw [this]
     have hg0 := gsum_nonneg A (cAll_nonneg h)
     unfold satAdd top lim; omega
    ·show (if a = f then max t.a co else t.a) = _
     rw [hd, ht.2.1]
    ·show (if a = g then max t.b co else t.b) = _
     rw [hd, ht.2.2]
theorem sums_run {c : Config} {ls : List (List Call)} (hls : listsOk ls) {f g : Int} : ∀ (l : List Point) (i : Nat) (m : Mdl) (A : As) (s : Int) (last : Option Int) (me : Mdl) (t : Sums), St c i m A s → i + l.length ≤ 1000000 → playL ls l m last = some me → SR f g A t →
    SR f g (bookL c.unit ls l i A s).1 (sumsL ls f g l m t)
  | [], i, m, A, s, last, me, t, h, _, hp, ht => ht
  | x :: l, i, m, A, s, last, me, t, h, hi, hp, ht => by
    simp only [List.length_cons] at hi
    obtain ⟨_, _, he, hst, hp', _⟩ := st_step hls h (by omega) hp
    rw [bookL_S]
    unfold sumsL
    exact sums_run hls l (i + 1) _ _ _ _ me _ hst (by omega) hp' (sr_step h.inv h.ok.2.1 he ht)
def NR (A : As) (n : List Int) : Prop := n.Nodup ∧ ∀ f, f ∈ n ↔ f ∈ akeys A
theorem nr_step {ls : List (List Call)} {i : Nat} {m m' : Mdl} {A A' : As} {s s' : Int} {x : Point} {ps : List Packet} (h : Inv i m A s) (e : Evt i m A s (kndOf ls x) ps m' A' s') {n : List Int} (ht : NR A n) : NR A' (nameStep ls n x) := by
  generalize hk : kndOf ls x = k at e
  have nothing : ¬ reg ls x → (∀ f, f ∈ akeys A' ↔ f ∈ akeys A) → NR A' (nameStep ls n x) := fun hc hka => by
    unfold nameStep
    rw [if_neg (fun h => hc h.1)]
    exact ⟨ht.1, fun f => by rw [ht.2, hka]⟩
  cases e with
  | idle => exact nothing (knd_no hk).1 (fun _ => Iff.rfl)
  | empty => exact nothing (knd_no hk).1 (fun _ => Iff.rfl)
  | close => exact nothing (knd_no hk).1 (fun _ => Iff.rfl)
  | deq a w p rest _ h1 h2 h3 =>
    refine nothing (knd_no hk).1 (fun f => ?_)
    unfold tell; rw [akeys_aput]
    exact ⟨fun h' => h'.elim (fun h' => by rw [h', h3]; exact (h.yes a w h1).1) id, .inr⟩
  | enq a w p _ h1 h2 =>
    refine nothing (fun hr => by have := (knd_en hk).1; unfold reg at hr; unfold came at this; omega) (fun f => ?_)
    rw [akeys_aput]
    exact ⟨fun h' => h'.elim (fun h' => by rw [h']; exact (h.yes a w h1).1) id, .inr⟩
  | reg a w _ =>
    obtain ⟨hr, ha, _⟩ := knd_rg hk
    unfold nameStep
    by_cases hin : a ∈ n
    ·rw [if_neg (fun h => h.2 (by rw [← ha]; exact hin))]
     refine ⟨ht.1, fun f => ?_⟩
     rw [akeys_aput, ht.2]
     exact ⟨.inr, fun h' => h'.elim (fun h' => by rw [h']; exact (ht.2 a).1 hin) id⟩
    ·rw [if_pos ⟨hr, by rw [← ha]; exact hin⟩, ← ha]
     refine ⟨?_, fun f => ?_⟩
     ·rw [List.nodup_append]
      exact ⟨ht.1, by simp, fun y hy z hz => by rw [List.mem_singleton.1 hz]; intro he; subst he; exact hin hy⟩
     ·rw [akeys_aput, List.mem_append, List.mem_singleton, ht.2]
      exact ⟨fun h' => h'.symm, fun h' => h'.symm⟩
theorem names_run {c : Config} {ls : List (List Call)} (hls : listsOk ls) : ∀ (l : List Point) (i : Nat) (m : Mdl) (A : As) (s : Int) (last : Option Int) (me : Mdl) (n : List Int), St c i m A s → i + l.length ≤ 1000000 → playL ls l m last = some me → NR A n →
    NR (bookL c.unit ls l i A s).1 (l.foldl (nameStep ls) n)
  | [], i, m, A, s, last, me, n, h, _, hp, ht => ht
  | x :: l, i, m, A, s, last, me, n, h, hi, hp, ht => by
    simp only [List.length_cons] at hi
    obtain ⟨_, _, he, hst, hp', _⟩ := st_step hls h (by omega) hp
    rw [bookL_S, List.foldl_cons]
    exact names_run hls l (i + 1) _ _ _ _ me _ hst (by omega) hp' (nr_step h.inv he ht)
section
variable {c : Config} {ls : List (List Call)} {l : List Point} {me : Mdl}
theorem playL_of (h : plays c ls l = some me) : cfgOk c ∧ playL ls l (mkMdl c) none = some me := by
  unfold plays at h
  split at h
  ·rename_i hc; exact ⟨hc, h⟩
  ·cases h
theorem book_st (hls : listsOk ls) (hl : l.length ≤ 1000000) (h : plays c ls l = some me) : St c l.length me (bookOf c ls l).1 (bookOf c ls l).2 := by
  obtain ⟨hc, hp⟩ := playL_of h
  have := (book_run hls l 0 _ _ _ none me (st0 hc) (by omega) hp).1
  rwa [Nat.zero_add] at this
theorem book_sums (hls : listsOk ls) (hl : l.length ≤ 1000000) (h : plays c ls l = some me) (f g : Int) : SR f g (bookOf c ls l).1 (sums c ls l f g) := by
  obtain ⟨hc, hp⟩ := playL_of h
  exact sums_run hls l 0 _ _ _ none me _ (st0 hc) (by omega) hp ⟨by simp only [gsum, lim]; omega, by rfl, by rfl⟩
theorem book_names (hls : listsOk ls) (hl : l.length ≤ 1000000) (h : plays c ls l = some me) : NR (bookOf c ls l).1 (names ls l) := by
  obtain ⟨hc, hp⟩ := playL_of h
  exact names_run hls l 0 _ _ _ none me _ (st0 hc) (by omega) hp ⟨by simp, by simp [akeys]⟩
theorem gr0 (c : Config) (f g : Int) (D E : Int) (hD : 0 ≤ D) (hE : 0 ≤ E) : GR f g (mkMdl c) [] D E (gs0 c f g) ⟨mkMdl c, [], 0⟩ := by
  have hb : both (mkMdl c) f g = false := by simp [both, Sq.lenAt, Sq.at, mkMdl]
  refine ⟨rfl, rfl, by simp [gs0, aget, acc0, cTold, cs], rfl, rfl, by simp [gs0]; omega, by simp, fun h => by rw [hb] at h; cases h⟩
theorem book_gap (hls : listsOk ls) (hl : l.length ≤ 1000000) (h : plays c ls l = some me) {f g : Int} (hfg : f ≠ g) (hcap : gsum cAll (bookOf c ls l).1 < 4611686018427387904) :
    ∃ gs rs, gapL (bookOf c ls l).1 f g ls l (gs0 c f g) = some gs ∧ rgapL f g ls l ⟨mkMdl c, [], 0⟩ = some rs ∧ gs.most = rs.most ∧ 0 ≤ gs.most ∧ gs.most ≤ dear (bookOf c ls l).1 f + dear (bookOf c ls l).1 g := by
  obtain ⟨hc, hp⟩ := playL_of h
  obtain ⟨gs, rs, h1, h2, h3, h4, _⟩ := gap_run hls hfg hcap l 0 _ _ _ none me _ _ (st0 hc) (by omega) hp (fun _ => List.prefix_refl _) (Int.le_refl _) (fr0 c) (gr0 c f g _ _ (dear_nonneg _ f) (dear_nonneg _ g))
  exact ⟨gs, rs, h1, h2, h3, h4.1, h4.2⟩
theorem dear_le_all {i : Nat} {m : Mdl} {A : As} {s : Int} (h : Inv i m A s) (f g : Int) (hfg : f ≠ g) : dear A f + dear A g ≤ gsum cAll A := by
  have h1 : ∀ f, dear A f ≤ cAll (aget A f) := fun f => dearL_cs fun q hq => (h.came f q hq).2.1
  have h2 := (gsum_get (g := cAll) (by rfl) A (cAll_nonneg h) f).2 g hfg
  have := h1 f; have := h1 g; omega
theorem f_good (hls : listsOk ls) (hl : l.length ≤ 1000000) (f g : Int) : FGood c ls l f g := by
  intro hp hfg hs
  obtain ⟨me, h⟩ := Option.ne_none_iff_exists'.1 hp
  have hst := book_st hls hl h
  have hcap : gsum cAll (bookOf c ls l).1 < 4611686018427387904 := by have := hst.inv.sum; unfold lim at hs; unfold top at this; omega
  obtain ⟨gs, rs, h1, h2, h3, h4, h5⟩ := book_gap hls hl h hfg hcap
  have := dear_le_all hst.inv f g hfg
  exact ⟨⟨gs, h1⟩, dear_nonneg _ f, dear_nonneg _ g, by omega⟩
theorem r_good (hls : listsOk ls) (hl : l.length ≤ 1000000) (f g : Int) : RGood c ls l f g := by
  intro hfg hp hs
  obtain ⟨me, h⟩ := Option.ne_none_iff_exists'.1 hp
  have hst := book_st hls hl h
  obtain ⟨s1, s2, s3⟩ := book_sums hls hl h f g
  have hcap : gsum cAll (bookOf c ls l).1 < 4611686018427387904 := by unfold lim at hs s1; omega
  obtain ⟨gs, rs, h1, h2, h3, h4, h5⟩ := book_gap hls hl h hfg hcap
  have hd := dear_le_all hst.inv f g hfg
  have d1 := dear_nonneg (bookOf c ls l).1 f; have d2 := dear_nonneg (bookOf c ls l).1 g
  have hg0 := gsum_nonneg _ (cAll_nonneg hst.inv)
  refine ⟨⟨rs, h2⟩, ?_, by omega⟩
  unfold Sums.ok U lim at *
  omega
theorem gap_eq (hls : listsOk ls) (hl : l.length ≤ 1000000) (f g : Int) : fGap c ls l f g = rGap c ls l f g := by
  unfold fGap rGap
  cases h : plays c ls l with
  | none => simp
  | some me =>
    have hst := book_st hls hl h
    obtain ⟨s1, s2, s3⟩ := book_sums hls hl h f g
    have hsum := hst.inv.sum
    by_cases hfg : f = g
    ·simp [hfg]
    ·simp only [hfg, false_or]
     have hn : ¬ (some me = none) := by simp
     rw [if_neg hn, if_neg hn]
     by_cases hc : lim ≤ (bookOf c ls l).2
     ·rw [if_pos hc, if_pos (by unfold lim top at *; omega)]
     ·rw [if_neg hc, if_neg (by unfold lim top at *; omega)]
      have hcap : gsum cAll (bookOf c ls l).1 < 4611686018427387904 := by unfold lim top at *; omega
      obtain ⟨gs, rs, h1, h2, h3, h4, h5⟩ := book_gap hls hl h hfg hcap
      rw [h1, h2]
      simp only
      rw [h3, s2, s3]
theorem f_fair (hls : listsOk ls) (hl : l.length ≤ 1000000) (h : plays c ls l = some me) : fFairP c ls l := by
  have hst := book_st hls hl h
  have hsum := hst.inv.sum
  refine ⟨by rw [h]; simp, ?_⟩
  by_cases hc : lim ≤ (bookOf c ls l).2
  ·exact .inl hc
  ·refine .inr fun x y _ _ hxy => ?_
   have hcap : gsum cAll (bookOf c ls l).1 < 4611686018427387904 := by unfold lim top at *; omega
   obtain ⟨gs, rs, h1, h2, h3, h4, h5⟩ := book_gap (f := x) (g := y) hls hl h (by omega) hcap
   exact ⟨gs, h1, h5⟩
theorem r_fair (hls : listsOk ls) (hl : l.length ≤ 1000000) (h : plays c ls l = some me) : rFairP c ls l := by
  have hst := book_st hls hl h
  have hsum := hst.inv.sum
  refine ⟨by rw [h]; simp, ?_⟩
  obtain ⟨s1, _, _⟩ := book_sums hls hl h (-1) (-1)
  by_cases hc : lim ≤ (sums c ls l (-1) (-1)).all
  ·exact .inl hc
  ·refine .inr fun i j x y hij hx hy => ?_
   have hn := (book_names hls hl h).1
   have hxy : x ≠ y := fun he => by
     subst he
     have h1 := (List.getElem?_eq_some_iff.1 hx)
     have h2 := (List.getElem?_eq_some_iff.1 hy)
     obtain ⟨h1, e1⟩ := h1
     obtain ⟨h2, e2⟩ := h2
     have := List.pairwise_iff_getElem.1 hn j i h2 h1 hij
     rw [e1, e2] at this; exact this rfl
   have hcap : gsum cAll (bookOf c ls l).1 < 4611686018427387904 := by unfold lim at *; omega
   obtain ⟨gs, rs, h1, h2, h3, h4, h5⟩ := book_gap (f := x) (g := y) hls hl h hxy hcap
   obtain ⟨s1', s2, s3⟩ := book_sums hls hl h x y
   unfold rPair rGap
   rw [if_neg (by rw [h]; simp [hxy]), if_neg (by unfold lim at *; omega), h2]
   exact ⟨rfl, by simp only; omega⟩
theorem book_kept (hls : listsOk ls) (hl : l.length ≤ 1000000) (h : plays c ls l = some me) : keptB (bookOf c ls l).1 = true := by
  have hst := book_st hls hl h
  unfold keptB
  rw [List.all_eq_true]
  intro q hq
  have he : aget (bookOf c ls l).1 q.1 = q.2 := aget_mem hst.inv.nd (by simpa using hq)
  have := hst.inv.ok q.1
  rw [he] at this; simp [this]
end
end Go.Proofs.YtkdbglfdgeldpaaGreat

namespace Go.Proofs.YtkdbglfdgeldpaaGreat
open Go.Lt
/-! ### What is left -/
def flt (f : Int) (l : List Packet) : List Packet := l.filter fun p => p.flow == f
theorem flt_append (f : Int) (l m : List Packet) : flt f (l ++ m) = flt f l ++ flt f m := List.filter_append ..
theorem flt_one (f : Int) (p : Packet) : flt f [p] = if p.flow = f then [p] else [] := by
  unfold flt; by_cases h : p.flow = f <;> simp [h]
theorem flt_none {f : Int} {l : List Packet} (h : ∀ p ∈ l, p.flow ≠ f) : flt f l = [] := by
  unfold flt; rw [List.filter_eq_nil_iff]; intro p hp; simpa using h p hp
theorem flt_mem {f : Int} {l : List Packet} {p : Packet} : p ∈ flt f l ↔ p ∈ l ∧ p.flow = f := by unfold flt; simp
/-- The first packet of a flow is taken. -/
theorem takeP_spec {p : Packet} {rest l : List Packet} (h : flt p.flow l = p :: rest) : ∃ l', takeP p l = some l' ∧ flt p.flow l' = rest ∧ (∀ g, g ≠ p.flow → flt g l' = flt g l) ∧ ∀ q ∈ l', q ∈ l := by
  induction l with
  | nil => cases h
  | cons y l ih =>
    by_cases hy : y.flow = p.flow
    ·have h1 : flt p.flow (y :: l) = y :: flt p.flow l := by unfold flt; simp [hy]
     rw [h1] at h
     injection h with h2 h3
     subst h2
     refine ⟨l, ?_, h3, fun g hg => ?_, fun q hq => List.mem_cons_of_mem _ hq⟩
     ·unfold takeP
      have hf : firstF y.flow (y :: l) = 0 := by unfold firstF; rw [List.findIdx_cons]; simp
      rw [hf]; simp
     ·have : ¬ y.flow = g := fun e => hg e.symm
      unfold flt; simp [this]
    ·have h1 : flt p.flow (y :: l) = flt p.flow l := by unfold flt; simp [hy]
     rw [h1] at h
     obtain ⟨l', t1, t2, t3, t4⟩ := ih h
     refine ⟨y :: l', ?_, ?_, fun g hg => ?_, fun q hq => ?_⟩
     ·unfold takeP at t1 ⊢
      have hf : firstF p.flow (y :: l) = firstF p.flow l + 1 := by
        have hb : (y.flow == p.flow) = false := by simpa using hy
        unfold firstF; rw [List.findIdx_cons, hb]; rfl
      rw [hf, List.getElem?_cons_succ]
      split at t1
      ·cases t1
      ·rename_i q hq
       split at t1
       ·rename_i hqp
        cases t1
        simp only [hqp, if_true, List.eraseIdx_cons_succ]
       ·cases t1
     ·have : flt p.flow (y :: l') = flt p.flow l' := by unfold flt; simp [hy]
      rw [this, t2]
     ·have e : ∀ L, flt g (y :: L) = if y.flow = g then y :: flt g L else flt g L := fun L => by unfold flt; by_cases hg : y.flow = g <;> simp [hg]
      rw [e, e, t3 g hg]
     ·rcases List.mem_cons.1 hq with rfl | hq
      ·exact List.mem_cons_self ..
      ·exact List.mem_cons_of_mem _ (t4 q hq)
def LR (A : As) (inn : List Packet) : Prop := (∀ f, flt f inn = (pend (aget A f)).map (·.p)) ∧ ∀ p ∈ inn, p.flow ∈ akeys A
theorem lr_step {ls : List (List Call)} {i : Nat} {m m' : Mdl} {A A' : As} {s s' : Int} {x : Point} (h : Inv i m A s) (e : Evt i m A s (kndOf ls x) x.ret.packets m' A' s') {inn : List Packet} (ht : LR A inn) :
    ∃ inn', takeAll x.ret.packets (leftIn ls inn x) = some inn' ∧ LR A' inn' := by
  generalize hk : kndOf ls x = k at e
  generalize hps : x.ret.packets = ps at e
  have nothing : ps = [] → ¬ came ls x → (∀ y, pend (aget A' y) = pend (aget A y)) → (∀ f, f ∈ akeys A → f ∈ akeys A') → ∃ inn', takeAll ps (leftIn ls inn x) = some inn' ∧ LR A' inn' := fun hp hc hpe hka => by
    subst hp
    refine ⟨inn, by unfold leftIn; rw [if_neg hc]; rfl, fun f => by rw [hpe]; exact ht.1 f, fun p hp => hka _ (ht.2 p hp)⟩
  cases e with
  | idle => exact nothing rfl (knd_no hk).2 (fun _ => rfl) (fun _ h => h)
  | empty => exact nothing rfl (knd_no hk).2 (fun _ => rfl) (fun _ h => h)
  | close => exact nothing rfl (knd_no hk).2 (fun _ => rfl) (fun _ h => h)
  | reg a w _ => exact nothing rfl (knd_rg hk).2.2 (fun y => by rw [aget_aput]; split; rename_i he; subst he; rfl; rfl) (fun f hf => (akeys_aput ..).2 (.inr hf))
  | enq a w p _ h1 h2 h3 h4 h5 =>
    obtain ⟨hc, hp⟩ := knd_en hk
    refine ⟨inn ++ [p], by unfold leftIn; rw [if_pos hc, ← hp]; rfl, fun f => ?_, fun q hq => ?_⟩
    ·rw [flt_append, flt_one, aget_aput, ht.1 f]
     by_cases he : f = a
     ·subst he
      rw [if_pos h2, if_pos rfl]
      have : pend ({ aget A f with came := (aget A f).came ++ [⟨p, costOf p.len (aget A f).r, i⟩] } : Acc) = pend (aget A f) ++ [⟨p, costOf p.len (aget A f).r, i⟩] := List.drop_append_of_le_length (h.le f)
      rw [this, List.map_append]; rfl
     ·rw [if_neg (fun h' => he (h'.symm.trans h2)), if_neg he, List.append_nil]
    ·rw [akeys_aput]
     rcases List.mem_append.1 hq with h' | h'
     ·exact .inr (ht.2 q h')
     ·rw [List.mem_singleton.1 h']; exact .inl h2
  | deq a w p rest _ h1 h2 h3 h4 h5 h6 h7 =>
    obtain ⟨q, hq1, hq2, hq3, hq4, hq5, hq6, hq7⟩ := evt_deq h h1 h2 h3
    have hpe : (pend (aget A a)).map (·.p) = p :: rest := (h.yes a w h1).2.2.1.trans h2
    have hin : leftIn ls inn x = inn := by unfold leftIn; rw [if_neg (knd_no hk).2]
    obtain ⟨l', t1, t2, t3, t4⟩ := takeP_spec (p := p) (rest := rest) (l := inn) (by rw [h3, ht.1 a, hpe])
    refine ⟨l', by rw [hin, takeAll, t1]; rfl, fun f => ?_, fun y hy => ?_⟩
    ·rw [hq7, aget_aput]
     by_cases he : f = a
     ·subst he
      rw [if_pos rfl, ← h3, t2]
      have hlt := (List.getElem?_eq_some_iff.1 hq1).1
      have h8 : pend (aget A f) = q :: pend ({ aget A f with left := (aget A f).left ++ [(i : Int)] } : Acc) := by
        unfold pend
        obtain ⟨hl2, he2⟩ := List.getElem?_eq_some_iff.1 hq1
        rw [List.drop_eq_getElem_cons hl2, he2]
        simp
      rw [h3]
      rw [h8, List.map_cons] at hpe
      injection hpe with _ hr
      exact hr.symm
     ·rw [if_neg he, t3 f (by rw [h3]; exact he)]; exact ht.1 f
    ·unfold tell; rw [akeys_aput]; exact .inr (ht.2 y (t4 y hy))
theorem left_run {c : Config} {ls : List (List Call)} (hls : listsOk ls) : ∀ (l : List Point) (i : Nat) (m : Mdl) (A : As) (s : Int) (last : Option Int) (me : Mdl) (inn : List Packet), St c i m A s → i + l.length ≤ 1000000 → playL ls l m last = some me → LR A inn →
    ∃ inn', leftL ls l inn = some inn' ∧ LR (bookL c.unit ls l i A s).1 inn'
  | [], i, m, A, s, last, me, inn, h, _, hp, ht => ⟨inn, rfl, ht⟩
  | x :: l, i, m, A, s, last, me, inn, h, hi, hp, ht => by
    simp only [List.length_cons] at hi
    obtain ⟨_, _, he, hst, hp', _⟩ := st_step hls h (by omega) hp
    obtain ⟨inn1, h1, h2⟩ := lr_step h.inv he ht
    obtain ⟨inn2, h3, h4⟩ := left_run hls l (i + 1) _ _ _ _ me _ hst (by omega) hp' h2
    exact ⟨inn2, by rw [leftL, h1]; exact h3, by rw [bookL_S]; exact h4⟩
/-! ### Put in order by flow -/
abbrev SrtF (l : List Packet) : Prop := l.Pairwise fun a b => a.flow ≤ b.flow
theorem insPos_spec {out : List Packet} {fl : Int} : ∀ (n : Nat), n ≤ out.length → (∀ j y, insPos out fl n ≤ j → j < n → out[j]? = some y → fl < y.flow) ∧ (∀ y, 0 < insPos out fl n → out[insPos out fl n - 1]? = some y → y.flow ≤ fl)
  | 0, _ => ⟨by intro j y h1 h2; omega, by intro y h; simp [insPos] at h⟩
  | n + 1, hn => by
    obtain ⟨ih1, ih2⟩ := insPos_spec (out := out) (fl := fl) n (by omega)
    obtain ⟨q, hq⟩ : ∃ q, out[n]? = some q := ⟨_, List.getElem?_eq_getElem (by omega)⟩
    have hst : insPos out fl (n + 1) = if fl < q.flow then insPos out fl n else n + 1 := by
      conv => lhs; unfold insPos
      rw [hq]
    rw [hst]
    split
    ·rename_i hlt
     refine ⟨fun j y h1 h2 hy => ?_, ih2⟩
     by_cases hj : j = n
     ·subst hj; rw [hq] at hy; cases hy; exact hlt
     ·exact ih1 j y h1 (by omega) hy
    ·rename_i hge
     refine ⟨fun j y h1 h2 => by omega, fun y _ hy => ?_⟩
     rw [show n + 1 - 1 = n from rfl, hq] at hy; cases hy; omega
theorem insF_spec {out : List Packet} {x : Packet} (h : SrtF out) : SrtF (insF out x) ∧ ∀ f, flt f (insF out x) = flt f out ++ flt f [x] := by
  have hle := insPos_le out x.flow out.length
  obtain ⟨s1, s2⟩ := insPos_spec (out := out) (fl := x.flow) out.length (Nat.le_refl _)
  unfold insF
  generalize insPos out x.flow out.length = k at *
  have hdrop : ∀ y ∈ out.drop k, x.flow < y.flow := fun y hy => by
    obtain ⟨j, hj⟩ := List.getElem?_of_mem hy
    rw [List.getElem?_drop] at hj
    exact s1 (k + j) y (by omega) (List.getElem?_eq_some_iff.1 hj).1 hj
  have htake : ∀ y ∈ out.take k, y.flow ≤ x.flow := fun y hy => by
    obtain ⟨j, hj⟩ := List.getElem?_of_mem hy
    have hjl : j < k := by have := (List.getElem?_eq_some_iff.1 hj).1; simp at this; omega
    rw [List.getElem?_take, if_pos hjl] at hj
    obtain ⟨z, hz⟩ : ∃ z, out[k - 1]? = some z := ⟨_, List.getElem?_eq_getElem (by omega)⟩
    have hz2 := s2 z (by omega) hz
    obtain ⟨hj1, hj2⟩ := List.getElem?_eq_some_iff.1 hj
    obtain ⟨hz1, hz3⟩ := List.getElem?_eq_some_iff.1 hz
    by_cases he : j = k - 1
    ·subst he; rw [hj] at hz; cases hz; exact hz2
    ·have := List.pairwise_iff_getElem.1 h j (k - 1) hj1 hz1 (by omega)
     rw [hj2, hz3] at this; omega
  have hsplit := List.take_append_drop k out
  refine ⟨?_, fun f => ?_⟩
  ·show SrtF _
   rw [SrtF, List.pairwise_append]
   refine ⟨h.sublist (List.take_sublist _ _), List.pairwise_cons.2 ⟨fun y hy => by have := hdrop y hy; omega, h.sublist (List.drop_sublist _ _)⟩, fun a ha b hb => ?_⟩
   have := htake a ha
   rcases List.mem_cons.1 hb with rfl | hb
   ·exact this
   ·have := hdrop b hb; omega
  ·have e1 : flt f out = flt f (out.take k) ++ flt f (out.drop k) := by rw [← flt_append, hsplit]
   have e2 : flt f (out.take k ++ x :: out.drop k) = flt f (out.take k) ++ (flt f [x] ++ flt f (out.drop k)) := by
     rw [← flt_append, ← flt_append]; rfl
   rw [e1, e2]
   by_cases hf : x.flow = f
   ·rw [flt_none (l := out.drop k) (fun p hp => by have := hdrop p hp; omega)]; simp
   ·rw [flt_one, if_neg hf]; simp
theorem sortF_spec : ∀ (l out : List Packet), SrtF out → SrtF (l.foldl insF out) ∧ ∀ f, flt f (l.foldl insF out) = flt f out ++ flt f l
  | [], out, h => ⟨h, fun f => by simp [flt]⟩
  | x :: l, out, h => by
    obtain ⟨h1, h2⟩ := insF_spec (x := x) h
    obtain ⟨h3, h4⟩ := sortF_spec l (insF out x) h1
    refine ⟨h3, fun f => ?_⟩
    rw [List.foldl_cons, h4, h2, List.append_assoc, ← flt_append]; rfl
theorem srt_unique : ∀ (L1 L2 : List Packet), SrtF L1 → SrtF L2 → (∀ f, flt f L1 = flt f L2) → L1 = L2
  | [], [], _, _, _ => rfl
  | [], y :: L2, _, _, h => by
    have := h y.flow
    unfold flt at this; simp at this
  | x :: L1, [], _, _, h => by
    have := h x.flow
    unfold flt at this; simp at this
  | x :: L1, y :: L2, h1, h2, h => by
    have hx := List.pairwise_cons.1 h1
    have hy := List.pairwise_cons.1 h2
    have hyx : x.flow ≤ y.flow := by
      have : y ∈ flt y.flow (x :: L1) := by rw [h]; exact flt_mem.2 ⟨List.mem_cons_self .., rfl⟩
      rcases List.mem_cons.1 (flt_mem.1 this).1 with he | hm
      ·rw [he]; exact Int.le_refl _
      ·exact hx.1 y hm
    have hxy : y.flow ≤ x.flow := by
      have : x ∈ flt x.flow (y :: L2) := by rw [← h]; exact flt_mem.2 ⟨List.mem_cons_self .., rfl⟩
      rcases List.mem_cons.1 (flt_mem.1 this).1 with he | hm
      ·rw [he]; exact Int.le_refl _
      ·exact hy.1 x hm
    have hfl : y.flow = x.flow := by omega
    have e : ∀ (f : Int) (z : Packet) (L : List Packet), flt f (z :: L) = if z.flow = f then z :: flt f L else flt f L := fun f z L => by unfold flt; by_cases hg : z.flow = f <;> simp [hg]
    have h0 := h x.flow
    rw [e, e, if_pos rfl, if_pos hfl] at h0
    injection h0 with he _
    subst he
    rw [srt_unique L1 L2 hx.2 hy.2 fun f => by
      have := h f
      rw [e, e] at this
      split at this
      ·exact (List.cons.inj this).2
      ·exact this]
theorem restOf_flow {i : Nat} {m : Mdl} {A : As} {s : Int} (h : Inv i m A s) (f : Int) : ∀ p ∈ restOf A f, p.flow = f := fun p hp => by
  obtain ⟨q, hq, rfl⟩ := List.mem_map.1 hp
  exact (h.came f q (List.mem_of_mem_drop hq)).1
theorem flatMap_srt {i : Nat} {m : Mdl} {A : As} {s : Int} (h : Inv i m A s) : ∀ (K : List Int), K.Pairwise (· < ·) → SrtF (K.flatMap (restOf A)) ∧ ∀ f, flt f (K.flatMap (restOf A)) = if f ∈ K then restOf A f else []
  | [], _ => ⟨.nil, fun f => rfl⟩
  | k :: K, hK => by
    obtain ⟨hk1, hk2⟩ := List.pairwise_cons.1 hK
    obtain ⟨h1, h2⟩ := flatMap_srt h K hk2
    have hmem : ∀ p ∈ K.flatMap (restOf A), p.flow ∈ K := fun p hp => by
      obtain ⟨y, hy, hpy⟩ := List.mem_flatMap.1 hp
      rw [restOf_flow h y p hpy]; exact hy
    have hself : ∀ g, flt g (restOf A k) = if g = k then restOf A k else [] := fun g => by
      split
      ·rename_i he
       unfold flt
       rw [List.filter_eq_self]
       intro p hp; rw [restOf_flow h k p hp, he]; simp
      ·rename_i he
       exact flt_none fun p hp => by rw [restOf_flow h k p hp]; exact fun h' => he h'.symm
    rw [List.flatMap_cons]
    refine ⟨?_, fun f => ?_⟩
    ·rw [SrtF, List.pairwise_append]
     refine ⟨?_, h1, fun a ha b hb => ?_⟩
     ·rw [List.pairwise_iff_forall_sublist]
      intro a b hab
      have ha := hab.subset (List.mem_cons_self ..)
      have hb := hab.subset (List.mem_cons_of_mem _ (List.mem_cons_self ..))
      rw [restOf_flow h k a ha, restOf_flow h k b hb]; exact Int.le_refl _
     ·rw [restOf_flow h k a ha]
      have := hk1 b.flow (hmem b hb); omega
    ·rw [flt_append, hself, h2]
     by_cases he : f = k
     ·subst he
      have : f ∉ K := fun hm => by have := hk1 f hm; omega
      simp [this]
     ·simp [he]
section
variable {c : Config} {ls : List (List Call)} {l : List Point} {me : Mdl}
theorem left_eq (hls : listsOk ls) (hl : l.length ≤ 1000000) (h : plays c ls l = some me) {K : List Int} (hK : K.Perm (akeys (bookOf c ls l).1)) (hs : K.Pairwise (· < ·)) : rLeft ls l = some (K.flatMap (restOf (bookOf c ls l).1)) := by
  obtain ⟨hc, hp⟩ := playL_of h
  have hst := book_st hls hl h
  obtain ⟨inn, h1, h2, h3⟩ := left_run hls l 0 _ _ _ none me [] (st0 hc) (by omega) hp ⟨fun f => by simp [flt, aget, acc0, pend], by simp⟩
  obtain ⟨s1, s2⟩ := sortF_spec inn [] .nil
  obtain ⟨f1, f2⟩ := flatMap_srt hst.inv K hs
  unfold rLeft
  rw [h1, Option.map_some]
  congr 1
  refine srt_unique _ _ s1 f1 fun f => ?_
  rw [show sortF inn = inn.foldl insF [] from rfl, s2, f2]
  rw [show flt f [] = [] from rfl, List.nil_append, h2 f]
  split
  ·rfl
  ·rename_i hf
   have : aget (bookOf c ls l).1 f = acc0 := aget_no fun hm => hf (hK.mem_iff.2 hm)
   show (pend (aget (bookOf c ls l).1 f)).map (·.p) = []
   rw [this]; rfl
end
end Go.Proofs.YtkdbglfdgeldpaaGreat
