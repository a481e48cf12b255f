/- The plain law of layer 28, first part: what a playing row of points keeps between the model and the book. Condition: none. -/
import Derived.Test.YtkdbglfdgeldpaaGreatFair
namespace Go.Proofs.YtkdbglfdgeldpaaGreat
open Go.Lt
/-! ### A model, seen flow by flow -/
def look (s : Sq) (f : Int) : Option Flw := match s.at f with
  | none => none
  | some i => (s.F[i]?).map (·.2)
theorem look_mem {s : Sq} (h : s.srt) {f : Int} {w : Flw} : look s f = some w ↔ (f, w) ∈ s.F := by
  constructor
  ·intro hl
   unfold look at hl
   split at hl
   ·cases hl
   ·rename_i i hi
    obtain ⟨x, hx, hf⟩ := Sq.at_spec hi
    rw [hx] at hl
    cases hl
    subst hf
    exact List.mem_of_getElem? hx
  ·intro hm
   obtain ⟨i, hi⟩ := List.getElem?_of_mem hm
   have := at_of_get h hi
   unfold look
   rw [this]; simp only [hi]; rfl
theorem look_none {s : Sq} (h : s.srt) {f : Int} : look s f = none ↔ s.at f = none := by
  unfold look
  constructor
  ·intro hl
   split at hl
   ·assumption
   ·rename_i i hi
    obtain ⟨x, hx, hf⟩ := Sq.at_spec hi
    rw [hx] at hl; cases hl
  ·intro hl; rw [hl]
theorem look_ext {s s' : Sq} (h : s.srt) (h' : s'.srt) {k : Int} {o : Option Flw} (hm : ∀ f w, (f, w) ∈ s'.F ↔ (f = k ∧ o = some w) ∨ (f ≠ k ∧ (f, w) ∈ s.F)) (f : Int) : look s' f = if f = k then o else look s f := by
  apply Option.ext
  intro w
  rw [look_mem h', hm]
  split
  ·rename_i hf; simp [hf]
  ·rename_i hf; simp [hf, look_mem h]
theorem mem_keys {F : Fs} (h : F.Pairwise (fun a b => a.1 < b.1)) {i : Nat} {x : Int × Flw} (hx : F[i]? = some x) {f : Int} {w : Flw} (hm : (f, w) ∈ F) (hf : f = x.1) : w = x.2 := by
  obtain ⟨j, hj⟩ := List.getElem?_of_mem hm
  have := key_idx h hj hx hf
  subst this
  rw [hx] at hj; cases hj; rfl
theorem mem_set {F : Fs} (h : F.Pairwise (fun a b => a.1 < b.1)) {i : Nat} {x : Int × Flw} (hx : F[i]? = some x) (y : Flw) (f : Int) (w : Flw) : (f, w) ∈ F.set i (x.1, y) ↔ (f = x.1 ∧ some y = some w) ∨ (f ≠ x.1 ∧ (f, w) ∈ F) := by
  have hi := (List.getElem?_eq_some_iff.1 hx).1
  constructor
  ·intro hm
   obtain ⟨j, hj⟩ := List.getElem?_of_mem hm
   by_cases hij : i = j
   ·subst hij
    rw [List.getElem?_set_self hi] at hj
    cases hj; exact .inl ⟨rfl, rfl⟩
   ·rw [List.getElem?_set_ne hij] at hj
    refine .inr ⟨fun he => hij ?_, List.mem_of_getElem? hj⟩
    exact (key_idx h hj hx he).symm
  ·rintro (⟨rfl, hw⟩ | ⟨hne, hm⟩)
   ·cases hw
    exact List.mem_of_getElem? (i := i) (by rw [List.getElem?_set_self hi])
   ·obtain ⟨j, hj⟩ := List.getElem?_of_mem hm
    refine List.mem_of_getElem? (i := j) ?_
    rw [List.getElem?_set_ne, hj]
    intro hij; subst hij; rw [hx] at hj; cases hj; exact hne rfl
theorem mem_cut {F : Fs} (h : F.Pairwise (fun a b => a.1 < b.1)) {i : Nat} {x : Int × Flw} (hx : F[i]? = some x) (f : Int) (w : Flw) : (f, w) ∈ F.eraseIdx i ↔ (f = x.1 ∧ none = some w) ∨ (f ≠ x.1 ∧ (f, w) ∈ F) := by
  rw [List.mem_eraseIdx_iff_getElem?]
  constructor
  ·rintro ⟨j, hji, hj⟩
   refine .inr ⟨fun he => hji (key_idx h hj hx he), List.mem_of_getElem? hj⟩
  ·rintro (⟨_, hw⟩ | ⟨hne, hm⟩)
   ·cases hw
   ·obtain ⟨j, hj⟩ := List.getElem?_of_mem hm
    refine ⟨j, fun hji => ?_, hj⟩
    subst hji; rw [hx] at hj; cases hj; exact hne rfl
theorem mem_add {s : Sq} {id r b : Int} (hno : ∀ x ∈ s.F, x.1 ≠ id) (f : Int) (w : Flw) : (f, w) ∈ (s.add id r b).F ↔ (f = id ∧ some (newFlw r b) = some w) ∨ (f ≠ id ∧ (f, w) ∈ s.F) := by
  have hF := List.takeWhile_append_dropWhile (p := fun x : Int × Flw => decide (x.1 < id)) (l := s.F)
  have h1 : (f, w) ∈ s.F ↔ (f, w) ∈ s.F.takeWhile (fun x => decide (x.1 < id)) ∨ (f, w) ∈ s.F.dropWhile (fun x => decide (x.1 < id)) := by
    conv => lhs; rw [← hF]
    exact List.mem_append
  have h2 : (f, w) ∈ (s.add id r b).F ↔ (f, w) ∈ s.F.takeWhile (fun x => decide (x.1 < id)) ∨ (f, w) = (id, newFlw r b) ∨ (f, w) ∈ s.F.dropWhile (fun x => decide (x.1 < id)) := by
    unfold Sq.add; simp only [List.mem_append, List.mem_cons]
  rw [h2, h1]
  have h3 : (f, w) ∈ s.F → f ≠ id := fun h => hno _ h
  rw [h1] at h3
  constructor
  ·rintro (h | h | h)
   ·exact .inr ⟨h3 (.inl h), .inl h⟩
   ·cases h; exact .inl ⟨rfl, rfl⟩
   ·exact .inr ⟨h3 (.inr h), .inr h⟩
  ·rintro (⟨rfl, hw⟩ | ⟨_, h | h⟩)
   ·cases hw; exact .inr (.inl rfl)
   ·exact .inl h
   ·exact .inr (.inr h)
theorem lenAt_look {s : Sq} (f : Int) : s.lenAt f = match look s f with
  | none => -1
  | some w => (w.l.length : Int) := by
  unfold Sq.lenAt look
  cases s.at f with
  | none => rfl
  | some i => simp only; cases s.F[i]? <;> rfl
theorem rate_look {s : Sq} (f : Int) : s.rate f = match look s f with
  | none => 0
  | some w => w.r := by
  unfold Sq.rate look
  cases s.at f with
  | none => rfl
  | some i => simp only; cases s.F[i]? <;> rfl
/-! ### Accounts -/
theorem aget_aput : ∀ (A : As) (k : Int) (a : Acc) (f : Int), aget (aput A k a) f = if f = k then a else aget A f
  | [], k, a, f => by
    unfold aput aget
    by_cases h : f = k
    ·subst h; simp
    ·have : ¬ k = f := fun e => h e.symm
     simp [h, this]
  | p :: A, k, a, f => by
    have ih := aget_aput A k a f
    unfold aput
    by_cases hp : p.1 = k
    ·rw [if_pos hp]
     by_cases h : f = k
     ·subst h; simp [aget]
     ·have h2 : ¬ k = f := fun e => h e.symm
      have h3 : ¬ p.1 = f := fun e => h (e.symm.trans hp)
      simp [aget, h, h2, h3]
    ·rw [if_neg hp]
     by_cases h : p.1 = f
     ·have h4 : ¬ f = k := fun e => hp (h.trans e)
      simp [aget, h, h4]
     ·have : ∀ B : As, aget (p :: B) f = aget B f := fun B => by simp [aget, h]
      rw [this, this, ih]
theorem akeys_aput : ∀ (A : As) (k : Int) (a : Acc) (f : Int), f ∈ akeys (aput A k a) ↔ f = k ∨ f ∈ akeys A
  | [], k, a, f => by simp [akeys, aput]
  | p :: A, k, a, f => by
    have ih := akeys_aput A k a f
    unfold aput
    by_cases hp : p.1 = k
    ·rw [if_pos hp]; simp only [akeys, List.map_cons, List.mem_cons]
     constructor
     ·rintro (h | h)
      ·exact .inl h
      ·exact .inr (.inr h)
     ·rintro (h | h | h)
      ·exact .inl h
      ·exact .inl (h.trans hp)
      ·exact .inr h
    ·rw [if_neg hp]
     simp only [akeys, List.map_cons, List.mem_cons] at ih ⊢
     rw [ih]
     constructor
     ·rintro (h | h | h)
      ·exact .inr (.inl h)
      ·exact .inl h
      ·exact .inr (.inr h)
     ·rintro (h | h | h)
      ·exact .inr (.inl h)
      ·exact .inl h
      ·exact .inr (.inr h)
theorem nodup_aput : ∀ (A : As) (k : Int) (a : Acc), (akeys A).Nodup → (akeys (aput A k a)).Nodup
  | [], k, a, _ => by simp [akeys, aput]
  | p :: A, k, a, h => by
    have h' : p.1 ∉ akeys A ∧ (akeys A).Nodup := by simpa [akeys] using h
    unfold aput
    by_cases hp : p.1 = k
    ·rw [if_pos hp]; show (k :: akeys A).Nodup; rw [← hp]; exact List.nodup_cons.2 h'
    ·rw [if_neg hp]
     show (p.1 :: akeys (aput A k a)).Nodup
     refine List.nodup_cons.2 ⟨fun hm => ?_, nodup_aput A k a h'.2⟩
     rcases (akeys_aput A k a p.1).1 hm with h1 | h1
     ·exact hp h1
     ·exact h'.1 h1
theorem len_aput : ∀ (A : As) (k : Int) (a : Acc), (aput A k a).length ≤ A.length + 1
  | [], k, a => by simp [aput]
  | p :: A, k, a => by
    have ih := len_aput A k a
    unfold aput
    split
    ·simp
    ·simp only [List.length_cons]; omega
theorem aget_no {A : As} {f : Int} (h : f ∉ akeys A) : aget A f = acc0 := aget_none fun p hp he => h (by rw [← he]; exact List.mem_map_of_mem hp)
/-- A sum over all accounts. -/
def gsum (g : Acc → Int) : As → Int
  | [] => 0
  | p :: A => g p.2 + gsum g A
theorem gsum_aput {g : Acc → Int} (h0 : g acc0 = 0) : ∀ (A : As) (k : Int) (a : Acc), gsum g (aput A k a) = gsum g A - g (aget A k) + g a
  | [], k, a => by simp [gsum, aput, aget, h0]
  | p :: A, k, a => by
    have ih := gsum_aput h0 A k a
    unfold aput
    by_cases hp : p.1 = k
    ·rw [if_pos hp]
     have : aget (p :: A) k = p.2 := by simp [aget, hp]
     rw [this]; simp only [gsum]; omega
    ·rw [if_neg hp]
     have : aget (p :: A) k = aget A k := by simp [aget, hp]
     rw [this]; simp only [gsum]; omega
theorem gsum_nonneg {g : Acc → Int} : ∀ (A : As), (∀ p ∈ A, 0 ≤ g p.2) → 0 ≤ gsum g A
  | [], _ => Int.le_refl _
  | p :: A, h => by
    have h1 := h p (List.mem_cons_self ..)
    have h2 := gsum_nonneg A fun q hq => h q (List.mem_cons_of_mem _ hq)
    simp only [gsum]; omega
theorem gsum_get {g : Acc → Int} (h0 : g acc0 = 0) : ∀ (A : As), (∀ p ∈ A, 0 ≤ g p.2) → ∀ f, g (aget A f) ≤ gsum g A ∧ ∀ f2, f ≠ f2 → g (aget A f) + g (aget A f2) ≤ gsum g A
  | [], _, f => by simp [gsum, aget, h0]
  | p :: A, h, f => by
    have h1 := h p (List.mem_cons_self ..)
    have hA : ∀ q ∈ A, 0 ≤ g q.2 := fun q hq => h q (List.mem_cons_of_mem _ hq)
    have ih := gsum_get h0 A hA
    have hn := gsum_nonneg A hA
    have hget : ∀ f, aget (p :: A) f = if p.1 = f then p.2 else aget A f := fun f => by
      by_cases hp : p.1 = f <;> simp [aget, hp]
    simp only [gsum]
    refine ⟨?_, fun f2 hne => ?_⟩
    ·rw [hget]; have := (ih f).1; split <;> omega
    ·rw [hget, hget]
     have a1 := (ih f).1; have a2 := (ih f2).1; have a3 := (ih f).2 f2 hne
     split
     ·split
      ·rename_i e1 e2; exact absurd (e1.symm.trans e2) hne
      ·omega
     ·split <;> omega
theorem gsum_le {g h : Acc → Int} : ∀ (A : As), (∀ p ∈ A, g p.2 ≤ h p.2) → gsum g A ≤ gsum h A
  | [], _ => Int.le_refl _
  | p :: A, hle => by
    have h1 := hle p (List.mem_cons_self ..)
    have h2 := gsum_le A fun q hq => hle q (List.mem_cons_of_mem _ hq)
    simp only [gsum]; omega
def cs (l : List Parcel) : Int := l.foldr (fun q a => q.cost + a) 0
theorem cs_append (l m : List Parcel) : cs (l ++ m) = cs l + cs m := by
  induction l with
  | nil => simp [cs]
  | cons q l ih => simp only [cs, List.cons_append, List.foldr_cons] at ih ⊢; rw [ih]; omega
theorem cs_nonneg {l : List Parcel} (h : ∀ q ∈ l, 0 ≤ q.cost) : 0 ≤ cs l := by
  induction l with
  | nil => simp [cs]
  | cons q l ih =>
    have h1 := h q (List.mem_cons_self ..)
    have h2 := ih fun x hx => h x (List.mem_cons_of_mem _ hx)
    simp only [cs, List.foldr_cons] at h2 ⊢; omega
def cAll (a : Acc) : Int := cs a.came
def cTold (a : Acc) : Int := cs (a.came.take a.left.length)
def pend (a : Acc) : List Parcel := a.came.drop a.left.length
end Go.Proofs.YtkdbglfdgeldpaaGreat
