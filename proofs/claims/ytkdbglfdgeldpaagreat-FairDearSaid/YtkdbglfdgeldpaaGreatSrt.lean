/- The plain model's flows rise by number; what is told of them in any order is the same. Condition: none. -/
import Derived.Test.YtkdbglfdgeldpaaGreatSpec
namespace Go.Proofs.YtkdbglfdgeldpaaGreat
open Go.Lt

def Sq.srt (s : Sq) : Prop := s.F.Pairwise (fun a b => a.1 < b.1)
theorem srt_tw {F : Fs} (h : F.Pairwise (fun a b => a.1 < b.1)) (id : Int) : (∀ x ∈ F.takeWhile (fun x => x.1 < id), x.1 < id) ∧ (∀ x ∈ F.dropWhile (fun x => x.1 < id), id ≤ x.1) := by
  induction F with
  | nil => simp
  | cons y F ih =>
    rw [List.pairwise_cons] at h
    obtain ⟨i1, i2⟩ := ih h.2
    by_cases hy : y.1 < id
    ·simp only [List.takeWhile_cons, List.dropWhile_cons, hy, decide_true, if_true]
     refine ⟨fun x hx => ?_, i2⟩
     rcases List.mem_cons.1 hx with rfl | hx
     ·exact hy
     ·exact i1 x hx
    ·simp only [List.takeWhile_cons, List.dropWhile_cons, hy, decide_false]
     refine ⟨by simp, fun x hx => ?_⟩
     simp only [Bool.false_eq_true, if_false] at hx
     rcases List.mem_cons.1 hx with rfl | hx
     ·omega
     ·have := h.1 x hx; omega
theorem Sq.add_srt {s : Sq} (h : s.srt) {id r m : Int} (hno : ∀ x ∈ s.F, x.1 ≠ id) : (s.add id r m).srt := by
  unfold Sq.srt Sq.add
  simp only
  obtain ⟨h1, h2⟩ := srt_tw h id
  have hd : ∀ x ∈ s.F.dropWhile (fun x => x.1 < id), id < x.1 := fun x hx => by
    have := h2 x hx; have := hno x ((List.dropWhile_sublist _).subset hx); omega
  rw [List.pairwise_append, List.pairwise_cons]
  refine ⟨h.sublist (List.takeWhile_sublist _), ⟨fun x hx => hd x hx, h.sublist (List.dropWhile_sublist _)⟩, fun a ha b hb => ?_⟩
  have := h1 a ha
  rcases List.mem_cons.1 hb with rfl | hb
  ·exact this
  ·have := hd b hb; omega
theorem Sq.cut_srt {s : Sq} (h : s.srt) (i : Nat) : (s.cut i).srt := h.sublist (List.eraseIdx_sublist _ _)
theorem set_srt {F : Fs} (h : F.Pairwise (fun a b => a.1 < b.1)) {i : Nat} {x : Int × Flw} (hx : F[i]? = some x) (f : Flw) : (F.set i (x.1, f)).Pairwise (fun a b => a.1 < b.1) := by
  have e : (F.set i (x.1, f)).map Prod.fst = F.map Prod.fst := by
    apply List.ext_getElem?
    intro m
    rw [List.getElem?_map, List.getElem?_set, List.getElem?_map]
    by_cases hm : i = m
    ·subst hm
     have := (List.getElem?_eq_some_iff.1 hx).1
     obtain ⟨h1, h2⟩ := List.getElem?_eq_some_iff.1 hx
     simp [this, h2]
    ·simp [hm]
  have h1 : (F.map Prod.fst).Pairwise (· < ·) := List.pairwise_map.2 h
  rw [← e] at h1
  exact List.pairwise_map.1 h1
theorem Sq.put_srt {s : Sq} (h : s.srt) {i : Nat} {x : Int × Flw} (hx : s.F[i]? = some x) (f : Flw) : (s.put i (x.1, f)).srt := set_srt h hx f
theorem Sq.serve_srt {s : Sq} (h : s.srt) : s.serve.2.srt := by
  unfold Sq.serve
  split
  ·exact h
  ·split
   ·exact h
   ·rename_i i hi x hx
    split
    ·exact h
    ·exact set_srt h hx _
theorem Sq.arrive_srt {s : Sq} (h : s.srt) (p : Packet) : (s.arrive p).2.srt := by
  unfold Sq.arrive
  split
  ·exact h
  ·split
   ·exact h
   ·rename_i i hi x hx
    split
    ·exact h
    ·exact Sq.put_srt h hx _
theorem Mdl.one_srt {m : Mdl} (h : m.s.srt) : m.one.2.s.srt := by
  have := Sq.serve_srt h
  unfold Mdl.one
  split
  ·rename_i s hs; rw [hs] at this; exact this
  ·rename_i p s hs; rw [hs] at this; exact this
theorem Mdl.many_srt : ∀ (k : Nat) (m : Mdl) (l : List Packet), m.s.srt → (m.many k l).2.s.srt
  | 0, m, l, h => h
  | k + 1, m, l, h => by
    have h1 := Mdl.one_srt h
    unfold Mdl.many
    split
    rename_i r m' hm
    rw [hm] at h1
    split
    ·exact h1
    ·exact Mdl.many_srt k m' _ h1
theorem at_none_ne {s : Sq} {id : Int} (h : s.at id = none) : ∀ x ∈ s.F, x.1 ≠ id := by
  unfold Sq.at at h
  rw [List.findIdx?_eq_none_iff] at h
  intro x hx
  simpa using h x hx
theorem Mdl.do_srt {m : Mdl} (h : m.s.srt) (c : Call) : (m.do c).2.s.srt := by
  unfold Mdl.do
  split
  ·show (m.register c).2.s.srt
   unfold Mdl.register
   split
   ·exact h
   split
   ·exact h
   split
   ·exact h
   split
   ·exact h
   split
   ·exact h
   ·rename_i h4 _
    exact Sq.add_srt h (at_none_ne (by simpa using h4))
  split
  ·show (m.close c.flow).2.s.srt
   unfold Mdl.close
   split
   ·exact h
   split
   ·exact h
   split
   ·exact h
   ·exact Sq.cut_srt h _
  split
  ·split
   ·exact h
   ·exact Sq.arrive_srt h _
  split
  ·exact Mdl.one_srt h
  split
  ·unfold Mdl.batch
   split
   ·exact h
   ·exact Mdl.many_srt _ _ _ h
  split
  ·exact h
  ·exact h

theorem srt_nodup {F : Fs} (h : F.Pairwise (fun a b => a.1 < b.1)) : (F.map Prod.fst).Nodup := by
  rw [List.Nodup, List.pairwise_map]; exact h.imp fun h e => by omega
theorem srt_lt {F : Fs} (h : F.Pairwise (fun a b => a.1 < b.1)) {i j : Nat} {x y : Int × Flw} (hx : F[i]? = some x) (hy : F[j]? = some y) (hij : i < j) : x.1 < y.1 := by
  obtain ⟨h1, h2⟩ := List.getElem?_eq_some_iff.1 hx
  obtain ⟨h3, h4⟩ := List.getElem?_eq_some_iff.1 hy
  subst h2 h4
  exact List.pairwise_iff_getElem.1 h i j h1 h3 hij
theorem key_idx {F : Fs} (h : F.Pairwise (fun a b => a.1 < b.1)) {i j : Nat} {x y : Int × Flw} (hx : F[i]? = some x) (hy : F[j]? = some y) (he : x.1 = y.1) : i = j := by
  rcases Nat.lt_trichotomy i j with h1 | h1 | h1
  ·have := srt_lt h hx hy h1; omega
  ·exact h1
  ·have := srt_lt h hy hx h1; omega
theorem at_of_get {s : Sq} (h : s.srt) {i : Nat} {x : Int × Flw} (hx : s.F[i]? = some x) : s.at x.1 = some i := by
  obtain ⟨hi, he⟩ := List.getElem?_eq_some_iff.1 hx
  unfold Sq.at
  rw [List.findIdx?_eq_some_iff_getElem]
  refine ⟨hi, by simp [he], fun j hj => ?_⟩
  have := srt_lt h (List.getElem?_eq_getElem (by omega : j < s.F.length)) hx hj
  simp; omega

/-- Who is served: the one that is ahead of all others. -/
theorem bestB_spec {F : Fs} (h : F.Pairwise (fun a b => a.1 < b.1)) : ∀ k, k ≤ F.length →
    (bestB F k = none → ∀ j x, j < k → F[j]? = some x → x.2.l.length = 0) ∧
    (∀ i, bestB F k = some i → ∃ x, F[i]? = some x ∧ x.2.l.length ≠ 0 ∧ ∀ j y, j < k → F[j]? = some y → y.2.l.length ≠ 0 → y = x ∨ aheadP x.2.start x.1 y.2.start y.1)
  | 0, _ => ⟨by intro _ j x hj; omega, by intro i hi; simp [bestB] at hi⟩
  | k + 1, hk => by
    obtain ⟨ih1, ih2⟩ := bestB_spec h k (by omega)
    obtain ⟨x, hx⟩ : ∃ x, F[k]? = some x := ⟨_, List.getElem?_eq_getElem (by omega)⟩
    have hst : bestB F (k + 1) = if x.2.l.length = 0 then bestB F k else match bestB F k with
      | none => some k
      | some j => if x.2.start < startOf F j then some k else some j := by
      conv => lhs; unfold bestB
      simp only [hx]
      split
      ·rfl
      ·cases bestB F k <;> rfl
    rw [hst]
    split
    ·rename_i h0
     refine ⟨fun hn j y hj hy => ?_, fun i hi => ?_⟩
     ·by_cases hjk : j = k
      ·subst hjk; rw [hx] at hy; cases hy; exact h0
      ·exact ih1 hn j y (by omega) hy
     ·obtain ⟨z, hz1, hz2, hz3⟩ := ih2 i hi
      refine ⟨z, hz1, hz2, fun j y hj hy hl => ?_⟩
      by_cases hjk : j = k
      ·subst hjk; rw [hx] at hy; cases hy; exact absurd h0 hl
      ·exact hz3 j y (by omega) hy hl
    ·rename_i h0
     cases hb : bestB F k with
     | none =>
       refine ⟨by simp, fun i hi => ?_⟩
       cases hi
       refine ⟨x, hx, h0, fun j y hj hy hl => ?_⟩
       by_cases hjk : j = k
       ·subst hjk; rw [hx] at hy; cases hy; exact .inl rfl
       ·exact absurd (ih1 hb j y (by omega) hy) hl
     | some i0 =>
       obtain ⟨z, hz1, hz2, hz3⟩ := ih2 i0 hb
       have hi0 := (bestB_lt F k i0 hb).1
       simp only [startOf, hz1]
       split
       ·rename_i hlt
        refine ⟨by simp, fun i hi => ?_⟩
        cases hi
        refine ⟨x, hx, h0, fun j y hj hy hl => ?_⟩
        by_cases hjk : j = k
        ·subst hjk; rw [hx] at hy; cases hy; exact .inl rfl
        ·rcases hz3 j y (by omega) hy hl with rfl | ha
         ·exact .inr (.inl hlt)
         ·right; unfold aheadP at *; omega
       ·rename_i hge
        refine ⟨by simp, fun i hi => ?_⟩
        cases hi
        refine ⟨z, hz1, hz2, fun j y hj hy hl => ?_⟩
        by_cases hjk : j = k
        ·subst hjk; rw [hx] at hy; cases hy
         have := srt_lt h hz1 hx hi0
         right; unfold aheadP; omega
        ·exact hz3 j y (by omega) hy hl

/-! ### Rows in another order -/
theorem perm_erase {α : Type} {A B : List α} (h : A.Perm B) {i j : Nat} {x : α} (hi : A[i]? = some x) (hj : B[j]? = some x) : (A.eraseIdx i).Perm (B.eraseIdx j) :=
  List.Perm.cons_inv (((perm_take hi).symm.trans h).trans (perm_take hj))
theorem perm_set {α : Type} {A B : List α} (h : A.Perm B) {i j : Nat} {x : α} (hi : A[i]? = some x) (hj : B[j]? = some x) (y : α) : (A.set i y).Perm (B.set j y) :=
  ((perm_give y (List.getElem?_eq_some_iff.1 hi).1).symm.trans ((perm_erase h hi hj).cons y)).trans (perm_give y (List.getElem?_eq_some_iff.1 hj).1)
theorem perm_get {α : Type} {A B : List α} (h : A.Perm B) {j : Nat} {x : α} (hj : B[j]? = some x) : ∃ i : Nat, A[i]? = some x :=
  List.getElem?_of_mem (h.symm.subset (List.mem_of_getElem? hj))

/-! ### A flow's packets are its own -/
def Sq.own (s : Sq) : Prop := ∀ x ∈ s.F, ∀ p ∈ x.2.l, p.flow = x.1
theorem Sq.serve_own {s : Sq} (h : s.own) : s.serve.2.own := by
  unfold Sq.serve
  split
  ·exact h
  ·split
   ·exact h
   ·rename_i i hi x hx
    split
    ·exact h
    ·intro y hy p hp
     rcases List.mem_or_eq_of_mem_set hy with h1 | h1
     ·exact h y h1 p hp
     ·subst h1; exact h x (List.mem_of_getElem? hx) p (List.mem_of_mem_drop hp)
theorem Sq.arrive_own {s : Sq} (h : s.own) (p : Packet) : (s.arrive p).2.own := by
  unfold Sq.arrive
  split
  ·exact h
  ·rename_i i hi
   split
   ·exact h
   ·rename_i x hx
    obtain ⟨x', hx', he⟩ := Sq.at_spec hi
    rw [hx] at hx'; cases hx'
    split
    ·exact h
    ·intro y hy q hq
     rcases List.mem_or_eq_of_mem_set hy with h1 | h1
     ·exact h y h1 q hq
     ·subst h1
      rcases List.mem_append.1 hq with h2 | h2
      ·exact h x (List.mem_of_getElem? hx) q h2
      ·rw [List.mem_singleton.1 h2]; exact he.symm
theorem Sq.add_own {s : Sq} (h : s.own) (id r m : Int) : (s.add id r m).own := by
  intro x hx
  unfold Sq.add at hx
  rcases List.mem_append.1 hx with h1 | h1
  ·exact h x ((List.takeWhile_sublist _).subset h1)
  ·rcases List.mem_cons.1 h1 with rfl | h1
   ·intro p hp; simp [newFlw] at hp
   ·exact h x ((List.dropWhile_sublist _).subset h1)
theorem Sq.cut_own {s : Sq} (h : s.own) (i : Nat) : (s.cut i).own := fun x hx => h x ((List.eraseIdx_sublist _ _).subset hx)
theorem Mdl.one_own {m : Mdl} (h : m.s.own) : m.one.2.s.own := by
  have := Sq.serve_own h
  unfold Mdl.one
  split
  ·rename_i s hs; rw [hs] at this; exact this
  ·rename_i p s hs; rw [hs] at this; exact this
theorem Mdl.many_own : ∀ (k : Nat) (m : Mdl) (l : List Packet), m.s.own → (m.many k l).2.s.own
  | 0, m, l, h => h
  | k + 1, m, l, h => by
    have h1 := Mdl.one_own h
    unfold Mdl.many
    split
    rename_i r m' hm
    rw [hm] at h1
    split
    ·exact h1
    ·exact Mdl.many_own k m' _ h1
theorem Mdl.do_own {m : Mdl} (h : m.s.own) (c : Call) : (m.do c).2.s.own := by
  unfold Mdl.do
  split
  ·show (m.register c).2.s.own
   unfold Mdl.register
   split
   ·exact h
   split
   ·exact h
   split
   ·exact h
   split
   ·exact h
   split
   ·exact h
   ·exact Sq.add_own h _ _ _
  split
  ·show (m.close c.flow).2.s.own
   unfold Mdl.close
   split
   ·exact h
   split
   ·exact h
   split
   ·exact h
   ·exact Sq.cut_own h _
  split
  ·split
   ·exact h
   ·exact Sq.arrive_own h _
  split
  ·exact Mdl.one_own h
  split
  ·unfold Mdl.batch
   split
   ·exact h
   ·exact Mdl.many_own _ _ _ h
  split
  ·exact h
  ·exact h
def Sq.inv (s : Sq) : Prop := s.srt ∧ s.own
theorem Mdl.do_inv {m : Mdl} (h : m.s.inv) (c : Call) : (m.do c).2.s.inv := ⟨Mdl.do_srt h.1 c, Mdl.do_own h.2 c⟩
theorem Mdl.one_inv {m : Mdl} (h : m.s.inv) : m.one.2.s.inv := ⟨Mdl.one_srt h.1, Mdl.one_own h.2⟩
theorem serve_F (s : Sq) (h : s.serve.1 = none) : s.serve.2.F = s.F := by
  unfold Sq.serve at h ⊢
  split
  ·rfl
  ·rename_i i hi
   rw [hi] at h; simp only at h
   split
   ·rfl
   ·rename_i x hx
    rw [hx] at h; simp only at h
    split
    ·rfl
    ·rename_i p l hl; rw [hl] at h; cases h
theorem serve_P (s : Sq) {p : Packet} {s' : Sq} (h : s.serve = (some p, s')) : ∃ (i : Nat) (x : Int × Flw) (l : List Packet), s.F[i]? = some x ∧ x.2.l = p :: l ∧ s'.F = s.F.set i (x.1, x.2.serve p) := by
  unfold Sq.serve at h
  split at h
  ·cases h
  ·rename_i i hi
   split at h
   ·cases h
   ·rename_i x hx
    split at h
    ·cases h
    ·rename_i q l hl
     cases h
     exact ⟨i, x, l, hx, hl, rfl⟩
theorem one_nil {m : Mdl} (h : m.one.1.e ≠ 0) : m.one.1.packets = [] := by
  unfold Mdl.one at h ⊢
  split
  ·rfl
  ·rename_i p s hs; rw [hs] at h; exact absurd rfl h
end Go.Proofs.YtkdbglfdgeldpaaGreat
