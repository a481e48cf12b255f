/- Contract of package law28: FairTold answers true. Condition: the input is only read. -/
import Derived.Test.YtkdbglfdgeldpaaGreatBound
namespace Go.Proofs.YtkdbglfdgeldpaaGreat
open Go.Lt
theorem flt_comm {x y : Packet} (h : y.flow ≠ x.flow) (f : Int) : flt f [y] ++ flt f [x] = flt f [x] ++ flt f [y] := by
  rw [flt_one, flt_one]
  by_cases h1 : y.flow = f
  ·have h2 : ¬ x.flow = f := fun h2 => h (by rw [h1, h2])
   rw [if_pos h1, if_neg h2]; rfl
  ·rw [if_neg h1]; simp
theorem flt_cons (f : Int) (x : Packet) (l : List Packet) : flt f (x :: l) = flt f [x] ++ flt f l := flt_append f [x] l
theorem takeP_flt {x : Packet} (f : Int) : ∀ {l l2 : List Packet}, takeP x l = some l2 → flt f l = flt f [x] ++ flt f l2
  | [], l2, h => by unfold takeP at h; simp at h
  | y :: l, l2, h => by
    unfold takeP firstF at h
    rw [List.findIdx_cons] at h
    by_cases hy : y.flow = x.flow
    ·rw [show (y.flow == x.flow) = true from by simpa using hy] at h
     simp only [cond_true, List.getElem?_cons_zero] at h
     split at h
     ·rename_i e
      subst e
      simp at h
      subst h
      exact flt_cons f _ _
     ·cases h
    ·rw [show (y.flow == x.flow) = false from by simpa using hy] at h
     simp only [cond_false, List.getElem?_cons_succ] at h
     split at h
     ·cases h
     ·rename_i q hq
      split at h
      ·rename_i e
       have ih := takeP_flt f (x := x) (l := l) (l2 := l.eraseIdx (l.findIdx fun p => p.flow == x.flow)) (by unfold takeP firstF; rw [hq]; simp only; rw [if_pos e])
       simp only [Option.some.injEq] at h
       subst h
       rw [List.eraseIdx_cons_succ, flt_cons, ih, flt_cons f y (l.eraseIdx (l.findIdx fun p => p.flow == x.flow)), ← List.append_assoc, ← List.append_assoc, flt_comm hy]
      ·cases h
theorem takeAll_flt (f : Int) : ∀ (xs l l' : List Packet), takeAll xs l = some l' → flt f l = flt f xs ++ flt f l'
  | [], l, l', h => by cases h; simp [flt]
  | x :: xs, l, l', h => by
    unfold takeAll at h
    cases h1 : takeP x l with
    | none => rw [h1] at h; cases h
    | some l2 =>
      rw [h1] at h
      rw [takeP_flt f h1, takeAll_flt f xs l2 l' h, flt_cons f x xs, List.append_assoc]
/-- What a point brings in of a flow. -/
def inAt (ls : List (List Call)) (f : Int) (x : Point) : List Packet := if (callOf ls x).1.op = 3 ∧ (callOf ls x).1.flow = f ∧ x.ret.e = 0 then [⟨f, (callOf ls x).1.a, (callOf ls x).1.b⟩] else []
theorem leftIn_flt (ls : List (List Call)) (f : Int) (inn : List Packet) (x : Point) : flt f (leftIn ls inn x) = flt f inn ++ inAt ls f x := by
  unfold leftIn inAt
  by_cases h : came ls x
  ·rw [if_pos h, flt_append, flt_one]
   unfold came at h
   by_cases h2 : (callOf ls x).1.flow = f
   ·rw [if_pos h2, if_pos ⟨h.1, h2, h.2⟩, h2]
   ·rw [if_neg h2, if_neg (fun h3 => h2 h3.2.1)]
  ·rw [if_neg h, if_neg (fun h3 => h ⟨h3.1, h3.2.2⟩), List.append_nil]
theorem leftL_flt (ls : List (List Call)) (f : Int) : ∀ (l : List Point) (inn out : List Packet), leftL ls l inn = some out → flt f inn ++ l.flatMap (inAt ls f) = l.flatMap (fun x => flt f x.ret.packets) ++ flt f out
  | [], inn, out, h => by cases h; simp
  | x :: l, inn, out, h => by
    unfold leftL at h
    cases h1 : takeAll x.ret.packets (leftIn ls inn x) with
    | none => rw [h1] at h; cases h
    | some i2 =>
      rw [h1] at h
      have ih := leftL_flt ls f l i2 out h
      have h2 := takeAll_flt f _ _ _ h1
      rw [leftIn_flt] at h2
      rw [List.flatMap_cons, List.flatMap_cons, ← List.append_assoc, h2, List.append_assoc, ih, List.append_assoc]
theorem told_eq {ls : List (List Call)} {l : List Point} {lo : List Packet} (h : rLeft ls l = some lo) (f : Int) : l.flatMap (inAt ls f) = l.flatMap (fun x => flt f x.ret.packets) ++ flt f lo := by
  unfold rLeft at h
  obtain ⟨o, h1, rfl⟩ := Option.map_eq_some_iff.1 h
  have := leftL_flt ls f l [] o h1
  have h2 := (sortF_spec o [] .nil).2 f
  unfold sortF
  rw [h2]
  simpa [flt] using this
theorem left_srt {ls : List (List Call)} {l : List Point} {lo : List Packet} (h : rLeft ls l = some lo) : SrtF lo := by
  unfold rLeft at h
  obtain ⟨o, h1, rfl⟩ := Option.map_eq_some_iff.1 h
  exact (sortF_spec o [] .nil).1
theorem srt_at {lo : List Packet} (h : SrtF lo) {i : Nat} {p q : Packet} (hi : 1 ≤ i) (hp : lo[i - 1]? = some p) (hq : lo[i]? = some q) : p.flow ≤ q.flow := by
  obtain ⟨h1, e1⟩ := List.getElem?_eq_some_iff.1 hp
  obtain ⟨h2, e2⟩ := List.getElem?_eq_some_iff.1 hq
  have := List.pairwise_iff_getElem.1 h (i - 1) i h1 h2 (by omega)
  rw [e1, e2] at this; exact this
theorem playL_call {ls : List (List Call)} : ∀ (l : List Point) (m me : Mdl) (last : Option Int), playL ls l m last = some me → ∀ x ∈ l, (callOf ls x).2 = true
  | [], _, _, _, _, x, hx => by cases hx
  | y :: l, m, me, last, h, x, hx => by
    by_cases hy : (callOf ls y).2 = false ∨ tooLate last y ∨ (m.do (callOf ls y).1).1 ≠ y.ret
    ·rw [playL_no hy] at h; cases h
    ·have h1 : (callOf ls y).2 = true := by
       cases hc : (callOf ls y).2 with
       | true => rfl
       | false => exact absurd (.inl hc) hy
     have h2 : ¬ tooLate last y := fun h' => hy (.inr (.inl h'))
     have h3 : (m.do (callOf ls y).1).1 = y.ret := Classical.byContradiction fun h' => hy (.inr (.inr h'))
     rw [playL_yes h1 h2 h3] at h
     rcases List.mem_cons.1 hx with rfl | hx
     ·exact h1
     ·exact playL_call l _ me _ h x hx
theorem call_at {ls : List (List Call)} (hb : ∀ l ∈ ls, ∀ y ∈ l, bCall y) {x : Point} (h : (callOf ls x).2 = true) : ∃ (u p : Nat) (l : List Call), x.who = u ∧ x.place = p ∧ ls[u]? = some l ∧ l[p]? = some (callOf ls x).1 := by
  unfold callOf at h ⊢
  split at h
  ·cases h
  ·rename_i h0
   cases h1 : ls[x.who.toNat]? with
   | none => rw [h1] at h; cases h
   | some l =>
     rw [h1] at h
     dsimp only at h
     split at h
     ·cases h
     ·rename_i h2
      cases h3 : l[x.place.toNat]? with
      | none => rw [h3] at h; cases h
      | some y =>
        have hy := hb l (List.mem_of_getElem? h1) y (List.mem_of_getElem? h3)
        refine ⟨x.who.toNat, x.place.toNat, l, by omega, by omega, h1, ?_⟩
        rw [if_neg h0]
        dsimp only
        rw [if_neg h2, h3]
        dsimp only
        rw [if_neg (by unfold bCall at hy; omega)]
theorem take_S {α : Type} {l : List α} {i : Nat} {x : α} (h : l[i]? = some x) : l.take (i + 1) = l.take i ++ [x] := by
  rw [List.take_add_one, h]; rfl
section
variable {R : Base} {F : List HP} {w : World}
theorem kept_true {c : Config} {ls : List (List Call)} {l : List Point} {me : Mdl} (hls : listsOk ls) (hl : l.length ≤ 1000000) (hme : plays c ls l = some me) : ((plays c ls l).isSome && keptB (bookOf c ls l).1) = true := by rw [Bool.and_eq_true]; exact ⟨by rw [hme]; rfl, book_kept hls hl hme⟩
end
end Go.Proofs.YtkdbglfdgeldpaaGreat
