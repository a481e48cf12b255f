/- The plain law of layer 28, third part: what the book and the model keep, point by point. Condition: none. -/
import Derived.Test.YtkdbglfdgeldpaaGreatInv2
namespace Go.Proofs.YtkdbglfdgeldpaaGreat
open Go.Lt
structure Inv (i : Nat) (m : Mdl) (A : As) (s : Int) : Prop where
  nd : (akeys A).Nodup
  kI : ∀ f ∈ akeys A, I f
  len : A.length ≤ i
  le : ∀ f, (aget A f).left.length ≤ (aget A f).came.length
  ok : ∀ f, (aget A f).wrong = false
  came : ∀ f, ∀ q ∈ (aget A f).came, q.p.flow = f ∧ 0 ≤ q.cost ∧ q.pt < i
  no : ∀ f, look m.s f = none → pend (aget A f) = []
  yes : ∀ f w, look m.s f = some w → f ∈ akeys A ∧ (aget A f).r = w.r ∧ (pend (aget A f)).map (·.p) = w.l ∧ ∀ q ∈ pend (aget A f), q.cost = costOf q.p.len w.r
  sum : s = min (gsum cAll A) top
theorem look_ok {s : Sq} (h : s.ok) {f : Int} {w : Flw} (hl : look s f = some w) : w.ok := by
  unfold look at hl
  split at hl
  ·cases hl
  ·rename_i i hi
   cases hx : s.F[i]? with
   | none => rw [hx] at hl; cases hl
   | some x => rw [hx] at hl; cases hl; exact (h.1 x (List.mem_of_getElem? hx)).2
theorem costOf_nonneg {a r : Int} (hr : 0 ≤ r) : 0 ≤ costOf a r := by
  have := Int.mul_nonneg (show 0 ≤ max a 0 by omega) hr
  unfold costOf satMul top; omega
theorem inv0 (c : Config) : Inv 0 (mkMdl c) [] 0 := by
  refine ⟨by simp [akeys], by simp [akeys], by simp, by simp [aget, acc0], by simp [aget, acc0], by simp [aget, acc0], by simp [aget, acc0, pend], ?_, by simp only [gsum, top]; omega⟩
  intro f w h
  simp [look, mkMdl, Sq.at] at h
theorem cAll_nonneg {i : Nat} {m : Mdl} {A : As} {s : Int} (h : Inv i m A s) : ∀ p ∈ A, 0 ≤ cAll p.2 := fun p hp => by
  have he : aget A p.1 = p.2 := aget_mem h.nd (by simpa using hp)
  exact cs_nonneg fun q hq => (h.came p.1 q (by rw [he]; exact hq)).2.1
theorem pend_get {a : Acc} {q : Parcel} {r : List Parcel} (h : pend a = q :: r) : a.came[a.left.length]? = some q ∧ a.left.length < a.came.length ∧ a.came.drop (a.left.length + 1) = r := by
  unfold pend at h
  have hlt : a.left.length < a.came.length := by
    rcases Nat.lt_or_ge a.left.length a.came.length with h' | h'
    ·exact h'
    ·rw [List.drop_of_length_le h'] at h; cases h
  rw [List.drop_eq_getElem_cons hlt] at h
  injection h with h1 h2
  exact ⟨by rw [List.getElem?_eq_getElem hlt, h1], hlt, h2⟩
theorem evt_inv {i : Nat} {m m' : Mdl} {A A' : As} {s s' : Int} {k : Knd} {ps : List Packet} (h : Inv i m A s) (hok : m.s.ok) (e : Evt i m A s k ps m' A' s') : Inv (i + 1) m' A' s' := by
  have hcame : ∀ f, ∀ q ∈ (aget A f).came, q.p.flow = f ∧ 0 ≤ q.cost ∧ q.pt < ((i + 1 : Nat) : Int) := fun f q hq => by
    have := h.came f q hq; exact ⟨this.1, this.2.1, by omega⟩
  cases e with
  | idle => exact ⟨h.nd, h.kI, by have := h.len; omega, h.le, h.ok, hcame, h.no, h.yes, h.sum⟩
  | empty _ h1 h2 h3 h4 =>
    refine ⟨h.nd, h.kI, by have := h.len; omega, h.le, h.ok, hcame, fun f hf => h.no f ((h2 f).symm.trans hf), fun f w hw => h.yes f w ((h2 f).symm.trans hw), h.sum⟩
  | close f w _ h1 h2 h3 h4 h5 =>
    refine ⟨h.nd, h.kI, by have := h.len; omega, h.le, h.ok, hcame, fun g hg => ?_, fun g w' hw => ?_, h.sum⟩
    ·rw [h3] at hg
     split at hg
     ·rename_i he; subst he
      have := (h.yes g w h1).2.2.1
      rw [h2] at this
      exact List.map_eq_nil_iff.1 this
     ·exact h.no g hg
    ·rw [h3] at hw
     split at hw
     ·cases hw
     ·exact h.yes g w' hw
  | reg f w _ h1 h2 h3 h4 h5 h6 h7 =>
    have hg : ∀ g, aget (aput A f { aget A f with r := w.r }) g = if g = f then { aget A f with r := w.r } else aget A g := fun g => aget_aput A f _ g
    have hpn := h.no f h1
    refine ⟨nodup_aput _ _ _ h.nd, fun g hgk => ?_, by have := len_aput A f { aget A f with r := w.r }; have := h.len; omega, fun g => ?_, fun g => ?_, fun g q hq => ?_, fun g hl => ?_, fun g w' hl => ?_, ?_⟩
    ·rcases (akeys_aput ..).1 hgk with rfl | hk
     ·exact h4
     ·exact h.kI g hk
    ·rw [hg]; split
     ·exact h.le f
     ·exact h.le g
    ·rw [hg]; split
     ·exact h.ok f
     ·exact h.ok g
    ·rw [hg] at hq; split at hq
     ·rename_i he; subst he; exact hcame g q hq
     ·exact hcame g q hq
    ·rw [h5] at hl
     split at hl
     ·cases hl
     ·rename_i hne; rw [hg, if_neg hne]; exact h.no g hl
    ·rw [h5] at hl
     rw [hg]
     split at hl
     ·rename_i he; subst he
      cases hl
      rw [if_pos rfl]
      have hp2 : pend ({ aget A g with r := w.r } : Acc) = [] := hpn
      refine ⟨(akeys_aput ..).2 (.inl rfl), rfl, by rw [hp2, h2]; rfl, by rw [hp2]; simp⟩
     ·rename_i hne
      rw [if_neg hne]
      have := h.yes g w' hl
      exact ⟨(akeys_aput ..).2 (.inr this.1), this.2⟩
    ·rw [gsum_aput (by rfl)]
     have : cAll ({ aget A f with r := w.r } : Acc) = cAll (aget A f) := rfl
     rw [this, h.sum]; congr 1; omega
  | enq f w p _ h1 h2 h3 h4 h5 =>
    have hy := h.yes f w h1
    have hr0 : 0 ≤ (aget A f).r := by rw [hy.2.1]; have := look_ok hok h1; unfold Flw.ok U at this; exact this.1.1
    have hc0 := costOf_nonneg (a := p.len) hr0
    generalize hco : costOf p.len (aget A f).r = co at *
    let a' : Acc := { aget A f with came := (aget A f).came ++ [⟨p, co, i⟩] }
    have hg : ∀ g, aget (aput A f a') g = if g = f then a' else aget A g := fun g => aget_aput A f _ g
    have hpend : pend a' = pend (aget A f) ++ [⟨p, co, i⟩] := List.drop_append_of_le_length (h.le f)
    refine ⟨nodup_aput _ _ _ h.nd, fun g hgk => ?_, by have := len_aput A f a'; have := h.len; show (aput A f a').length ≤ _; omega, fun g => ?_, fun g => ?_, fun g q hq => ?_, fun g hl => ?_, fun g w' hl => ?_, ?_⟩
    ·rcases (akeys_aput ..).1 hgk with rfl | hk
     ·exact h.kI g hy.1
     ·exact h.kI g hk
    ·rw [hg]; split
     ·have := h.le f; show (aget A f).left.length ≤ ((aget A f).came ++ [_]).length; simp; omega
     ·exact h.le g
    ·rw [hg]; split
     ·exact h.ok f
     ·exact h.ok g
    ·rw [hg] at hq; split at hq
     ·rename_i he; subst he
      rcases List.mem_append.1 hq with h' | h'
      ·exact hcame g q h'
      ·rw [List.mem_singleton.1 h']; exact ⟨h2, hc0, by simp only; omega⟩
     ·exact hcame g q hq
    ·rw [h3] at hl
     split at hl
     ·cases hl
     ·rename_i hne; rw [hg, if_neg hne]; exact h.no g hl
    ·rw [h3] at hl
     rw [hg]
     split at hl
     ·rename_i he; subst he
      cases hl
      rw [if_pos rfl]
      refine ⟨(akeys_aput ..).2 (.inl rfl), hy.2.1, ?_, ?_⟩
      ·rw [hpend, List.map_append, hy.2.2.1]; rfl
      ·rw [hpend]
       intro q hq
       rcases List.mem_append.1 hq with h' | h'
       ·exact hy.2.2.2 q h'
       ·rw [List.mem_singleton.1 h']; show co = costOf p.len w.r; rw [← hco, hy.2.1]
     ·rename_i hne
      rw [if_neg hne]
      have := h.yes g w' hl
      exact ⟨(akeys_aput ..).2 (.inr this.1), this.2⟩
    ·show satAdd s co = min (gsum cAll (aput A f a')) top
     rw [gsum_aput (by rfl)]
     have : cAll a' = cAll (aget A f) + co := by
       show cs ((aget A f).came ++ [_]) = _
       rw [cs_append]; simp [cs, cAll]
     rw [this, h.sum]; unfold satAdd top; omega
  | deq f w p rest _ h1 h2 h3 h4 h5 h6 h7 =>
    have hy := h.yes f w h1
    obtain ⟨q0, qr, hpe⟩ : ∃ q0 qr, pend (aget A f) = q0 :: qr := by
      cases hpp : pend (aget A f) with
      | nil => rw [hpp, h2] at hy; simp at hy
      | cons a b => exact ⟨a, b, rfl⟩
    obtain ⟨hq1, hq2, hq3⟩ := pend_get hpe
    have hqp : q0.p = p ∧ qr.map (·.p) = rest := by
      have := hy.2.2.1
      rw [hpe, h2] at this
      simpa using this
    have hpt := (h.came f q0 (List.mem_of_getElem? hq1)).2.2
    subst h3
    have hwr : ((aget A p.flow).wrong || wrongAt (aget A p.flow) i p) = false := by
      rw [h.ok]; unfold wrongAt; rw [hq1]; simp [hqp.1]; omega
    have htell : tell i A p = aput A p.flow { aget A p.flow with left := (aget A p.flow).left ++ [(i : Int)] } := by
      unfold tell; rw [hwr]; congr 1
      have := h.ok p.flow
      generalize aget A p.flow = a at this ⊢
      obtain ⟨a1, a2, a3, a4⟩ := a
      simp only at this
      simp [this]
    rw [htell]
    let a' : Acc := { aget A p.flow with left := (aget A p.flow).left ++ [(i : Int)] }
    have hg : ∀ g, aget (aput A p.flow a') g = if g = p.flow then a' else aget A g := fun g => aget_aput A p.flow _ g
    have hpend : pend a' = qr := by
      show (aget A p.flow).came.drop ((aget A p.flow).left ++ [(i : Int)]).length = qr
      rw [List.length_append]; exact hq3
    refine ⟨nodup_aput _ _ _ h.nd, fun g hgk => ?_, by have := len_aput A p.flow a'; have := h.len; show (aput A p.flow a').length ≤ _; omega, fun g => ?_, fun g => ?_, fun g q hq => ?_, fun g hl => ?_, fun g w' hl => ?_, ?_⟩
    ·rcases (akeys_aput ..).1 hgk with rfl | hk
     ·exact h.kI _ hy.1
     ·exact h.kI g hk
    ·rw [hg]; split
     ·show ((aget A p.flow).left ++ [(i : Int)]).length ≤ (aget A p.flow).came.length; simp; omega
     ·exact h.le g
    ·rw [hg]; split
     ·exact h.ok p.flow
     ·exact h.ok g
    ·rw [hg] at hq; split at hq
     ·rename_i he; subst he; exact hcame _ q hq
     ·exact hcame g q hq
    ·rw [h5] at hl
     split at hl
     ·cases hl
     ·rename_i hne; rw [hg, if_neg hne]; exact h.no g hl
    ·rw [h5] at hl
     rw [hg]
     split at hl
     ·rename_i he; subst he
      cases hl
      rw [if_pos rfl]
      refine ⟨(akeys_aput ..).2 (.inl rfl), hy.2.1, ?_, ?_⟩
      ·rw [hpend, hqp.2]; unfold Flw.serve; simp [h2]
      ·rw [hpend]
       intro q hq
       exact hy.2.2.2 q (by rw [hpe]; exact List.mem_cons_of_mem _ hq)
     ·rename_i hne
      rw [if_neg hne]
      have := h.yes g w' hl
      exact ⟨(akeys_aput ..).2 (.inr this.1), this.2⟩
    ·rw [gsum_aput (by rfl)]
     have : cAll a' = cAll (aget A p.flow) := rfl
     rw [this, h.sum]; congr 1; omega
end Go.Proofs.YtkdbglfdgeldpaaGreat
