/- The plain law of layer 28, fourth part: fairness of starts; what only grows. Condition: none. -/
import Derived.Test.YtkdbglfdgeldpaaGreatInv3
namespace Go.Proofs.YtkdbglfdgeldpaaGreat
open Go.Lt
theorem dearL_le {l : List Parcel} : ∀ {q : Parcel}, q ∈ l → q.cost ≤ dearL l := by
  have key : ∀ (l : List Parcel) (a : Int), a ≤ l.foldl (fun a q => max a q.cost) a ∧ ∀ q ∈ l, q.cost ≤ l.foldl (fun a q => max a q.cost) a := by
    intro l
    induction l with
    | nil => intro a; exact ⟨Int.le_refl _, by simp⟩
    | cons x l ih =>
      intro a
      obtain ⟨h1, h2⟩ := ih (max a x.cost)
      simp only [List.foldl_cons]
      refine ⟨by omega, fun q hq => ?_⟩
      rcases List.mem_cons.1 hq with rfl | hq
      ·omega
      ·exact h2 q hq
  intro q hq; exact (key l 0).2 q hq
theorem dearL_mono {l m : List Parcel} (h : l <+: m) : dearL l ≤ dearL m := by
  obtain ⟨r, rfl⟩ := h
  have key : ∀ (l : List Parcel) (a : Int), a ≤ l.foldl (fun a q => max a q.cost) a := by
    intro l
    induction l with
    | nil => intro a; exact Int.le_refl _
    | cons x l ih => intro a; have := ih (max a x.cost); simp only [List.foldl_cons]; omega
  unfold dearL; rw [List.foldl_append]; exact key _ _
theorem dearL_nonneg (l : List Parcel) : 0 ≤ dearL l := dearL_mono (List.nil_prefix (l := l))
theorem dearL_cs {l : List Parcel} (h : ∀ q ∈ l, 0 ≤ q.cost) : dearL l ≤ cs l := by
  have key : ∀ (l : List Parcel) (a : Int), 0 ≤ a → (∀ q ∈ l, 0 ≤ q.cost) → l.foldl (fun a q => max a q.cost) a ≤ a + cs l := by
    intro l
    induction l with
    | nil => intro a _ _; simp [cs]
    | cons x l ih =>
      intro a ha hq
      have hx := hq x (List.mem_cons_self ..)
      have := ih (max a x.cost) (by omega) fun q h => hq q (List.mem_cons_of_mem _ h)
      simp only [List.foldl_cons, cs, List.foldr_cons] at this ⊢
      omega
  have := key l 0 (Int.le_refl _) h
  unfold dearL; omega
theorem evt_came {i : Nat} {m m' : Mdl} {A A' : As} {s s' : Int} {k : Knd} {ps : List Packet} (e : Evt i m A s k ps m' A' s') (f : Int) : (aget A f).came <+: (aget A' f).came := by
  cases e with
  | idle => exact List.prefix_refl _
  | empty => exact List.prefix_refl _
  | close => exact List.prefix_refl _
  | reg g w _ => rw [aget_aput]; split
                 ·rename_i h _ _ _ _ _ he; subst he; exact List.prefix_refl _
                 ·exact List.prefix_refl _
  | enq g w p _ => rw [aget_aput]; split
                   ·rename_i he; subst he; exact List.prefix_append _ _
                   ·exact List.prefix_refl _
  | deq g w p rest _ => unfold tell; rw [aget_aput]; split
                        ·rename_i he; subst he; exact List.prefix_refl _
                        ·exact List.prefix_refl _
theorem aput_came_sum {A : As} {k : Int} {a : Acc} (h : cAll a = cAll (aget A k)) : gsum cAll (aput A k a) = gsum cAll A := by rw [gsum_aput (by rfl), h]; omega
theorem evt_all {i : Nat} {m m' : Mdl} {A A' : As} {s s' : Int} {k : Knd} {ps : List Packet} (h : Inv i m A s) (hok : m.s.ok) (e : Evt i m A s k ps m' A' s') : gsum cAll A ≤ gsum cAll A' := by
  cases e with
  | idle => exact Int.le_refl _
  | empty => exact Int.le_refl _
  | close => exact Int.le_refl _
  | reg f w _ => rw [aput_came_sum (by rfl)]; exact Int.le_refl _
  | enq f w p _ h1 =>
    rw [gsum_aput (by rfl)]
    have hy := h.yes f w h1
    have hr0 : 0 ≤ (aget A f).r := by rw [hy.2.1]; have := look_ok hok h1; unfold Flw.ok U at this; exact this.1.1
    have hc0 := costOf_nonneg (a := p.len) hr0
    have : cAll { aget A f with came := (aget A f).came ++ [⟨p, costOf p.len (aget A f).r, i⟩] } = cAll (aget A f) + costOf p.len (aget A f).r := by
      show cs ((aget A f).came ++ [_]) = _
      rw [cs_append]; simp [cs, cAll]
    rw [this]; omega
  | deq f w p rest _ => unfold tell; rw [aput_came_sum (by rfl)]; exact Int.le_refl _
/-- How far starts are from each other. -/
structure Fr (m : Mdl) (A : As) : Prop where
  v : 0 ≤ m.s.v ∧ m.s.v ≤ gsum cTold A
  most : m.s.most ≤ gsum cTold A
  fin : ∀ f w, look m.s f = some w → w.finish ≤ gsum cTold A ∧ w.finish ≤ m.s.v + dear A f
  st : ∀ f w, look m.s f = some w → w.l ≠ [] → m.s.v ≤ w.start ∧ w.start ≤ m.s.v + dear A f ∧ w.start ≤ gsum cTold A
theorem fr0 (c : Config) : Fr (mkMdl c) [] := by
  refine ⟨by simp [mkMdl, gsum], by simp [mkMdl, gsum], ?_, ?_⟩ <;> intro f w h <;> simp [look, mkMdl, Sq.at] at h
theorem dear_nonneg (A : As) (f : Int) : 0 ≤ dear A f := dearL_nonneg _
theorem dear_step {i : Nat} {m m' : Mdl} {A A' : As} {s s' : Int} {k : Knd} {ps : List Packet} (e : Evt i m A s k ps m' A' s') (f : Int) : dear A f ≤ dear A' f := dearL_mono (evt_came e f)
theorem cTold_le {i : Nat} {m : Mdl} {A : As} {s : Int} (h : Inv i m A s) : gsum cTold A ≤ gsum cAll A := by
  refine gsum_le A fun p hp => ?_
  have he : aget A p.1 = p.2 := aget_mem h.nd (by simpa using hp)
  have hq : ∀ q ∈ p.2.came, 0 ≤ q.cost := fun q hq => (h.came p.1 q (by rw [he]; exact hq)).2.1
  have := cs_append (p.2.came.take p.2.left.length) (p.2.came.drop p.2.left.length)
  rw [List.take_append_drop] at this
  have h2 := cs_nonneg (l := p.2.came.drop p.2.left.length) fun q h => hq q (List.mem_of_mem_drop h)
  unfold cTold cAll; omega
/-- What is told costs what it did when it came. -/
theorem evt_deq {i : Nat} {m : Mdl} {A : As} {s : Int} (h : Inv i m A s) {f : Int} {w : Flw} {p : Packet} {rest : List Packet} (h1 : look m.s f = some w) (h2 : w.l = p :: rest) (h3 : p.flow = f) :
    ∃ q, (aget A f).came[(aget A f).left.length]? = some q ∧ q.p = p ∧ q.cost = costOf p.len w.r ∧ 0 ≤ q.cost ∧ cTold { aget A f with left := (aget A f).left ++ [(i : Int)] } = cTold (aget A f) + q.cost ∧ q ∈ (aget A f).came ∧
      tell i A p = aput A f { aget A f with left := (aget A f).left ++ [(i : Int)] } := by
  have hy := h.yes f w h1
  obtain ⟨q0, qr, hpe⟩ : ∃ q0 qr, pend (aget A f) = q0 :: qr := by
    cases hpp : pend (aget A f) with
    | nil => rw [hpp, h2] at hy; simp at hy
    | cons a b => exact ⟨a, b, rfl⟩
  obtain ⟨hq1, hq2, hq3⟩ := pend_get hpe
  have hqp : q0.p = p := by
    have := hy.2.2.1
    rw [hpe, h2] at this
    simpa using (List.cons.inj this).1
  have hco := hy.2.2.2 q0 (by rw [hpe]; simp)
  have hin := h.came f q0 (List.mem_of_getElem? hq1)
  refine ⟨q0, hq1, hqp, by rw [hco, hqp], hin.2.1, ?_, List.mem_of_getElem? hq1, ?_⟩
  ·show cs ((aget A f).came.take ((aget A f).left ++ [(i : Int)]).length) = _
   rw [List.length_append, List.length_singleton, List.take_add_one, hq1, cs_append]; simp [cs, cTold]
  ·subst h3
   have hwr : ((aget A p.flow).wrong || wrongAt (aget A p.flow) i p) = false := by
     rw [h.ok]; unfold wrongAt; rw [hq1]; simp [hqp]; have := hin.2.2; omega
   unfold tell; rw [hwr]; congr 1
   have := h.ok p.flow
   generalize aget A p.flow = a at this ⊢
   obtain ⟨a1, a2, a3, a4⟩ := a
   simp only at this
   simp [this]
theorem evt_fr {i : Nat} {m m' : Mdl} {A A' : As} {s s' : Int} {k : Knd} {ps : List Packet} (h : Inv i m A s) (hok : m.s.ok) (hf : Fr m A) (e : Evt i m A s k ps m' A' s') (hcap : gsum cAll A' < top) : Fr m' A' := by
  have hi' := evt_inv h hok e
  have hle' := cTold_le hi'
  have hd := dear_step e
  cases e with
  | idle => exact hf
  | empty _ h1 h2 h3 h4 =>
    have hv := hf.v; have hmo := hf.most
    refine ⟨by rw [h3]; omega, by rw [h4]; exact hmo, fun f w hw => ?_, fun f w hw hne => ?_⟩
    ·rw [h2] at hw; have := hf.fin f w hw; rw [h3]; omega
    ·rw [h2] at hw; exact absurd (h1 f w hw) hne
  | close f w _ h1 h2 h3 h4 h5 =>
    refine ⟨by rw [h4]; exact hf.v, by rw [h5]; exact hf.most, fun g w' hw => ?_, fun g w' hw hne => ?_⟩
    ·rw [h3] at hw
     split at hw
     ·cases hw
     ·rw [h4]; exact hf.fin g w' hw
    ·rw [h3] at hw
     split at hw
     ·cases hw
     ·rw [h4]; exact hf.st g w' hw hne
  | reg f w _ h1 h2 h3 h4 h5 h6 h7 =>
    have hT : gsum cTold (aput A f { aget A f with r := w.r }) = gsum cTold A := by
      rw [gsum_aput (by rfl)]
      have : cTold ({ aget A f with r := w.r } : Acc) = cTold (aget A f) := rfl
      omega
    have hv := hf.v
    refine ⟨by rw [h6, hT]; exact hf.v, by rw [h7, hT]; exact hf.most, fun g w' hw => ?_, fun g w' hw hne => ?_⟩
    ·rw [h5] at hw
     rw [h6, hT]
     split at hw
     ·cases hw
      have := dear_nonneg (aput A f { aget A f with r := w.r }) g
      rw [h3]; omega
     ·have := hf.fin g w' hw; have := hd g; omega
    ·rw [h5] at hw
     rw [h6, hT]
     split at hw
     ·cases hw; exact absurd h2 hne
     ·have := hf.st g w' hw hne; have := hd g; omega
  | enq f w p _ h1 h2 h3 h4 h5 =>
    have hT : gsum cTold (aput A f { aget A f with came := (aget A f).came ++ [⟨p, costOf p.len (aget A f).r, i⟩] }) = gsum cTold A := by
      rw [gsum_aput (by rfl)]
      have : cTold ({ aget A f with came := (aget A f).came ++ [⟨p, costOf p.len (aget A f).r, i⟩] } : Acc) = cTold (aget A f) := by
        show cs (((aget A f).came ++ [_]).take _) = _
        rw [List.take_append_of_le_length (h.le f)]; rfl
      omega
    have hv := hf.v
    refine ⟨by rw [h4, hT]; exact hf.v, by rw [h5, hT]; exact hf.most, fun g w' hw => ?_, fun g w' hw hne => ?_⟩
    ·rw [h3] at hw
     rw [h4, hT]
     split at hw
     ·rename_i he; subst he
      cases hw
      have := hf.fin g w h1; have := hd g
      show w.finish ≤ _ ∧ w.finish ≤ _
      omega
     ·have := hf.fin g w' hw; have := hd g; omega
    ·rw [h3] at hw
     rw [h4, hT]
     split at hw
     ·rename_i he; subst he
      cases hw
      have h8 := hf.fin g w h1; have h9 := hd g
      show _ ≤ (if w.l.length = 0 then max m.s.v w.finish else w.start) ∧ (if w.l.length = 0 then max m.s.v w.finish else w.start) ≤ _ ∧ (if w.l.length = 0 then max m.s.v w.finish else w.start) ≤ _
      have hdn := dear_nonneg A g
      split
      ·omega
      ·rename_i hl
       have := hf.st g w h1 (fun h => hl (by rw [h]; rfl)); omega
     ·have := hf.st g w' hw hne; have := hd g; omega
  | deq f w p rest _ h1 h2 h3 h4 h5 h6 h7 =>
    obtain ⟨q, hq1, hq2, hq3, hq4, hq5, hq6, hq7⟩ := evt_deq h h1 h2 h3
    have hT : gsum cTold (tell i A p) = gsum cTold A + q.cost := by rw [hq7, gsum_aput (by rfl), hq5]; omega
    have hs := hf.st f w h1 (by rw [h2]; simp)
    have hv := hf.v; have hmo := hf.most
    have hfin : w.fin p = w.start + q.cost := by
      unfold Flw.fin satAdd
      have : satMul (max p.len 0) w.r = q.cost := by rw [hq3]; rfl
      rw [this]; unfold top at hcap ⊢; omega
    have hdq : q.cost ≤ dear (tell i A p) f := by
      have h10 := hd f
      have : q.cost ≤ dear A f := dearL_le hq6
      omega
    refine ⟨by rw [h6, hT]; omega, by rw [h7, hT, hfin]; omega, fun g w' hw => ?_, fun g w' hw hne => ?_⟩
    ·rw [h5] at hw
     rw [h6, hT]
     split at hw
     ·rename_i he; subst he
      cases hw
      show w.fin p ≤ _ ∧ w.fin p ≤ _
      rw [hfin]; omega
     ·have := hf.fin g w' hw; have := hd g; omega
    ·rw [h5] at hw
     rw [h6, hT]
     split at hw
     ·rename_i he; subst he
      cases hw
      show _ ≤ w.fin p ∧ w.fin p ≤ _ ∧ w.fin p ≤ _
      rw [hfin]; omega
     ·have := hf.st g w' hw hne; have := hd g; have := h4 g w' hw hne; omega
end Go.Proofs.YtkdbglfdgeldpaaGreat
