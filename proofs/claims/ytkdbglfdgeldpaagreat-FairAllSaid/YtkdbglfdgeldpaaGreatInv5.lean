/- The plain law of layer 28, fifth part: how far two flows are apart, told in both ways. Condition: the costs of all come to less than 2^62. -/
import Derived.Test.YtkdbglfdgeldpaaGreatInv4
namespace Go.Proofs.YtkdbglfdgeldpaaGreat
open Go.Lt
structure St (c : Config) (i : Nat) (m : Mdl) (A : As) (s : Int) : Prop where
  inv : Inv i m A s
  ok : m.ok i
  si : m.s.inv
  mc : m.c = c
theorem st0 {c : Config} (h : cfgOk c) : St c 0 (mkMdl c) [] 0 := ⟨inv0 c, mkMdl_ok c h, mkMdl_inv c, rfl⟩
theorem st_step {c : Config} {ls : List (List Call)} {i : Nat} {m : Mdl} {A : As} {s : Int} {x : Point} {l : List Point} {last : Option Int} {me : Mdl} (hls : listsOk ls) (h : St c i m A s) (hi : i < 1000000) (hp : playL ls (x :: l) m last = some me) :
    (callOf ls x).2 = true ∧ (m.do (callOf ls x).1).1 = x.ret ∧ Evt i m A s (kndOf ls x) x.ret.packets (m.do (callOf ls x).1).2 (bookStep c.unit ls A s i x).1 (bookStep c.unit ls A s i x).2 ∧
      St c (i + 1) (m.do (callOf ls x).1).2 (bookStep c.unit ls A s i x).1 (bookStep c.unit ls A s i x).2 ∧ playL ls l (m.do (callOf ls x).1).2 (some x.step) = some me ∧ ¬ tooLate last x := by
  rw [playL_S] at hp
  split at hp
  ·cases hp
  ·rename_i hc
   have h1 : (callOf ls x).2 = true := by
     cases h' : (callOf ls x).2 with
     | true => rfl
     | false => exact absurd (.inl h') hc
   have h2 : (m.do (callOf ls x).1).1 = x.ret := Classical.byContradiction fun hne => hc (.inr (.inr hne))
   have hdo := Mdl.do_ok h.ok (by omega) (callOf_ok hls x)
   have he := step_evt (A := A) (s := s) (i := i) (x := x) (unit := c.unit) h.si h.ok.1 (by rw [h.mc]) hls h2
   exact ⟨h1, h2, he, ⟨evt_inv h.inv h.ok.2.1 he, hdo.1, Mdl.do_inv h.si _, hdo.2.2.trans h.mc⟩, hp, fun h' => hc (.inr (.inl h'))⟩
theorem book_run {c : Config} {ls : List (List Call)} (hls : listsOk ls) : ∀ (l : List Point) (i : Nat) (m : Mdl) (A : As) (s : Int) (last : Option Int) (me : Mdl), St c i m A s → i + l.length ≤ 1000000 → playL ls l m last = some me →
    St c (i + l.length) me (bookL c.unit ls l i A s).1 (bookL c.unit ls l i A s).2 ∧ (∀ f, (aget A f).came <+: (aget (bookL c.unit ls l i A s).1 f).came) ∧ gsum cAll A ≤ gsum cAll (bookL c.unit ls l i A s).1
  | [], i, m, A, s, last, me, h, _, hp => by
    cases hp
    exact ⟨h, fun f => List.prefix_refl _, Int.le_refl _⟩
  | x :: l, i, m, A, s, last, me, h, hi, hp => by
    simp only [List.length_cons] at hi
    obtain ⟨_, _, he, hst, hp', _⟩ := st_step hls h (by omega) hp
    obtain ⟨g1, g2, g3⟩ := book_run hls l (i + 1) _ _ _ _ me hst (by omega) hp'
    rw [bookL_S]
    refine ⟨by rw [show i + (x :: l).length = i + 1 + l.length from by simp; omega]; exact g1, fun f => (evt_came he f).trans (g2 f), ?_⟩
    have := evt_all h.inv h.ok.2.1 he
    omega
theorem cT_nonneg {i : Nat} {m : Mdl} {A : As} {s : Int} (h : Inv i m A s) (f : Int) : 0 ≤ cTold (aget A f) := cs_nonneg fun q hq => (h.came f q (List.mem_of_mem_take hq)).2.1
theorem cT_all {i : Nat} {m : Mdl} {A : As} {s : Int} (h : Inv i m A s) (f g : Int) (hfg : f ≠ g) : cTold (aget A f) + cTold (aget A g) ≤ gsum cAll A ∧ cTold (aget A f) ≤ gsum cAll A := by
  have hn : ∀ p ∈ A, 0 ≤ cTold p.2 := fun p hp => by
    have he : aget A p.1 = p.2 := aget_mem h.nd (by simpa using hp)
    rw [← he]; exact cT_nonneg h p.1
  have h1 := gsum_get (g := cTold) (by rfl) A hn f
  have h2 := h1.2 g hfg
  have h3 := cTold_le h
  omega
theorem both_spec {m : Mdl} {f g : Int} : both m f g = true ↔ (∃ w, look m.s f = some w ∧ w.l ≠ []) ∧ ∃ w, look m.s g = some w ∧ w.l ≠ [] := by
  have key : ∀ f, 0 < m.s.lenAt f ↔ ∃ w, look m.s f = some w ∧ w.l ≠ [] := fun f => by
    rw [lenAt_look]
    cases look m.s f with
    | none => simp
    | some w =>
      simp only [Option.some.injEq, exists_eq_left']
      cases w.l <;> simp
  unfold both
  rw [Bool.and_eq_true, decide_eq_true_eq, decide_eq_true_eq, key, key]
theorem rFrom_both {m : Mdl} {f g : Int} {fr : List Int} : rFrom m f g fr = if both m f g = true then fr ++ [0] else [] := by
  unfold rFrom both
  by_cases h : m.s.lenAt f < 1 ∨ m.s.lenAt g < 1
  ·rw [if_pos h, if_neg]; simp; omega
  ·rw [if_neg h, if_pos]; simp; omega
def startF (m : Mdl) (f : Int) : Int := match look m.s f with
  | some w => w.start
  | none => 0
theorem start_some {m : Mdl} {f : Int} {w : Flw} (h : look m.s f = some w) : startF m f = w.start := by unfold startF; rw [h]
/-- What one point tells, for both. -/
theorem evt_tell {i : Nat} {m m' : Mdl} {A A' Af : As} {s s' : Int} {k : Knd} {ps : List Packet} (h : Inv i m A s) (hok : m.s.ok) (e : Evt i m A s k ps m' A' s') (hpre : ∀ f, (aget A' f).came <+: (aget Af f).came) (hA : gsum cAll A' ≤ gsum cAll Af) (hcap : gsum cAll Af < 4611686018427387904)
    {f g : Int} (hfg : f ≠ g) {S : Int} (hS : S = cTold (aget A f) - cTold (aget A g)) :
    ∃ d, gTells Af f g ps (S, (aget A f).left.length, (aget A g).left.length) = some (S + d, (aget A' f).left.length, (aget A' g).left.length) ∧ rTells m f g ps 0 = some d ∧
      cTold (aget A f) ≤ cTold (aget A' f) ∧ cTold (aget A g) ≤ cTold (aget A' g) ∧ d = (cTold (aget A' f) - cTold (aget A f)) - (cTold (aget A' g) - cTold (aget A g)) := by
  have hi' := evt_inv h hok e
  have hb' := cT_all hi' f g hfg
  have n1 := cT_nonneg hi' f; have n2 := cT_nonneg hi' g
  have m1 := cT_nonneg h f; have m2 := cT_nonneg h g
  have nothing : ∀ B : As, (∀ f, (aget B f).left = (aget A f).left) → (∀ f, cTold (aget B f) = cTold (aget A f)) → ∃ d, gTells Af f g [] (S, (aget A f).left.length, (aget A g).left.length) = some (S + d, (aget B f).left.length, (aget B g).left.length) ∧ rTells m f g [] 0 = some d ∧
      cTold (aget A f) ≤ cTold (aget B f) ∧ cTold (aget A g) ≤ cTold (aget B g) ∧ d = (cTold (aget B f) - cTold (aget A f)) - (cTold (aget B g) - cTold (aget A g)) := fun B hl hc =>
    ⟨0, by rw [hl, hl]; simp [gTells], rfl, by rw [hc]; exact Int.le_refl _, by rw [hc]; exact Int.le_refl _, by rw [hc, hc]; omega⟩
  cases e with
  | idle => exact nothing A (fun _ => rfl) (fun _ => rfl)
  | empty => exact nothing A (fun _ => rfl) (fun _ => rfl)
  | close => exact nothing A (fun _ => rfl) (fun _ => rfl)
  | reg a w _ => exact nothing _ (fun y => by rw [aget_aput]; split; rename_i he; subst he; rfl; rfl) (fun y => by rw [aget_aput]; split; rename_i he; subst he; rfl; rfl)
  | enq a w p _ =>
    refine nothing _ (fun y => by rw [aget_aput]; split; rename_i he; subst he; rfl; rfl) (fun y => ?_)
    rw [aget_aput]
    split
    ·rename_i he; subst he
     show cs (((aget A y).came ++ [_]).take _) = _
     rw [List.take_append_of_le_length (h.le y)]; rfl
    ·rfl
  | deq a w p rest _ h1 h2 h3 h4 h5 h6 h7 =>
    obtain ⟨q, hq1, hq2, hq3, hq4, hq5, hq6, hq7⟩ := evt_deq h h1 h2 h3
    have hg : ∀ y, aget (tell i A p) y = if y = a then { aget A a with left := (aget A a).left ++ [(i : Int)] } else aget A y := fun y => by rw [hq7]; exact aget_aput A a _ y
    have hca : (aget (tell i A p) a).came = (aget A a).came := by rw [hg, if_pos rfl]
    have hqf : ∀ {n : Nat}, (aget A a).left.length = n → (aget Af a).came[n]? = some q := fun {n} hn => by
      obtain ⟨r, hr⟩ := hpre a
      rw [hca] at hr
      rw [← hr, ← hn, List.getElem?_append_left (List.getElem?_eq_some_iff.1 hq1).1]; exact hq1
    have hrate : m.s.rate p.flow = w.r := by rw [rate_look, h3, h1]
    have hcost : costOf p.len (m.s.rate p.flow) = q.cost := by rw [hrate, hq3]
    have ha' : cTold (aget (tell i A p) a) = cTold (aget A a) + q.cost := by rw [hg, if_pos rfl]; exact hq5
    have hla : (aget (tell i A p) a).left.length = (aget A a).left.length + 1 := by rw [hg, if_pos rfl]; simp
    have hqb : q.cost ≤ 4611686018427387904 := by
      have := cT_nonneg h a
      have h8 := (cT_all hi' a (a + 1) (by omega)).2
      omega
    by_cases hf : a = f
    ·subst hf
     have hgg : aget (tell i A p) g = aget A g := by rw [hg, if_neg (fun h => hfg h.symm)]
     refine ⟨q.cost, ?_, ?_, by omega, by rw [hgg]; exact Int.le_refl _, by rw [hgg]; omega⟩
     ·have h9 : gTell Af a g (S, (aget A a).left.length, (aget A g).left.length) p = some (S + q.cost, (aget A a).left.length + 1, (aget A g).left.length) := by
        unfold gTell
        rw [if_pos h3]
        simp only [hqf rfl]
        rw [if_pos ⟨⟨hq4, hqb⟩, by unfold smallI; rw [hgg] at hb'; omega⟩]
      rw [gTells, h9, hla, hgg]; rfl
     ·rw [rTells]
      unfold rD2 rD1
      rw [hcost, if_pos h3, if_neg (fun h => hfg (h3.symm.trans h)), if_pos ⟨hqb, by unfold smallI; omega, by unfold smallI; omega⟩]
      simp [rTells]
    ·by_cases hg2 : a = g
     ·subst hg2
      have hff : aget (tell i A p) f = aget A f := by rw [hg, if_neg (fun h => hf h.symm)]
      refine ⟨-q.cost, ?_, ?_, by rw [hff]; exact Int.le_refl _, by omega, by rw [hff]; omega⟩
      ·have h9 : gTell Af f a (S, (aget A f).left.length, (aget A a).left.length) p = some (S - q.cost, (aget A f).left.length, (aget A a).left.length + 1) := by
         unfold gTell
         rw [if_neg (fun h => hf (h3.symm.trans h)), if_pos h3]
         simp only [hqf rfl]
         rw [if_pos ⟨⟨hq4, hqb⟩, by unfold smallI; rw [hff] at hb'; omega⟩]
       rw [gTells, h9, hla, hff]; rfl
      ·rw [rTells]
       unfold rD2 rD1
       rw [hcost, if_neg (fun h => hf (h3.symm.trans h)), if_pos h3, if_pos ⟨hqb, by unfold smallI; omega, by unfold smallI; omega⟩]
       simp [rTells]
     ·have hff : aget (tell i A p) f = aget A f := by rw [hg, if_neg (fun h => hf h.symm)]
      have hgg : aget (tell i A p) g = aget A g := by rw [hg, if_neg (fun h => hg2 h.symm)]
      refine ⟨0, ?_, ?_, by rw [hff]; exact Int.le_refl _, by rw [hgg]; exact Int.le_refl _, by rw [hff, hgg]; omega⟩
      ·have h9 : gTell Af f g (S, (aget A f).left.length, (aget A g).left.length) p = some (S, (aget A f).left.length, (aget A g).left.length) := by
         unfold gTell
         rw [if_neg (fun h => hf (h3.symm.trans h)), if_neg (fun h => hg2 (h3.symm.trans h))]
       rw [gTells, h9, hff, hgg]; simp [gTells]
      ·rw [rTells]
       unfold rD2 rD1
       rw [hcost, if_neg (fun h => hf (h3.symm.trans h)), if_neg (fun h => hg2 (h3.symm.trans h)), if_pos ⟨hqb, by unfold smallI; omega, by unfold smallI; omega⟩]
       simp [rTells]
/-- A flow that has packets before and behind: its start moves by what it is told. -/
theorem evt_start {i : Nat} {m m' : Mdl} {A A' : As} {s s' : Int} {k : Knd} {ps : List Packet} (h : Inv i m A s) (hok : m.s.ok) (hf : Fr m A) (e : Evt i m A s k ps m' A' s') (hcap : gsum cAll A' < top) {f : Int} {w w' : Flw} (hw : look m.s f = some w) (hl : w.l ≠ []) (hw' : look m'.s f = some w') :
    w'.start = w.start + (cTold (aget A' f) - cTold (aget A f)) := by
  have hi' := evt_inv h hok e
  have hle' := cTold_le hi'
  cases e with
  | idle => rw [hw] at hw'; cases hw'; omega
  | empty _ h1 h2 => rw [h2, hw] at hw'; cases hw'; omega
  | close a v _ h1 h2 h3 =>
    rw [h3] at hw'
    split at hw'
    ·cases hw'
    ·rw [hw] at hw'; cases hw'; omega
  | reg a v _ h1 h2 h3 h4 h5 =>
    rw [h5] at hw'
    split at hw'
    ·rename_i he; subst he; rw [hw] at h1; cases h1
    ·rename_i hne
     rw [hw] at hw'; cases hw'
     rw [aget_aput, if_neg hne]; omega
  | enq a v p _ h1 h2 h3 =>
    rw [h3] at hw'
    split at hw'
    ·rename_i he; subst he
     rw [hw] at h1; cases h1; cases hw'
     rw [aget_aput, if_pos rfl]
     have : cTold ({ aget A f with came := (aget A f).came ++ [⟨p, costOf p.len (aget A f).r, i⟩] } : Acc) = cTold (aget A f) := by
       show cs (((aget A f).came ++ [_]).take _) = _
       rw [List.take_append_of_le_length (h.le f)]; rfl
     rw [this]
     show (if w.l.length = 0 then max m.s.v w.finish else w.start) = _
     rw [if_neg (fun hz => hl (nil_of_len hz))]; omega
    ·rename_i hne
     rw [hw] at hw'; cases hw'
     rw [aget_aput, if_neg hne]; omega
  | deq a v p rest _ h1 h2 h3 h4 h5 h6 h7 =>
    obtain ⟨q, hq1, hq2, hq3, hq4, hq5, hq6, hq7⟩ := evt_deq h h1 h2 h3
    rw [h5] at hw'
    split at hw'
    ·rename_i he; subst he
     rw [hw] at h1; cases h1; cases hw'
     have hT : gsum cTold (tell i A p) = gsum cTold A + q.cost := by rw [hq7, gsum_aput (by rfl), hq5]; omega
     have hs := hf.st f w hw hl
     have hfin : w.fin p = w.start + q.cost := by
       unfold Flw.fin satAdd
       have : satMul (max p.len 0) w.r = q.cost := by rw [hq3]; rfl
       rw [this]; unfold top at hcap ⊢; omega
     rw [hq7, aget_aput, if_pos rfl, hq5]
     show w.fin p = _
     rw [hfin]; omega
    ·rename_i hne
     rw [hw] at hw'; cases hw'
     rw [hq7, aget_aput, if_neg hne]; omega
end Go.Proofs.YtkdbglfdgeldpaaGreat
