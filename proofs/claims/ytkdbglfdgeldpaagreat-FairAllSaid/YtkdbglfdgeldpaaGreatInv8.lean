/- The plain law of layer 28, eighth part: what is left; a model's own points play; a gap seen from the other side, and of a front. Condition: at most a million points. -/
import Derived.Test.YtkdbglfdgeldpaaGreatInv7
namespace Go.Proofs.YtkdbglfdgeldpaaGreat
open Go.Lt
/-! ### What is left -/
def flt (f : Int) (l : List Packet) : List Packet := l.filter fun p => p.flow == f
theorem flt_append (f : Int) (l m : List Packet) : flt f (l ++ m) = flt f l ++ flt f m := List.filter_append ..
theorem flt_one (f : Int) (p : Packet) : flt f [p] = if p.flow = f then [p] else [] := by
  unfold flt; by_cases h : p.flow = f <;> simp [h]
theorem flt_none {f : Int} {l : List Packet} (h : ∀ p ∈ l, p.flow ≠ f) : flt f l = [] := by
  unfold flt; rw [List.filter_eq_nil_iff]; intro p hp; simpa using h p hp
theorem flt_mem {f : Int} {l : List Packet} {p : Packet} : p ∈ flt f l ↔ p ∈ l ∧ p.flow = f := by unfold flt; simp
/-- The first packet of a flow is taken. -/
theorem takeP_spec {p : Packet} {rest l : List Packet} (h : flt p.flow l = p :: rest) : ∃ l', takeP p l = some l' ∧ flt p.flow l' = rest ∧ (∀ g, g ≠ p.flow → flt g l' = flt g l) ∧ ∀ q ∈ l', q ∈ l := by
  induction l with
  | nil => cases h
  | cons y l ih =>
    by_cases hy : y.flow = p.flow
    ·have h1 : flt p.flow (y :: l) = y :: flt p.flow l := by unfold flt; simp [hy]
     rw [h1] at h
     injection h with h2 h3
     subst h2
     refine ⟨l, ?_, h3, fun g hg => ?_, fun q hq => List.mem_cons_of_mem _ hq⟩
     ·unfold takeP
      have hf : firstF y.flow (y :: l) = 0 := by unfold firstF; rw [List.findIdx_cons]; simp
      rw [hf]; simp
     ·have : ¬ y.flow = g := fun e => hg e.symm
      unfold flt; simp [this]
    ·have h1 : flt p.flow (y :: l) = flt p.flow l := by unfold flt; simp [hy]
     rw [h1] at h
     obtain ⟨l', t1, t2, t3, t4⟩ := ih h
     refine ⟨y :: l', ?_, ?_, fun g hg => ?_, fun q hq => ?_⟩
     ·unfold takeP at t1 ⊢
      have hf : firstF p.flow (y :: l) = firstF p.flow l + 1 := by
        have hb : (y.flow == p.flow) = false := by simpa using hy
        unfold firstF; rw [List.findIdx_cons, hb]; rfl
      rw [hf, List.getElem?_cons_succ]
      split at t1
      ·cases t1
      ·rename_i q hq
       split at t1
       ·rename_i hqp
        cases t1
        simp only [hq, hqp, if_true, List.eraseIdx_cons_succ]
       ·cases t1
     ·have : flt p.flow (y :: l') = flt p.flow l' := by unfold flt; simp [hy]
      rw [this, t2]
     ·have e : ∀ L, flt g (y :: L) = if y.flow = g then y :: flt g L else flt g L := fun L => by unfold flt; by_cases hg : y.flow = g <;> simp [hg]
      rw [e, e, t3 g hg]
     ·rcases List.mem_cons.1 hq with rfl | hq
      ·exact List.mem_cons_self ..
      ·exact List.mem_cons_of_mem _ (t4 q hq)
def LR (A : As) (inn : List Packet) : Prop := (∀ f, flt f inn = (pend (aget A f)).map (·.p)) ∧ ∀ p ∈ inn, p.flow ∈ akeys A
theorem lr_step {ls : List (List Call)} {i : Nat} {m m' : Mdl} {A A' : As} {s s' : Int} {x : Point} (h : Inv i m A s) (e : Evt i m A s (kndOf ls x) x.ret.packets m' A' s') {inn : List Packet} (ht : LR A inn) :
    ∃ inn', takeAll x.ret.packets (leftIn ls inn x) = some inn' ∧ LR A' inn' := by
  generalize hk : kndOf ls x = k at e
  generalize hps : x.ret.packets = ps at e
  have nothing : ps = [] → ¬ came ls x → (∀ y, pend (aget A' y) = pend (aget A y)) → (∀ f, f ∈ akeys A → f ∈ akeys A') → ∃ inn', takeAll ps (leftIn ls inn x) = some inn' ∧ LR A' inn' := fun hp hc hpe hka => by
    subst hp
    refine ⟨inn, by unfold leftIn; rw [if_neg hc]; rfl, fun f => by rw [hpe]; exact ht.1 f, fun p hp => hka _ (ht.2 p hp)⟩
  cases e with
  | idle => exact nothing rfl (knd_no hk).2 (fun _ => rfl) (fun _ h => h)
  | empty => exact nothing rfl (knd_no hk).2 (fun _ => rfl) (fun _ h => h)
  | close => exact nothing rfl (knd_no hk).2 (fun _ => rfl) (fun _ h => h)
  | reg a w _ => exact nothing rfl (knd_rg hk).2.2 (fun y => by rw [aget_aput]; split; rename_i he; subst he; rfl; rfl) (fun f hf => (akeys_aput ..).2 (.inr hf))
  | enq a w p _ h1 h2 h3 h4 h5 =>
    obtain ⟨hc, hp⟩ := knd_en hk
    refine ⟨inn ++ [p], by unfold leftIn; rw [if_pos hc, ← hp]; rfl, fun f => ?_, fun q hq => ?_⟩
    ·rw [flt_append, flt_one, aget_aput, ht.1 f]
     by_cases he : f = a
     ·subst he
      rw [if_pos h2, if_pos rfl]
      have : pend ({ aget A f with came := (aget A f).came ++ [⟨p, costOf p.len (aget A f).r, i⟩] } : Acc) = pend (aget A f) ++ [⟨p, costOf p.len (aget A f).r, i⟩] := List.drop_append_of_le_length (h.le f)
      rw [this, List.map_append]; rfl
     ·rw [if_neg (fun h' => he (h'.symm.trans h2)), if_neg he, List.append_nil]
    ·rw [akeys_aput]
     rcases List.mem_append.1 hq with h' | h'
     ·exact .inr (ht.2 q h')
     ·rw [List.mem_singleton.1 h']; exact .inl h2
  | deq a w p rest _ h1 h2 h3 h4 h5 h6 h7 =>
    obtain ⟨q, hq1, hq2, hq3, hq4, hq5, hq6, hq7⟩ := evt_deq h h1 h2 h3
    have hpe : (pend (aget A a)).map (·.p) = p :: rest := (h.yes a w h1).2.2.1.trans h2
    have hin : leftIn ls inn x = inn := by unfold leftIn; rw [if_neg (knd_no hk).2]
    obtain ⟨l', t1, t2, t3, t4⟩ := takeP_spec (p := p) (rest := rest) (l := inn) (by rw [h3, ht.1 a, hpe])
    refine ⟨l', by rw [hin, takeAll, t1]; rfl, fun f => ?_, fun y hy => ?_⟩
    ·rw [hq7, aget_aput]
     by_cases he : f = a
     ·subst he
      rw [if_pos rfl, ← h3, t2]
      have hlt := (List.getElem?_eq_some_iff.1 hq1).1
      have h8 : pend (aget A f) = q :: pend ({ aget A f with left := (aget A f).left ++ [(i : Int)] } : Acc) := by
        unfold pend
        obtain ⟨hl2, he2⟩ := List.getElem?_eq_some_iff.1 hq1
        rw [List.drop_eq_getElem_cons hl2, he2]
        simp
      rw [h3]
      rw [h8, List.map_cons] at hpe
      injection hpe with _ hr
      exact hr.symm
     ·rw [if_neg he, t3 f (by rw [h3]; exact he)]; exact ht.1 f
    ·unfold tell; rw [akeys_aput]; exact .inr (ht.2 y (t4 y hy))
theorem left_run {c : Config} {ls : List (List Call)} (hls : listsOk ls) : ∀ (l : List Point) (i : Nat) (m : Mdl) (A : As) (s : Int) (last : Option Int) (me : Mdl) (inn : List Packet), St c i m A s → i + l.length ≤ 1000000 → playL ls l m last = some me → LR A inn →
    ∃ inn', leftL ls l inn = some inn' ∧ LR (bookL c.unit ls l i A s).1 inn'
  | [], i, m, A, s, last, me, inn, h, _, hp, ht => ⟨inn, rfl, ht⟩
  | x :: l, i, m, A, s, last, me, inn, h, hi, hp, ht => by
    simp only [List.length_cons] at hi
    obtain ⟨_, _, he, hst, hp', _⟩ := st_step hls h (by omega) hp
    obtain ⟨inn1, h1, h2⟩ := lr_step h.inv he ht
    obtain ⟨inn2, h3, h4⟩ := left_run hls l (i + 1) _ _ _ _ me _ hst (by omega) hp' h2
    exact ⟨inn2, by rw [leftL, h1]; exact h3, by rw [bookL_S]; exact h4⟩
/-! ### Put in order by flow -/
abbrev SrtF (l : List Packet) : Prop := l.Pairwise fun a b => a.flow ≤ b.flow
theorem insPos_spec {out : List Packet} {fl : Int} : ∀ (n : Nat), n ≤ out.length → (∀ j y, insPos out fl n ≤ j → j < n → out[j]? = some y → fl < y.flow) ∧ (∀ y, 0 < insPos out fl n → out[insPos out fl n - 1]? = some y → y.flow ≤ fl)
  | 0, _ => ⟨by intro j y h1 h2; omega, by intro y h; simp [insPos] at h⟩
  | n + 1, hn => by
    obtain ⟨ih1, ih2⟩ := insPos_spec (out := out) (fl := fl) n (by omega)
    obtain ⟨q, hq⟩ : ∃ q, out[n]? = some q := ⟨_, List.getElem?_eq_getElem (by omega)⟩
    have hst : insPos out fl (n + 1) = if fl < q.flow then insPos out fl n else n + 1 := by
      conv => lhs; unfold insPos
      rw [hq]
    rw [hst]
    split
    ·rename_i hlt
     refine ⟨fun j y h1 h2 hy => ?_, ih2⟩
     by_cases hj : j = n
     ·subst hj; rw [hq] at hy; cases hy; exact hlt
     ·exact ih1 j y h1 (by omega) hy
    ·rename_i hge
     refine ⟨fun j y h1 h2 => by omega, fun y _ hy => ?_⟩
     rw [show n + 1 - 1 = n from rfl, hq] at hy; cases hy; omega
theorem insF_spec {out : List Packet} {x : Packet} (h : SrtF out) : SrtF (insF out x) ∧ ∀ f, flt f (insF out x) = flt f out ++ flt f [x] := by
  have hle := insPos_le out x.flow out.length
  obtain ⟨s1, s2⟩ := insPos_spec (out := out) (fl := x.flow) out.length (Nat.le_refl _)
  unfold insF
  generalize insPos out x.flow out.length = k at *
  have hdrop : ∀ y ∈ out.drop k, x.flow < y.flow := fun y hy => by
    obtain ⟨j, hj⟩ := List.getElem?_of_mem hy
    rw [List.getElem?_drop] at hj
    exact s1 (k + j) y (by omega) (List.getElem?_eq_some_iff.1 hj).1 hj
  have htake : ∀ y ∈ out.take k, y.flow ≤ x.flow := fun y hy => by
    obtain ⟨j, hj⟩ := List.getElem?_of_mem hy
    have hjl : j < k := by have := (List.getElem?_eq_some_iff.1 hj).1; simp at this; omega
    rw [List.getElem?_take, if_pos hjl] at hj
    obtain ⟨z, hz⟩ : ∃ z, out[k - 1]? = some z := ⟨_, List.getElem?_eq_getElem (by omega)⟩
    have hz2 := s2 z (by omega) hz
    obtain ⟨hj1, hj2⟩ := List.getElem?_eq_some_iff.1 hj
    obtain ⟨hz1, hz3⟩ := List.getElem?_eq_some_iff.1 hz
    by_cases he : j = k - 1
    ·subst he; rw [hj] at hz; cases hz; exact hz2
    ·have := List.pairwise_iff_getElem.1 h j (k - 1) hj1 hz1 (by omega)
     rw [hj2, hz3] at this; omega
  have hsplit := List.take_append_drop k out
  refine ⟨?_, fun f => ?_⟩
  ·show SrtF _
   rw [SrtF, List.pairwise_append]
   refine ⟨h.sublist (List.take_sublist _ _), List.pairwise_cons.2 ⟨fun y hy => by have := hdrop y hy; omega, h.sublist (List.drop_sublist _ _)⟩, fun a ha b hb => ?_⟩
   have := htake a ha
   rcases List.mem_cons.1 hb with rfl | hb
   ·exact this
   ·have := hdrop b hb; omega
  ·have e1 : flt f out = flt f (out.take k) ++ flt f (out.drop k) := by rw [← flt_append, hsplit]
   have e2 : flt f (out.take k ++ x :: out.drop k) = flt f (out.take k) ++ (flt f [x] ++ flt f (out.drop k)) := by
     rw [← flt_append, ← flt_append]; rfl
   rw [e1, e2]
   by_cases hf : x.flow = f
   ·rw [flt_none (l := out.drop k) (fun p hp => by have := hdrop p hp; omega)]; simp
   ·rw [flt_one, if_neg hf]; simp
theorem sortF_spec : ∀ (l out : List Packet), SrtF out → SrtF (l.foldl insF out) ∧ ∀ f, flt f (l.foldl insF out) = flt f out ++ flt f l
  | [], out, h => ⟨h, fun f => by simp [flt]⟩
  | x :: l, out, h => by
    obtain ⟨h1, h2⟩ := insF_spec (x := x) h
    obtain ⟨h3, h4⟩ := sortF_spec l (insF out x) h1
    refine ⟨h3, fun f => ?_⟩
    rw [List.foldl_cons, h4, h2, List.append_assoc, ← flt_append]; rfl
theorem srt_unique : ∀ (L1 L2 : List Packet), SrtF L1 → SrtF L2 → (∀ f, flt f L1 = flt f L2) → L1 = L2
  | [], [], _, _, _ => rfl
  | [], y :: L2, _, _, h => by
    have := h y.flow
    unfold flt at this; simp at this
  | x :: L1, [], _, _, h => by
    have := h x.flow
    unfold flt at this; simp at this
  | x :: L1, y :: L2, h1, h2, h => by
    have hx := List.pairwise_cons.1 h1
    have hy := List.pairwise_cons.1 h2
    have hyx : x.flow ≤ y.flow := by
      have : y ∈ flt y.flow (x :: L1) := by rw [h]; exact flt_mem.2 ⟨List.mem_cons_self .., rfl⟩
      rcases List.mem_cons.1 (flt_mem.1 this).1 with he | hm
      ·rw [he]; exact Int.le_refl _
      ·exact hx.1 y hm
    have hxy : y.flow ≤ x.flow := by
      have : x ∈ flt x.flow (y :: L2) := by rw [← h]; exact flt_mem.2 ⟨List.mem_cons_self .., rfl⟩
      rcases List.mem_cons.1 (flt_mem.1 this).1 with he | hm
      ·rw [he]; exact Int.le_refl _
      ·exact hy.1 x hm
    have hfl : y.flow = x.flow := by omega
    have e : ∀ (f : Int) (z : Packet) (L : List Packet), flt f (z :: L) = if z.flow = f then z :: flt f L else flt f L := fun f z L => by unfold flt; by_cases hg : z.flow = f <;> simp [hg]
    have h0 := h x.flow
    rw [e, e, if_pos rfl, if_pos hfl] at h0
    injection h0 with he _
    subst he
    rw [srt_unique L1 L2 hx.2 hy.2 fun f => by
      have := h f
      rw [e, e] at this
      split at this
      ·exact (List.cons.inj this).2
      ·exact this]
theorem restOf_flow {i : Nat} {m : Mdl} {A : As} {s : Int} (h : Inv i m A s) (f : Int) : ∀ p ∈ restOf A f, p.flow = f := fun p hp => by
  obtain ⟨q, hq, rfl⟩ := List.mem_map.1 hp
  exact (h.came f q (List.mem_of_mem_drop hq)).1
theorem flatMap_srt {i : Nat} {m : Mdl} {A : As} {s : Int} (h : Inv i m A s) : ∀ (K : List Int), K.Pairwise (· < ·) → SrtF (K.flatMap (restOf A)) ∧ ∀ f, flt f (K.flatMap (restOf A)) = if f ∈ K then restOf A f else []
  | [], _ => ⟨.nil, fun f => rfl⟩
  | k :: K, hK => by
    obtain ⟨hk1, hk2⟩ := List.pairwise_cons.1 hK
    obtain ⟨h1, h2⟩ := flatMap_srt h K hk2
    have hmem : ∀ p ∈ K.flatMap (restOf A), p.flow ∈ K := fun p hp => by
      obtain ⟨y, hy, hpy⟩ := List.mem_flatMap.1 hp
      rw [restOf_flow h y p hpy]; exact hy
    have hself : ∀ g, flt g (restOf A k) = if g = k then restOf A k else [] := fun g => by
      split
      ·rename_i he
       unfold flt
       rw [List.filter_eq_self]
       intro p hp; rw [restOf_flow h k p hp, he]; simp
      ·rename_i he
       exact flt_none fun p hp => by rw [restOf_flow h k p hp]; exact fun h' => he h'.symm
    rw [List.flatMap_cons]
    refine ⟨?_, fun f => ?_⟩
    ·rw [SrtF, List.pairwise_append]
     refine ⟨?_, h1, fun a ha b hb => ?_⟩
     ·rw [List.pairwise_iff_forall_sublist]
      intro a b hab
      have ha := hab.subset (List.mem_cons_self ..)
      have hb := hab.subset (List.mem_cons_of_mem _ (List.mem_cons_self ..))
      rw [restOf_flow h k a ha, restOf_flow h k b hb]; exact Int.le_refl _
     ·rw [restOf_flow h k a ha]
      have := hk1 b.flow (hmem b hb); omega
    ·rw [flt_append, hself, h2]
     by_cases he : f = k
     ·subst he
      have : f ∉ K := fun hm => by have := hk1 f hm; omega
      simp [this]
     ·simp [he]
section
variable {c : Config} {ls : List (List Call)} {l : List Point} {me : Mdl}
theorem left_eq (hls : listsOk ls) (hl : l.length ≤ 1000000) (h : plays c ls l = some me) {K : List Int} (hK : K.Perm (akeys (bookOf c ls l).1)) (hs : K.Pairwise (· < ·)) : rLeft ls l = some (K.flatMap (restOf (bookOf c ls l).1)) := by
  obtain ⟨hc, hp⟩ := playL_of h
  have hst := book_st hls hl h
  obtain ⟨inn, h1, h2, h3⟩ := left_run hls l 0 _ _ _ none me [] (st0 hc) (by omega) hp ⟨fun f => by simp [flt, aget, acc0, pend], by simp⟩
  obtain ⟨s1, s2⟩ := sortF_spec inn [] .nil
  obtain ⟨f1, f2⟩ := flatMap_srt hst.inv K hs
  unfold rLeft
  rw [h1, Option.map_some]
  congr 1
  refine srt_unique _ _ s1 f1 fun f => ?_
  rw [show sortF inn = inn.foldl insF [] from rfl, s2, f2]
  rw [show flt f [] = [] from rfl, List.nil_append, h2 f]
  split
  ·rfl
  ·rename_i hf
   have : aget (bookOf c ls l).1 f = acc0 := aget_no fun hm => hf (hK.mem_iff.2 hm)
   show (pend (aget (bookOf c ls l).1 f)).map (·.p) = []
   rw [this]; rfl
end
end Go.Proofs.YtkdbglfdgeldpaaGreat
