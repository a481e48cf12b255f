/- Plain laws of gaps: the one flow against the other, shorter rows of points, flows that never were. Condition: none. -/
import Derived.Test.YtkdbglfdgeldpaaGreatTold
namespace Go.Proofs.YtkdbglfdgeldpaaGreat
open Go.Lt
theorem smallI_neg {x : Int} (h : smallI x) : smallI (-x) := by unfold smallI at *; omega
theorem rTells_sym {m : Mdl} {f g : Int} (hfg : f ≠ g) : ∀ (ps : List Packet) (d r : Int), smallI d → rTells m f g ps d = some r → rTells m g f ps (-d) = some (-r)
  | [], d, r, _, h => by unfold rTells at h ⊢; cases h; rfl
  | p :: ps, d, r, hd, h => by
    obtain ⟨h1, h2, h3, h4⟩ := rTells_S h
    have e1 : rD2 m g f (-d) p = -(rD2 m f g d p) := by
      unfold rD2 rD1
      by_cases hf : p.flow = f
      ·have hg : ¬ p.flow = g := fun hg => hfg (by rw [← hf, hg])
       rw [if_pos hf, if_neg hg, if_neg hg, if_pos hf]; omega
      ·by_cases hg : p.flow = g
       ·rw [if_neg hf, if_pos hg, if_pos hg, if_neg hf]; omega
       ·rw [if_neg hf, if_neg hg, if_neg hg, if_neg hf]
    have e2 : smallI (rD1 m g (-d) p) := by
      unfold rD1
      by_cases hg : p.flow = g
      ·have hf : ¬ p.flow = f := fun hf => hfg (by rw [← hf, hg])
       rw [if_pos hg]
       unfold rD2 rD1 at h3
       rw [if_pos hg, if_neg hf] at h3
       have := smallI_neg h3
       rwa [show -(d - costOf p.len (m.s.rate p.flow)) = -d + costOf p.len (m.s.rate p.flow) by omega] at this
      ·rw [if_neg hg]; exact smallI_neg hd
    have e3 : smallI (rD2 m g f (-d) p) := by rw [e1]; exact smallI_neg h3
    unfold rTells
    rw [if_pos ⟨h1, e2, e3⟩, e1]
    exact rTells_sym hfg ps _ r h3 h4
theorem mostS_neg (a v : Int) : mostS a (-v) = mostS a v := by unfold mostS; omega
theorem foldl_neg : ∀ (l : List Int) (a : Int), (l.map (fun v => -v)).foldl mostS a = l.foldl mostS a
  | [], _ => rfl
  | v :: l, a => by rw [List.map_cons, List.foldl_cons, List.foldl_cons, mostS_neg]; exact foldl_neg l _
theorem rFrom_sym (m : Mdl) (f g : Int) (fr : List Int) : rFrom m g f (fr.map (fun v => -v)) = (rFrom m f g fr).map (fun v => -v) := by
  unfold rFrom
  by_cases h : m.s.lenAt f < 1 ∨ m.s.lenAt g < 1
  ·rw [if_pos h, if_pos h.symm]; rfl
  ·rw [if_neg h, if_neg (fun h' => h h'.symm)]; simp
theorem both_sym (m : Mdl) (f g : Int) : both m g f = both m f g := by unfold both; rw [Bool.and_comm]
theorem map_sym (l : List Int) (d : Int) : (l.map (fun v => -v)).map (· + -d) = (l.map (· + d)).map (fun v => -v) := by
  rw [List.map_map, List.map_map]
  exact List.map_congr_left fun v _ => by simp only [Function.comp]; omega
theorem rgapL_sym {f g : Int} (hfg : f ≠ g) {ls : List (List Call)} : ∀ (l : List Point) (s r : Rs), rgapL f g ls l s = some r → ∃ r', rgapL g f ls l ⟨s.m, s.fr.map (fun v => -v), s.most⟩ = some r' ∧ r'.most = r.most
  | [], s, r, h => by
    unfold rgapL at h ⊢
    cases h
    exact ⟨_, rfl, rfl⟩
  | x :: l, s, r, h => by
    obtain ⟨d, h1, h2, h3⟩ := rgapL_S h
    have h1' := rTells_sym hfg _ _ _ (by unfold smallI; omega) h1
    rw [Int.neg_zero] at h1'
    obtain ⟨r', h4, h5⟩ := rgapL_sym hfg l _ r h3
    refine ⟨r', ?_, h5⟩
    unfold rgapL
    dsimp only
    rw [h1']
    dsimp only
    rw [rFrom_sym, map_sym]
    rw [if_pos (by
      intro v hv
      obtain ⟨u, hu, rfl⟩ := List.mem_map.1 hv
      exact smallI_neg (h2 u hu))]
    rw [show rEnd g f (s.m.do (callOf ls x).1).2 ⟨s.m, s.fr.map (fun v => -v), s.most⟩ (-d) = ⟨(s.m.do (callOf ls x).1).2, (rEnd f g (s.m.do (callOf ls x).1).2 s d).fr.map (fun v => -v), (rEnd f g (s.m.do (callOf ls x).1).2 s d).most⟩ from by
      unfold rEnd
      dsimp only
      rw [rFrom_sym, map_sym, foldl_neg, both_sym]]
    exact h4
theorem sums_sym (ls : List (List Call)) (f g : Int) : ∀ (l : List Point) (m : Mdl) (t : Sums), sumsL ls g f l m ⟨t.all, t.b, t.a⟩ = ⟨(sumsL ls f g l m t).all, (sumsL ls f g l m t).b, (sumsL ls f g l m t).a⟩
  | [], _, _ => rfl
  | x :: l, m, t => by
    unfold sumsL
    rw [← sums_sym ls f g l]
    congr 1
    unfold sumStep
    split <;> rfl
theorem rGap_sym (c : Config) (ls : List (List Call)) (l : List Point) (f g : Int) : rGap c ls l g f = rGap c ls l f g := by
  unfold rGap
  have hs : sums c ls l g f = ⟨(sums c ls l f g).all, (sums c ls l f g).b, (sums c ls l f g).a⟩ := sums_sym ls f g l (mkMdl c) ⟨0, 0, 0⟩
  by_cases h0 : f = g ∨ plays c ls l = none
  ·rw [if_pos h0, if_pos (h0.imp Eq.symm id)]
  ·rw [if_neg h0, if_neg (fun h => h0 (h.imp Eq.symm id)), hs]
   dsimp only
   by_cases h1 : lim ≤ (sums c ls l f g).all
   ·rw [if_pos h1, if_pos h1]
   ·rw [if_neg h1, if_neg h1]
    have hfg : f ≠ g := fun h => h0 (.inl h)
    cases h2 : rgapL f g ls l ⟨mkMdl c, [], 0⟩ with
    | none =>
      cases h3 : rgapL g f ls l ⟨mkMdl c, [], 0⟩ with
      | none => rfl
      | some r =>
        obtain ⟨r', h4, -⟩ := rgapL_sym (fun h => hfg h.symm) l _ r h3
        rw [show (⟨mkMdl c, ([] : List Int).map (fun v => -v), 0⟩ : Rs) = ⟨mkMdl c, [], 0⟩ from rfl, h2] at h4
        cases h4
    | some r =>
      obtain ⟨r', h4, h5⟩ := rgapL_sym hfg l _ r h2
      rw [show (⟨mkMdl c, ([] : List Int).map (fun v => -v), 0⟩ : Rs) = ⟨mkMdl c, [], 0⟩ from rfl] at h4
      rw [h4]
      dsimp only
      rw [h5, Int.add_comm]
theorem foldl_most : ∀ (l : List Int) (a : Int), a ≤ l.foldl mostS a
  | [], a => Int.le_refl _
  | v :: l, a => by
    rw [List.foldl_cons]
    have := foldl_most l (mostS a v)
    unfold mostS at this ⊢
    omega
theorem rgapL_mono {f g : Int} {ls : List (List Call)} : ∀ (l : List Point) (s r : Rs), rgapL f g ls l s = some r → s.most ≤ r.most
  | [], s, r, h => by unfold rgapL at h; cases h; exact Int.le_refl _
  | x :: l, s, r, h => by
    obtain ⟨d, h1, h2, h3⟩ := rgapL_S h
    have := rgapL_mono l _ r h3
    refine Int.le_trans ?_ this
    unfold rEnd
    dsimp only
    split
    ·exact foldl_most _ _
    ·exact Int.le_refl _
theorem rgapL_pre {f g : Int} {ls : List (List Call)} (l2 : List Point) : ∀ (l : List Point) (s r : Rs), rgapL f g ls (l ++ l2) s = some r → ∃ r1, rgapL f g ls l s = some r1 ∧ r1.most ≤ r.most
  | [], s, r, h => ⟨s, rfl, rgapL_mono l2 s r h⟩
  | x :: l, s, r, h => by
    obtain ⟨d, h1, h2, h3⟩ := rgapL_S h
    obtain ⟨r1, h4, h5⟩ := rgapL_pre l2 l _ r h3
    refine ⟨r1, ?_, h5⟩
    unfold rgapL
    rw [h1]
    dsimp only
    rw [if_pos h2]
    exact h4
theorem playL_pre {ls : List (List Call)} (l2 : List Point) : ∀ (l : List Point) (m me : Mdl) (last : Option Int), playL ls (l ++ l2) m last = some me → ∃ m1, playL ls l m last = some m1
  | [], m, _, _, _ => ⟨m, rfl⟩
  | x :: l, m, me, last, h => by
    rw [List.cons_append, playL_S] at h
    split at h
    ·cases h
    ·rename_i hc
     obtain ⟨m1, h1⟩ := playL_pre l2 l _ me _ h
     exact ⟨m1, by rw [playL_S, if_neg hc]; exact h1⟩
theorem costAt_nn {ls : List (List Call)} (hls : listsOk ls) {m : Mdl} {n : Nat} (hm : m.ok n) (x : Point) : 0 ≤ costAt ls m x :=
  (costOf_U (callOf_ok hls x).2.2.1 (rate_U hm.2.1 _)).1
theorem step_all {ls : List (List Call)} {f g : Int} {m : Mdl} {t : Sums} {x : Point} (hc : 0 ≤ costAt ls m x) (ht : t.all ≤ lim) : t.all ≤ (sumStep ls f g m t x).all ∧ (sumStep ls f g m t x).all ≤ lim := by
  unfold sumStep
  split
  ·dsimp only; unfold satAdd top; unfold lim at *; omega
  ·exact ⟨Int.le_refl _, ht⟩
theorem sums_mono {ls : List (List Call)} (hls : listsOk ls) {f g : Int} : ∀ (l : List Point) (m : Mdl) (t : Sums) (n : Nat), m.ok n → n + l.length ≤ 1000000 → t.all ≤ lim → t.all ≤ (sumsL ls f g l m t).all
  | [], _, _, _, _, _, _ => Int.le_refl _
  | x :: l, m, t, n, hm, hn, ht => by
    simp only [List.length_cons] at hn
    have h1 := step_all (f := f) (g := g) (costAt_nn hls hm x) ht
    have hdo := Mdl.do_ok hm (by omega) (callOf_ok hls x)
    unfold sumsL
    exact Int.le_trans h1.1 (sums_mono hls l _ _ (n + 1) hdo.1 (by omega) h1.2)
theorem sums_pre {ls : List (List Call)} (hls : listsOk ls) {f g : Int} (l2 : List Point) : ∀ (l : List Point) (m : Mdl) (t : Sums) (n : Nat), m.ok n → n + (l ++ l2).length ≤ 1000000 → t.all ≤ lim → (sumsL ls f g l m t).all ≤ (sumsL ls f g (l ++ l2) m t).all
  | [], m, t, n, hm, hn, ht => sums_mono hls l2 m t n hm hn ht
  | x :: l, m, t, n, hm, hn, ht => by
    simp only [List.cons_append, List.length_cons] at hn
    have h1 := step_all (f := f) (g := g) (costAt_nn hls hm x) ht
    have hdo := Mdl.do_ok hm (by omega) (callOf_ok hls x)
    rw [List.cons_append]
    unfold sumsL
    exact sums_pre hls l2 l _ _ (n + 1) hdo.1 (by omega) h1.2
/-- A longer row of points has no smaller gap. -/
theorem gap_pre {c : Config} {ls : List (List Call)} {l : List Point} (hls : listsOk ls) (hl : l.length ≤ 1000000) (f g : Int) (k : Nat) (ho : (rGap c ls l f g).2.2 = true) : (rGap c ls (l.take k) f g).2.2 = true ∧ (rGap c ls (l.take k) f g).1 ≤ (rGap c ls l f g).1 := by
  unfold rGap at ho ⊢
  by_cases h0 : f = g ∨ plays c ls l = none
  ·rw [if_pos h0] at ho; cases ho
  ·rw [if_neg h0] at ho ⊢
   obtain ⟨me, hme⟩ := Option.ne_none_iff_exists'.1 (fun h => h0 (.inr h))
   obtain ⟨hc, hp⟩ := playL_of hme
   have e : l = l.take k ++ l.drop k := (List.take_append_drop k l).symm
   have hp' := hp
   rw [e] at hp'
   obtain ⟨m1, hm1⟩ := playL_pre _ _ _ _ _ hp'
   have hpp : plays c ls (l.take k) = some m1 := by unfold plays; rw [if_pos hc]; exact hm1
   by_cases h1 : lim ≤ (sums c ls l f g).all
   ·rw [if_pos h1] at ho; cases ho
   ·rw [if_neg h1] at ho ⊢
    have hs : (sums c ls (l.take k) f g).all ≤ (sums c ls l f g).all := by
      have := sums_pre hls (f := f) (g := g) (l.drop k) (l.take k) (mkMdl c) ⟨0, 0, 0⟩ 0 (mkMdl_ok c hc) (by rw [← e]; omega) (by unfold lim; decide)
      rw [← e] at this
      exact this
    rw [if_neg (by rw [hpp]; simp; exact fun h => h0 (.inl h)), if_neg (by omega)]
    cases h2 : rgapL f g ls l ⟨mkMdl c, [], 0⟩ with
    | none => rw [h2] at ho; cases ho
    | some r =>
      rw [e] at h2
      obtain ⟨r1, h3, h4⟩ := rgapL_pre _ _ _ _ h2
      rw [h3]
      exact ⟨rfl, h4⟩
theorem sums_all (ls : List (List Call)) (f g f' g' : Int) : ∀ (l : List Point) (m : Mdl) (t t' : Sums), t.all = t'.all → (sumsL ls f g l m t).all = (sumsL ls f' g' l m t').all
  | [], _, _, _, h => h
  | x :: l, m, t, t', h => by
    unfold sumsL
    refine sums_all ls f g f' g' l _ _ _ ?_
    unfold sumStep
    split
    ·dsimp only; rw [h]
    ·exact h
theorem sums_zero {ls : List (List Call)} {f g : Int} : ∀ (l : List Point) (m : Mdl) (t : Sums), (∀ x ∈ l, (callOf ls x).1.flow ≠ f ∧ (callOf ls x).1.flow ≠ g) → (sumsL ls f g l m t).a = t.a ∧ (sumsL ls f g l m t).b = t.b
  | [], _, _, _ => ⟨rfl, rfl⟩
  | x :: l, m, t, h => by
    unfold sumsL
    have ih := sums_zero l (m.do (callOf ls x).1).2 (sumStep ls f g m t x) fun y hy => h y (by simp [hy])
    have hx := h x (by simp)
    have e : (sumStep ls f g m t x).a = t.a ∧ (sumStep ls f g m t x).b = t.b := by
      unfold sumStep
      split
      ·dsimp only; rw [if_neg hx.1, if_neg hx.2]; exact ⟨rfl, rfl⟩
      ·exact ⟨rfl, rfl⟩
    rw [ih.1, ih.2]; exact e
/-- Of flows that never were there is nothing. -/
theorem gap_never {c : Config} {ls : List (List Call)} {l : List Point} (hls : listsOk ls) (hl : l.length ≤ 1000000) {f g : Int} (hfg : f ≠ g) {me : Mdl} (hme : plays c ls l = some me) (hx : ∀ x ∈ l, (callOf ls x).1.flow ≠ f ∧ (callOf ls x).1.flow ≠ g) :
    fGap c ls l f g = (0, 0, decide ((sums c ls l (-1) (-1)).all < 4611686018427387904)) := by
  have hz := sums_zero l (mkMdl c) ⟨0, 0, 0⟩ hx
  have ha := sums_all ls f g (-1) (-1) l (mkMdl c) ⟨0, 0, 0⟩ ⟨0, 0, 0⟩ rfl
  have hst := book_st hls hl hme
  obtain ⟨s1, s2, s3⟩ := book_sums hls hl hme f g
  have hsum := hst.inv.sum
  have ha' : (sums c ls l f g).all = (sums c ls l (-1) (-1)).all := ha
  have hz1 : (sums c ls l f g).a = 0 := hz.1
  have hz2 : (sums c ls l f g).b = 0 := hz.2
  unfold fGap
  rw [hme, if_neg (by simp)]
  by_cases hc : lim ≤ (bookOf c ls l).2
  ·rw [if_pos (.inr hc), decide_eq_false (by unfold lim top at *; omega)]
  ·rw [if_neg (by intro h; rcases h with h | h; exact hfg h; exact hc h)]
   have hcap : gsum cAll (bookOf c ls l).1 < 4611686018427387904 := by unfold lim top at *; omega
   obtain ⟨gs, rs, h1, h2, h3, h4, h5⟩ := book_gap hls hl hme hfg hcap
   rw [h1, decide_eq_true (by unfold lim top at *; omega)]
   have e1 : gs.most = 0 := by omega
   have e2 : dear (bookOf c ls l).1 f + dear (bookOf c ls l).1 g = 0 := by omega
   simp only [e1, e2]
end Go.Proofs.YtkdbglfdgeldpaaGreat
