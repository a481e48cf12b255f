/- The plain law of layer 28, seventh part: both tell the same of gaps and of fairness. Condition: at most a million points. -/
import Derived.Test.YtkdbglfdgeldpaaGreatInv6
namespace Go.Proofs.YtkdbglfdgeldpaaGreat
open Go.Lt
theorem knd_en {ls : List (List Call)} {x : Point} {p : Packet} (h : kndOf ls x = .en p) : came ls x ∧ p = ⟨(callOf ls x).1.flow, (callOf ls x).1.a, (callOf ls x).1.b⟩ := by
  unfold kndOf at h
  split at h
  ·cases h
  ·split at h
   ·rename_i hc; cases h; exact ⟨hc, rfl⟩
   ·cases h
theorem knd_rg {ls : List (List Call)} {x : Point} {f : Int} (h : kndOf ls x = .rg f) : reg ls x ∧ f = (callOf ls x).1.flow ∧ ¬ came ls x := by
  unfold kndOf at h
  split at h
  ·rename_i hc; cases h; exact ⟨hc, rfl, fun h2 => by unfold reg at hc; unfold came at h2; omega⟩
  ·split at h
   ·cases h
   ·cases h
theorem knd_no {ls : List (List Call)} {x : Point} (h : kndOf ls x = .no) : ¬ reg ls x ∧ ¬ came ls x := by
  unfold kndOf at h
  split at h
  ·cases h
  ·split at h
   ·cases h
   ·rename_i h1 h2; exact ⟨h1, h2⟩
def SR (f g : Int) (A : As) (t : Sums) : Prop := t.all = min (gsum cAll A) lim ∧ t.a = dear A f ∧ t.b = dear A g
theorem dear_snoc {a : Acc} {q : Parcel} : dearL (a.came ++ [q]) = max (dearL a.came) q.cost := dearL_snoc _ _
theorem sr_step {ls : List (List Call)} {i : Nat} {m m' : Mdl} {A A' : As} {s s' : Int} {x : Point} {ps : List Packet} (h : Inv i m A s) (hok : m.s.ok) (e : Evt i m A s (kndOf ls x) ps m' A' s') {f g : Int} {t : Sums} (ht : SR f g A t) : SR f g A' (sumStep ls f g m t x) := by
  generalize hk : kndOf ls x = k at e
  have nothing : ¬ came ls x → (∀ y, (aget A' y).came = (aget A y).came) → gsum cAll A' = gsum cAll A → SR f g A' (sumStep ls f g m t x) := fun hc hca hg => by
    unfold sumStep
    rw [if_neg hc]
    refine ⟨by rw [hg]; exact ht.1, ?_, ?_⟩
    ·rw [ht.2.1]; unfold dear; rw [hca]
    ·rw [ht.2.2]; unfold dear; rw [hca]
  cases e with
  | idle => exact nothing (knd_no hk).2 (fun _ => rfl) rfl
  | empty => exact nothing (knd_no hk).2 (fun _ => rfl) rfl
  | close => exact nothing (knd_no hk).2 (fun _ => rfl) rfl
  | reg a w _ => exact nothing (knd_rg hk).2.2 (fun y => by rw [aget_aput]; split; rename_i he; subst he; rfl; rfl) (aput_came_sum (by rfl))
  | deq a w p rest _ => exact nothing (knd_no hk).2 (fun y => by unfold tell; rw [aget_aput]; split; rename_i he; subst he; rfl; rfl) (by unfold tell; exact aput_came_sum (by rfl))
  | enq a w p _ h1 h2 h3 h4 h5 =>
    obtain ⟨hc, hp⟩ := knd_en hk
    have hy := h.yes a w h1
    have hr0 : 0 ≤ (aget A a).r := by rw [hy.2.1]; have := look_ok hok h1; unfold Flw.ok U at this; exact this.1.1
    have hc0 := costOf_nonneg (a := p.len) hr0
    have hfl : (callOf ls x).1.flow = a := by rw [← h2, hp]
    have hcost : costAt ls m x = costOf p.len (aget A a).r := by
      unfold costAt; rw [hfl, rate_look, h1, hp, hy.2.1]
    generalize costOf p.len (aget A a).r = co at *
    have hd : ∀ y, dear (aput A a { aget A a with came := (aget A a).came ++ [⟨p, co, i⟩] }) y = if a = y then max (dear A y) co else dear A y := fun y => by
      unfold dear
      rw [aget_aput]
      by_cases he : y = a
      ·subst he
       rw [if_pos rfl, if_pos rfl]
       show dearL ((aget A y).came ++ [_]) = _
       rw [dearL_snoc]
      ·rw [if_neg he, if_neg (fun h => he h.symm)]
    unfold sumStep
    rw [if_pos hc, hcost, hfl]
    refine ⟨?_, ?_, ?_⟩
    ·show min (satAdd t.all co) lim = _
     rw [gsum_aput (by rfl), ht.1]
     have : cAll { aget A a with came := (aget A a).came ++ [⟨p, co, i⟩] } = cAll (aget A a) + co := by
       show cs ((aget A a).came ++ [_]) = _
       rw [cs_append]; simp [cs, cAll]
     rw [this]
     have hg0 := gsum_nonneg A (cAll_nonneg h)
     unfold satAdd top lim; omega
    ·show (if a = f then max t.a co else t.a) = _
     rw [hd, ht.2.1]
    ·show (if a = g then max t.b co else t.b) = _
     rw [hd, ht.2.2]
theorem sums_run {c : Config} {ls : List (List Call)} (hls : listsOk ls) {f g : Int} : ∀ (l : List Point) (i : Nat) (m : Mdl) (A : As) (s : Int) (last : Option Int) (me : Mdl) (t : Sums), St c i m A s → i + l.length ≤ 1000000 → playL ls l m last = some me → SR f g A t →
    SR f g (bookL c.unit ls l i A s).1 (sumsL ls f g l m t)
  | [], i, m, A, s, last, me, t, h, _, hp, ht => ht
  | x :: l, i, m, A, s, last, me, t, h, hi, hp, ht => by
    simp only [List.length_cons] at hi
    obtain ⟨_, _, he, hst, hp', _⟩ := st_step hls h (by omega) hp
    rw [bookL_S]
    unfold sumsL
    exact sums_run hls l (i + 1) _ _ _ _ me _ hst (by omega) hp' (sr_step h.inv h.ok.2.1 he ht)
def NR (A : As) (n : List Int) : Prop := n.Nodup ∧ ∀ f, f ∈ n ↔ f ∈ akeys A
theorem nr_step {ls : List (List Call)} {i : Nat} {m m' : Mdl} {A A' : As} {s s' : Int} {x : Point} {ps : List Packet} (h : Inv i m A s) (e : Evt i m A s (kndOf ls x) ps m' A' s') {n : List Int} (ht : NR A n) : NR A' (nameStep ls n x) := by
  generalize hk : kndOf ls x = k at e
  have nothing : ¬ reg ls x → (∀ f, f ∈ akeys A' ↔ f ∈ akeys A) → NR A' (nameStep ls n x) := fun hc hka => by
    unfold nameStep
    rw [if_neg (fun h => hc h.1)]
    exact ⟨ht.1, fun f => by rw [ht.2, hka]⟩
  cases e with
  | idle => exact nothing (knd_no hk).1 (fun _ => Iff.rfl)
  | empty => exact nothing (knd_no hk).1 (fun _ => Iff.rfl)
  | close => exact nothing (knd_no hk).1 (fun _ => Iff.rfl)
  | deq a w p rest _ h1 h2 h3 =>
    refine nothing (knd_no hk).1 (fun f => ?_)
    unfold tell; rw [akeys_aput]
    exact ⟨fun h' => h'.elim (fun h' => by rw [h', h3]; exact (h.yes a w h1).1) id, .inr⟩
  | enq a w p _ h1 h2 =>
    refine nothing (fun hr => by have := (knd_en hk).1; unfold reg at hr; unfold came at this; omega) (fun f => ?_)
    rw [akeys_aput]
    exact ⟨fun h' => h'.elim (fun h' => by rw [h']; exact (h.yes a w h1).1) id, .inr⟩
  | reg a w _ =>
    obtain ⟨hr, ha, _⟩ := knd_rg hk
    unfold nameStep
    by_cases hin : a ∈ n
    ·rw [if_neg (fun h => h.2 (by rw [← ha]; exact hin))]
     refine ⟨ht.1, fun f => ?_⟩
     rw [akeys_aput, ht.2]
     exact ⟨.inr, fun h' => h'.elim (fun h' => by rw [h']; exact (ht.2 a).1 hin) id⟩
    ·rw [if_pos ⟨hr, by rw [← ha]; exact hin⟩, ← ha]
     refine ⟨?_, fun f => ?_⟩
     ·rw [List.nodup_append]
      exact ⟨ht.1, by simp, fun y hy z hz => by rw [List.mem_singleton.1 hz]; intro he; subst he; exact hin hy⟩
     ·rw [akeys_aput, List.mem_append, List.mem_singleton, ht.2]
      exact ⟨fun h' => h'.symm, fun h' => h'.symm⟩
theorem names_run {c : Config} {ls : List (List Call)} (hls : listsOk ls) : ∀ (l : List Point) (i : Nat) (m : Mdl) (A : As) (s : Int) (last : Option Int) (me : Mdl) (n : List Int), St c i m A s → i + l.length ≤ 1000000 → playL ls l m last = some me → NR A n →
    NR (bookL c.unit ls l i A s).1 (l.foldl (nameStep ls) n)
  | [], i, m, A, s, last, me, n, h, _, hp, ht => ht
  | x :: l, i, m, A, s, last, me, n, h, hi, hp, ht => by
    simp only [List.length_cons] at hi
    obtain ⟨_, _, he, hst, hp', _⟩ := st_step hls h (by omega) hp
    rw [bookL_S, List.foldl_cons]
    exact names_run hls l (i + 1) _ _ _ _ me _ hst (by omega) hp' (nr_step h.inv he ht)
section
variable {c : Config} {ls : List (List Call)} {l : List Point} {me : Mdl}
theorem playL_of (h : plays c ls l = some me) : cfgOk c ∧ playL ls l (mkMdl c) none = some me := by
  unfold plays at h
  split at h
  ·rename_i hc; exact ⟨hc, h⟩
  ·cases h
theorem book_st (hls : listsOk ls) (hl : l.length ≤ 1000000) (h : plays c ls l = some me) : St c l.length me (bookOf c ls l).1 (bookOf c ls l).2 := by
  obtain ⟨hc, hp⟩ := playL_of h
  have := (book_run hls l 0 _ _ _ none me (st0 hc) (by omega) hp).1
  rwa [Nat.zero_add] at this
theorem book_sums (hls : listsOk ls) (hl : l.length ≤ 1000000) (h : plays c ls l = some me) (f g : Int) : SR f g (bookOf c ls l).1 (sums c ls l f g) := by
  obtain ⟨hc, hp⟩ := playL_of h
  exact sums_run hls l 0 _ _ _ none me _ (st0 hc) (by omega) hp ⟨by simp only [gsum, lim]; omega, by rfl, by rfl⟩
theorem book_names (hls : listsOk ls) (hl : l.length ≤ 1000000) (h : plays c ls l = some me) : NR (bookOf c ls l).1 (names ls l) := by
  obtain ⟨hc, hp⟩ := playL_of h
  exact names_run hls l 0 _ _ _ none me _ (st0 hc) (by omega) hp ⟨by simp, by simp [akeys]⟩
theorem gr0 (c : Config) (f g : Int) (D E : Int) (hD : 0 ≤ D) (hE : 0 ≤ E) : GR f g (mkMdl c) [] D E (gs0 c f g) ⟨mkMdl c, [], 0⟩ := by
  have hb : both (mkMdl c) f g = false := by simp [both, Sq.lenAt, Sq.at, mkMdl]
  refine ⟨rfl, rfl, by simp [gs0, aget, acc0, cTold, cs], rfl, rfl, by simp [gs0]; omega, by simp, fun h => by rw [hb] at h; cases h⟩
theorem book_gap (hls : listsOk ls) (hl : l.length ≤ 1000000) (h : plays c ls l = some me) {f g : Int} (hfg : f ≠ g) (hcap : gsum cAll (bookOf c ls l).1 < 4611686018427387904) :
    ∃ gs rs, gapL (bookOf c ls l).1 f g ls l (gs0 c f g) = some gs ∧ rgapL f g ls l ⟨mkMdl c, [], 0⟩ = some rs ∧ gs.most = rs.most ∧ 0 ≤ gs.most ∧ gs.most ≤ dear (bookOf c ls l).1 f + dear (bookOf c ls l).1 g := by
  obtain ⟨hc, hp⟩ := playL_of h
  obtain ⟨gs, rs, h1, h2, h3, h4, _⟩ := gap_run hls hfg hcap l 0 _ _ _ none me _ _ (st0 hc) (by omega) hp (fun _ => List.prefix_refl _) (Int.le_refl _) (fr0 c) (gr0 c f g _ _ (dear_nonneg _ f) (dear_nonneg _ g))
  exact ⟨gs, rs, h1, h2, h3, h4.1, h4.2⟩
theorem dear_le_all {i : Nat} {m : Mdl} {A : As} {s : Int} (h : Inv i m A s) (f g : Int) (hfg : f ≠ g) : dear A f + dear A g ≤ gsum cAll A := by
  have h1 : ∀ f, dear A f ≤ cAll (aget A f) := fun f => dearL_cs fun q hq => (h.came f q hq).2.1
  have h2 := (gsum_get (g := cAll) (by rfl) A (cAll_nonneg h) f).2 g hfg
  have := h1 f; have := h1 g; omega
theorem f_good (hls : listsOk ls) (hl : l.length ≤ 1000000) (f g : Int) : FGood c ls l f g := by
  intro hp hfg hs
  obtain ⟨me, h⟩ := Option.ne_none_iff_exists'.1 hp
  have hst := book_st hls hl h
  have hcap : gsum cAll (bookOf c ls l).1 < 4611686018427387904 := by have := hst.inv.sum; unfold lim at hs; unfold top at this; omega
  obtain ⟨gs, rs, h1, h2, h3, h4, h5⟩ := book_gap hls hl h hfg hcap
  have := dear_le_all hst.inv f g hfg
  exact ⟨⟨gs, h1⟩, dear_nonneg _ f, dear_nonneg _ g, by omega⟩
theorem r_good (hls : listsOk ls) (hl : l.length ≤ 1000000) (f g : Int) : RGood c ls l f g := by
  intro hfg hp hs
  obtain ⟨me, h⟩ := Option.ne_none_iff_exists'.1 hp
  have hst := book_st hls hl h
  obtain ⟨s1, s2, s3⟩ := book_sums hls hl h f g
  have hcap : gsum cAll (bookOf c ls l).1 < 4611686018427387904 := by unfold lim at hs s1; omega
  obtain ⟨gs, rs, h1, h2, h3, h4, h5⟩ := book_gap hls hl h hfg hcap
  have hd := dear_le_all hst.inv f g hfg
  have d1 := dear_nonneg (bookOf c ls l).1 f; have d2 := dear_nonneg (bookOf c ls l).1 g
  have hg0 := gsum_nonneg _ (cAll_nonneg hst.inv)
  refine ⟨⟨rs, h2⟩, ?_, by omega⟩
  unfold Sums.ok U lim at *
  omega
theorem gap_eq (hls : listsOk ls) (hl : l.length ≤ 1000000) (f g : Int) : fGap c ls l f g = rGap c ls l f g := by
  unfold fGap rGap
  cases h : plays c ls l with
  | none => simp
  | some me =>
    have hst := book_st hls hl h
    obtain ⟨s1, s2, s3⟩ := book_sums hls hl h f g
    have hsum := hst.inv.sum
    by_cases hfg : f = g
    ·simp [hfg]
    ·simp only [hfg, false_or]
     have hn : ¬ (some me = none) := by simp
     rw [if_neg hn, if_neg hn]
     by_cases hc : lim ≤ (bookOf c ls l).2
     ·rw [if_pos hc, if_pos (by unfold lim top at *; omega)]
     ·rw [if_neg hc, if_neg (by unfold lim top at *; omega)]
      have hcap : gsum cAll (bookOf c ls l).1 < 4611686018427387904 := by unfold lim top at *; omega
      obtain ⟨gs, rs, h1, h2, h3, h4, h5⟩ := book_gap hls hl h hfg hcap
      rw [h1, h2]
      simp only
      rw [h3, s2, s3]
theorem f_fair (hls : listsOk ls) (hl : l.length ≤ 1000000) (h : plays c ls l = some me) : fFairP c ls l := by
  have hst := book_st hls hl h
  have hsum := hst.inv.sum
  refine ⟨by rw [h]; simp, ?_⟩
  by_cases hc : lim ≤ (bookOf c ls l).2
  ·exact .inl hc
  ·refine .inr fun x y _ _ hxy => ?_
   have hcap : gsum cAll (bookOf c ls l).1 < 4611686018427387904 := by unfold lim top at *; omega
   obtain ⟨gs, rs, h1, h2, h3, h4, h5⟩ := book_gap (f := x) (g := y) hls hl h (by omega) hcap
   exact ⟨gs, h1, h5⟩
theorem r_fair (hls : listsOk ls) (hl : l.length ≤ 1000000) (h : plays c ls l = some me) : rFairP c ls l := by
  have hst := book_st hls hl h
  have hsum := hst.inv.sum
  refine ⟨by rw [h]; simp, ?_⟩
  obtain ⟨s1, _, _⟩ := book_sums hls hl h (-1) (-1)
  by_cases hc : lim ≤ (sums c ls l (-1) (-1)).all
  ·exact .inl hc
  ·refine .inr fun i j x y hij hx hy => ?_
   have hn := (book_names hls hl h).1
   have hxy : x ≠ y := fun he => by
     subst he
     have h1 := (List.getElem?_eq_some_iff.1 hx)
     have h2 := (List.getElem?_eq_some_iff.1 hy)
     obtain ⟨h1, e1⟩ := h1
     obtain ⟨h2, e2⟩ := h2
     have := List.pairwise_iff_getElem.1 hn j i h2 h1 hij
     rw [e1, e2] at this; exact this rfl
   have hcap : gsum cAll (bookOf c ls l).1 < 4611686018427387904 := by unfold lim at *; omega
   obtain ⟨gs, rs, h1, h2, h3, h4, h5⟩ := book_gap (f := x) (g := y) hls hl h hxy hcap
   obtain ⟨s1', s2, s3⟩ := book_sums hls hl h x y
   unfold rPair rGap
   rw [if_neg (by rw [h]; simp [hxy]), if_neg (by unfold lim at *; omega), h2]
   exact ⟨rfl, by simp only; omega⟩
theorem book_kept (hls : listsOk ls) (hl : l.length ≤ 1000000) (h : plays c ls l = some me) : keptB (bookOf c ls l).1 = true := by
  have hst := book_st hls hl h
  unfold keptB
  rw [List.all_eq_true]
  intro q hq
  have he : aget (bookOf c ls l).1 q.1 = q.2 := aget_mem hst.inv.nd (by simpa using hq)
  have := hst.inv.ok q.1
  rw [he] at this; simp [this]
end
end Go.Proofs.YtkdbglfdgeldpaaGreat
