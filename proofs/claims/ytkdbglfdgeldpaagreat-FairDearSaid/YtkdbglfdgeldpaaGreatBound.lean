/- Contract of package law28: FairBound answers true. Condition: the input is only read. -/
import Derived.Test.YtkdbglfdgeldpaaGreatBusy
namespace Go.Proofs.YtkdbglfdgeldpaaGreat
open Go.Lt
/-- The step of the last point, or what was there before. -/
def lastSt (l : List Point) (last : Option Int) : Option Int := match l.getLast? with | some y => some y.step | none => last
theorem playL_snoc (ls : List (List Call)) (x : Point) : ∀ (l : List Point) (m m' : Mdl) (last : Option Int), playL ls l m last = some m' → playL ls (l ++ [x]) m last = playL ls [x] m' (lastSt l last)
  | [], m, m', last, h => by
    have : m = m' := by unfold playL at h; exact Option.some.inj h
    subst this
    rfl
  | y :: l, m, m', last, h => by
    by_cases hy : (callOf ls y).2 = false ∨ tooLate last y ∨ (m.do (callOf ls y).1).1 ≠ y.ret
    ·rw [playL_no hy] at h; cases h
    ·have h1 : (callOf ls y).2 = true := by
       cases hc : (callOf ls y).2 with
       | true => rfl
       | false => exact absurd (.inl hc) hy
     have h2 : ¬ tooLate last y := fun h' => hy (.inr (.inl h'))
     have h3 : (m.do (callOf ls y).1).1 = y.ret := Classical.byContradiction fun h' => hy (.inr (.inr h'))
     rw [playL_yes h1 h2 h3] at h
     rw [List.cons_append, playL_yes h1 h2 h3, playL_snoc ls x l _ m' _ h]
     unfold lastSt
     cases l with
     | nil => rfl
     | cons z l => rw [List.getLast?_cons_cons, List.getLast?_eq_some_getLast (List.cons_ne_nil z l)]
theorem lastSt_snoc (l : List Point) (x : Point) (last : Option Int) : lastSt (l ++ [x]) last = some x.step := by unfold lastSt; simp
/-- What a row of told points keeps, where no call is a Batch. -/
structure TP (c : Config) (ls : List (List Call)) (s : Tr) : Prop where
  plays : playL ls s.out (mkMdl c) none = some s.m
  late : ∀ t, lastSt s.out none = some t → t ≤ s.step
  pos : ∀ a ∈ s.at_, 0 ≤ a
theorem tp0 (c : Config) (ls : List (List Call)) : TP c ls (tr0 c ls.length) := ⟨rfl, fun t h => by simp [tr0, lastSt] at h, fun a ha => by simp [tr0] at ha; omega⟩
theorem pre_le (turns : List Int) (i : Nat) (step : Int) : step ≤ trPre turns i step := by
  unfold trPre
  split
  ·have := md_b ((‹Int›).tdiv 7) (n := 3) (by omega); omega
  ·omega
theorem tp_step {c : Config} {ls : List (List Call)} {turns : List Int} (hb : ∀ l ∈ ls, ∀ y ∈ l, bCall y) (i : Nat) {s : Tr} (h : TP c ls s) : TP c ls (trStep ls turns i s) := by
  have hp := pre_le turns i s.step
  unfold trStep
  split
  ·rename_i a l0 l ha hl0 hl
   have ha0 := h.pos a (List.mem_of_getElem? ha)
   split
   ·exact ⟨h.plays, fun t ht => by have := h.late t ht; dsimp only; omega, h.pos⟩
   ·rename_i y hy
    have hyb := hb l (List.mem_of_getElem? hl) y (List.mem_of_getElem? hy)
    unfold trDo
    rw [if_pos (by unfold bCall at hyb; omega)]
    have hco : callOf ls ⟨trPre turns i s.step + 1, (trW turns i ls.length : Nat), a, (s.m.do y).1⟩ = (y, true) := by
      unfold callOf
      dsimp only
      rw [if_neg (by omega), Int.toNat_natCast, hl]
      dsimp only
      rw [if_neg (by omega), hy]
      dsimp only
      rw [if_neg (by unfold bCall at hyb; omega)]
    refine ⟨?_, ?_, ?_⟩
    ·rw [playL_snoc _ _ _ _ _ _ h.plays, playL_yes (by rw [hco]) ?_ (by rw [hco])]
     ·rw [hco]; rfl
     ·rintro ⟨t, ht, hle⟩
      have := h.late t ht
      dsimp only at hle
      omega
    ·intro t ht
     rw [lastSt_snoc] at ht
     cases ht
     exact Int.le_refl _
    ·intro b hb'
     rcases List.mem_or_eq_of_mem_set hb' with h' | h'
     ·exact h.pos b h'
     ·omega
  ·exact ⟨h.plays, fun t ht => by have := h.late t ht; dsimp only; omega, h.pos⟩
theorem tp_run {c : Config} {ls : List (List Call)} {turns : List Int} (hb : ∀ l ∈ ls, ∀ y ∈ l, bCall y) : ∀ (k i : Nat) (s : Tr), TP c ls s → TP c ls (trL ls turns k i s)
  | 0, _, _, h => h
  | k + 1, i, s, h => by rw [trL_S]; exact tp_run hb k (i + 1) _ (tp_step hb i h)
/-- A row of points that a model tells, plays. -/
theorem trace_plays {c : Config} {ls : List (List Call)} (turns : List Int) (most : Nat) (hcfg : cfgOk c) (hb : ∀ l ∈ ls, ∀ y ∈ l, bCall y) : ∃ me, plays c ls (traceOf c ls turns most) = some me := by
  have h := tp_run (turns := turns) hb most 0 _ (tp0 c ls)
  exact ⟨_, by unfold plays; rw [if_pos hcfg]; exact h.plays⟩
theorem gap_bound {c : Config} {ls : List (List Call)} {l : List Point} (hls : listsOk ls) (hl : l.length ≤ 1000000) (f g : Int) (ho : (fGap c ls l f g).2.2 = true) : (fGap c ls l f g).1 ≤ (fGap c ls l f g).2.1 := by
  unfold fGap at ho ⊢
  cases h : plays c ls l with
  | none => simp [h] at ho
  | some me =>
    have hn : ¬ (some me = none) := by simp
    rw [h, if_neg hn] at ho
    rw [if_neg hn]
    by_cases hc : f = g ∨ lim ≤ (bookOf c ls l).2
    ·rw [if_pos hc] at ho; cases ho
    ·rw [if_neg hc] at ho ⊢
     have hst := book_st hls hl h
     have hsum := hst.inv.sum
     have hcap : gsum cAll (bookOf c ls l).1 < 4611686018427387904 := by unfold lim top at *; omega
     obtain ⟨gs, rs, h1, h2, h3, h4, h5⟩ := book_gap (f := f) (g := g) hls hl h (by omega) hcap
     rw [h1]
     exact h5
/-- What is known of the plan and the points of a law with a busy plan. -/
theorem busy_ok {ls : List (List Call)} (h2 : ls.length = 2) (hb : ∀ l ∈ ls, l.length ≤ 53 ∧ ∀ c ∈ l, bCall c) : listsOk ls ∧ 0 < ls.length ∧ (∀ l ∈ ls, l.length ≤ 1000000) ∧ ∀ l ∈ ls, ∀ y ∈ l, bCall y :=
  ⟨⟨by omega, fun l hl c hc => ((hb l hl).2 c hc).ok⟩, by omega, fun l hl => by have := (hb l hl).1; omega, fun l hl => (hb l hl).2⟩
section
variable {R : Base} {F : List HP} {w : World}
end
end Go.Proofs.YtkdbglfdgeldpaaGreat
