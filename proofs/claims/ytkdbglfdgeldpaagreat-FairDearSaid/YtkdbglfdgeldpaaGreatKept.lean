/- Contract of package law28: FairKept answers true. Condition: the input is only read. -/
import Derived.Test.YtkdbglfdgeldpaaGreatAw
namespace Go.Proofs.YtkdbglfdgeldpaaGreat
open Go.Lt
theorem trDo_out (s : Tr) (w : Nat) (a l0 step : Int) (c : Call) : ∃ x, (trDo s w a l0 step c).out = s.out ++ [x] ∧ x.ret.packets.length ≤ 16 := by
  unfold trDo
  by_cases h1 : c.op ≠ 5 ∨ c.a < 1 ∨ 16 < c.a
  ·rw [if_pos h1]
   exact ⟨⟨step, w, a, (s.m.do c).1⟩, rfl, do_len _ _⟩
  ·rw [if_neg h1]
   by_cases h2 : (if l0 = 0 then c.a else l0) - 1 = 0 ∨ (s.m.do ⟨4, 0, 0, 0⟩).1.e = 10
   ·rw [if_pos h2]; exact ⟨⟨step, w, a, (s.m.do ⟨4, 0, 0, 0⟩).1⟩, rfl, do_len _ _⟩
   ·rw [if_neg h2]; exact ⟨⟨step, w, a, (s.m.do ⟨4, 0, 0, 0⟩).1⟩, rfl, do_len _ _⟩
theorem trStep_out (ls : List (List Call)) (turns : List Int) (i : Nat) (s : Tr) : (trStep ls turns i s).out = s.out ∨ ∃ x, (trStep ls turns i s).out = s.out ++ [x] ∧ x.ret.packets.length ≤ 16 := by
  unfold trStep
  split
  ·split
   ·exact .inl rfl
   ·exact .inr (trDo_out _ _ _ _ _ _)
  ·exact .inl rfl
theorem trL_out (ls : List (List Call)) (turns : List Int) : ∀ (k i : Nat) (s : Tr), (∀ x ∈ s.out, x.ret.packets.length ≤ 16) → (trL ls turns k i s).out.length ≤ s.out.length + k ∧ ∀ x ∈ (trL ls turns k i s).out, x.ret.packets.length ≤ 16
  | 0, _, s, h => ⟨by simp [trL], h⟩
  | k + 1, i, s, h => by
    rw [trL_S]
    rcases trStep_out ls turns i s with h1 | ⟨x, h1, h2⟩
    ·have ih := trL_out ls turns k (i + 1) (trStep ls turns i s) (by rw [h1]; exact h)
     rw [h1] at ih
     exact ⟨by omega, ih.2⟩
    ·have ih := trL_out ls turns k (i + 1) (trStep ls turns i s) (by
       rw [h1]
       intro y hy
       rcases List.mem_append.1 hy with hy | hy
       ·exact h y hy
       ·rw [List.mem_singleton.1 hy]; exact h2)
     rw [h1] at ih
     simp only [List.length_append, List.length_singleton] at ih
     exact ⟨by omega, ih.2⟩
theorem trace_len (c : Config) (ls : List (List Call)) (turns : List Int) (most : Nat) : (traceOf c ls turns most).length ≤ most := by
  have := (trL_out ls turns most 0 (tr0 c ls.length) (by simp [tr0])).1
  simp [tr0] at this
  exact this
theorem trace_pk (c : Config) (ls : List (List Call)) (turns : List Int) (most : Nat) : ∀ x ∈ traceOf c ls turns most, x.ret.packets.length ≤ 16 :=
  (trL_out ls turns most 0 (tr0 c ls.length) (by simp [tr0])).2
theorem trace_pk2 (c : Config) (ls : List (List Call)) (turns : List Int) (most : Nat) : ∀ x ∈ traceOf c ls turns most, x.ret.packets.length ≤ 100 := fun x hx => by have := trace_pk c ls turns most x hx; omega
theorem eraseIdx_len {α : Type} (l : List α) (i : Nat) : (l.eraseIdx i).length ≤ l.length := by
  rw [List.length_eraseIdx]; split <;> omega
theorem takeAll_len : ∀ (xs l l' : List Packet), takeAll xs l = some l' → l'.length ≤ l.length
  | [], l, l', h => by cases h; exact Nat.le_refl _
  | x :: xs, l, l', h => by
    unfold takeAll at h
    cases h1 : takeP x l with
    | none => rw [h1] at h; cases h
    | some l2 =>
      rw [h1] at h
      have ih := takeAll_len xs l2 l' h
      have : l2.length ≤ l.length := by
        unfold takeP at h1
        split at h1
        ·cases h1
        ·split at h1
         ·cases h1; exact eraseIdx_len _ _
         ·cases h1
      omega
theorem leftL_len (ls : List (List Call)) : ∀ (l : List Point) (inn out : List Packet), leftL ls l inn = some out → out.length ≤ inn.length + l.length
  | [], inn, out, h => by cases h; simp
  | x :: l, inn, out, h => by
    unfold leftL at h
    cases h1 : takeAll x.ret.packets (leftIn ls inn x) with
    | none => rw [h1] at h; cases h
    | some i2 =>
      rw [h1] at h
      have ih := leftL_len ls l i2 out h
      have h2 := takeAll_len _ _ _ h1
      have h3 : (leftIn ls inn x).length ≤ inn.length + 1 := by unfold leftIn; split <;> simp
      simp only [List.length_cons]
      omega
theorem foldl_insF_len : ∀ (l out : List Packet), (l.foldl insF out).length = out.length + l.length
  | [], out => by simp
  | x :: l, out => by rw [List.foldl_cons, foldl_insF_len l, insF_len]; simp; omega
theorem rLeft_len {ls : List (List Call)} {l : List Point} {out : List Packet} (h : rLeft ls l = some out) : out.length ≤ l.length := by
  unfold rLeft at h
  obtain ⟨o, h1, rfl⟩ := Option.map_eq_some_iff.1 h
  have := leftL_len ls l [] o h1
  unfold sortF
  rw [foldl_insF_len]
  simpa using this
section
variable {R : Base} {F : List HP} {w : World}
theorem plays_nil {c : Config} {lsv xv : Value} {ls : List (List Call)} {l : List Point} (hP : RLists lsv ls R.h) (hX : RPoints xv l R.h) (hls : listsOk ls) (hl : l.length ≤ 1000000) (hH : Go.Lt.Holds R F w) :
    Ret Tryz.prog 20 [vPlan c lsv, xv] w fun v w' => ∃ p : Option Addr, v = .pointer p ∧ (p.isNone = true ↔ plays c ls l = none) ∧ Go.Lt.Holds R F w' := by
  refine (r27_Plays hP hX hls hl hH).mono fun v w' h => ?_
  cases hp : plays c ls l with
  | none => rw [hp] at h; exact ⟨none, h.1, by simp, h.2⟩
  | some m => rw [hp] at h; obtain ⟨b, h1, h2⟩ := h; exact ⟨_, h1, by simp, h2.drop⟩
theorem left_n {c : Config} {lsv xv : Value} {ls : List (List Call)} {l : List Point} (hP : RLists lsv ls R.h) (hX : RPoints xv l R.h) (hls : listsOk ls) (hl : l.length ≤ 1000000) (hpk : ∀ x ∈ l, x.ret.packets.length ≤ 1000) (hH : Go.Lt.Holds R F w) :
    Ret Tryz.prog 22 [vPlan c lsv, xv] w fun v w' => ∃ ov out, v = .tuple #[ov, .bool (rLeft ls l).isSome] ∧ out = (rLeft ls l).getD [] ∧ Go.Lt.Holds R (Vec 54 3 encP ov out :: F) w' := by
  refine (r27_Left (c := c) hP hX hls hl hpk hH).mono fun v w' h => ?_
  cases hp : rLeft ls l with
  | none => rw [hp] at h; exact ⟨_, [], h.1, rfl, h.2.vnil _ _ _⟩
  | some m => rw [hp] at h; obtain ⟨ov, h1, h2⟩ := h; exact ⟨_, _, h1, rfl, h2⟩
theorem kept_left {c : Config} {ls : List (List Call)} {l : List Point} {me : Mdl} (hls : listsOk ls) (hl : l.length ≤ 10000) (h : plays c ls l = some me) : (rLeft ls l).isSome = true := by
  obtain ⟨hc, hp⟩ := playL_of h
  obtain ⟨inn, h1, -, -⟩ := left_run hls l 0 _ _ _ none me [] (st0 hc) (by omega) hp ⟨fun f => by simp [flt, aget, acc0, pend], by simp⟩
  unfold rLeft
  rw [h1]; rfl
theorem lo_out {c : Config} {ls : List (List Call)} {l : List Point} {me : Mdl} {lo out : List Packet} (hls : listsOk ls) (hl : l.length ≤ 10000) (h : plays c ls l = some me)
    (hso : plays c ls l ≠ none → ∃ K : List Int, K.Perm (akeys (bookOf c ls l).1) ∧ K.Pairwise (· < ·) ∧ lo = K.flatMap (restOf (bookOf c ls l).1)) (hout : out = (rLeft ls l).getD []) : rLeft ls l = some lo ∧ lo = out := by
  obtain ⟨K, hK1, hK2, hK3⟩ := hso (by rw [h]; simp)
  have e := left_eq hls (by omega) h hK1 hK2
  rw [← hK3] at e
  exact ⟨e, by rw [hout, e]; rfl⟩
end
end Go.Proofs.YtkdbglfdgeldpaaGreat
