/- The plain model: flows by rising number, served by the least start; no program in sight. Condition: none. -/
import Derived.Test.YtkdbglfdgeldpaaGreatFlow
set_option linter.unusedVariables false
namespace Go.Proofs.YtkdbglfdgeldpaaGreat
open Go.Lt

abbrev Fs := List (Int × Flw)
structure Sq where
  F : Fs
  v : Int
  most : Int
def Nm (x : Int) : Prop := 0 ≤ x ∧ x ≤ 1048576
def Sq.ok (s : Sq) : Prop := (∀ x ∈ s.F, Nm x.1 ∧ x.2.ok) ∧ U s.v ∧ U s.most ∧ s.F.length ≤ 2147483648
def Sq.at (s : Sq) (id : Int) : Option Nat := s.F.findIdx? (fun x => x.1 == id)
def atI (o : Option Nat) : Int := match o with | some i => i | none => -1
def newFlw (r m : Int) : Flw := ⟨r, min (max m 1) 8, [], 0, 0⟩
def Sq.add (s : Sq) (id r m : Int) : Sq :=
  { s with F := s.F.takeWhile (fun x => x.1 < id) ++ (id, newFlw r m) :: s.F.dropWhile (fun x => x.1 < id) }
def Sq.cut (s : Sq) (i : Nat) : Sq := { s with F := s.F.eraseIdx i }
def Sq.put (s : Sq) (i : Nat) (x : Int × Flw) : Sq := { s with F := s.F.set i x }
def startOf (F : Fs) (i : Nat) : Int := match F[i]? with | some x => x.2.start | none => 0
def bestB (F : Fs) : Nat → Option Nat
  | 0 => none
  | k + 1 => match F[k]? with
    | none => bestB F k
    | some x => if x.2.l.length = 0 then bestB F k else match bestB F k with
      | none => some k
      | some j => if x.2.start < startOf F j then some k else some j
def Sq.serve (s : Sq) : Option Packet × Sq := match bestB s.F s.F.length with
  | none => (none, { s with v := max s.v s.most })
  | some i => match s.F[i]? with
    | none => (none, s)
    | some x => match x.2.l with
      | [] => (none, s)
      | p :: _ => (some p, { F := s.F.set i (x.1, x.2.serve p), v := x.2.start, most := max s.most (x.2.fin p) })

/-- What a close comes to. -/
def Sq.removeE (s : Sq) (id : Int) : Int := match s.at id with
  | none => 5
  | some i => match s.F[i]? with
    | none => 5
    | some x => if x.2.l.length ≠ 0 then 8 else 0
def Sq.removeS (s : Sq) (id : Int) : Sq := match s.at id with
  | none => s
  | some i => match s.F[i]? with
    | none => s
    | some x => if x.2.l.length ≠ 0 then s else s.cut i
theorem Sq.at_spec {s : Sq} {id : Int} {k : Nat} (h : s.at id = some k) : ∃ x, s.F[k]? = some x ∧ x.1 = id := by
  unfold Sq.at at h
  rw [List.findIdx?_eq_some_iff_getElem] at h
  obtain ⟨hlt, he, _⟩ := h
  exact ⟨s.F[k], List.getElem?_eq_getElem hlt, by simpa using he⟩
theorem bestB_lt (F : Fs) : ∀ k i, bestB F k = some i → i < k ∧ ∃ x, F[i]? = some x ∧ x.2.l.length ≠ 0
  | 0, i, h => by simp [bestB] at h
  | k + 1, i, h => by
    unfold bestB at h
    split at h
    ·obtain ⟨h1, h2⟩ := bestB_lt F k i h; exact ⟨by omega, h2⟩
    ·rename_i x hx
     split at h
     ·obtain ⟨h1, h2⟩ := bestB_lt F k i h; exact ⟨by omega, h2⟩
     ·rename_i hne
      split at h
      ·cases h; exact ⟨by omega, x, hx, hne⟩
      ·rename_i j hj
       split at h
       ·cases h; exact ⟨by omega, x, hx, hne⟩
       ·cases h; obtain ⟨h1, h2⟩ := bestB_lt F k i hj; exact ⟨by omega, h2⟩

/-- How many packets a flow has; -1: it is not there. -/
def Sq.lenAt (s : Sq) (id : Int) : Int := match s.at id with
  | none => -1
  | some i => match s.F[i]? with
    | none => -1
    | some x => x.2.l.length
def Sq.rate (s : Sq) (id : Int) : Int := match s.at id with
  | none => 0
  | some i => match s.F[i]? with
    | none => 0
    | some x => x.2.r
structure Mdl where
  c : Config
  s : Sq
  served : Int
def cfgOk (c : Config) : Prop := (1 ≤ c.shards ∧ c.shards ≤ 4) ∧ (1 ≤ c.slots ∧ c.slots ≤ 4) ∧ (1 ≤ c.workers ∧ c.workers ≤ 6) ∧ (0 ≤ c.width ∧ c.width ≤ 40) ∧ 1 ≤ c.unit ∧ c.unit ≤ 4611686018427387904
instance (c : Config) : Decidable (cfgOk c) := by unfold cfgOk; infer_instance
def Mdl.ok (n : Nat) (m : Mdl) : Prop := cfgOk m.c ∧ m.s.ok ∧ m.s.F.length ≤ n ∧ 0 ≤ m.served ∧ m.served ≤ 16 * n
def mkMdl (c : Config) : Mdl := ⟨c, ⟨[], 0, 0⟩, 0⟩
def code (e : Int) : Rt := ⟨e, [], 0, 0⟩
def mates (F : Fs) (sh id : Int) : Int := ((F.filter fun x => x.1 % sh == id % sh).length : Int)
def inverse (unit a : Int) : Int := max (unit / a) 1
def Mdl.register (m : Mdl) (c : Call) : Int × Mdl :=
  if c.flow < 0 ∨ 1048576 < c.flow then (1, m)
  else if c.a < 1 ∨ 65536 < c.a then (4, m)
  else if c.b < 1 ∨ 8 < c.b then (1, m)
  else if (m.s.at c.flow).isSome then (6, m)
  else if m.c.slots ≤ mates m.s.F m.c.shards c.flow then (7, m)
  else (0, { m with s := m.s.add c.flow (inverse m.c.unit c.a) c.b })
def Mdl.close (m : Mdl) (id : Int) : Int × Mdl := match m.s.at id with
  | none => (5, m)
  | some i => match m.s.F[i]? with
    | none => (5, m)
    | some x => if x.2.l.length ≠ 0 then (8, m) else (0, { m with s := m.s.cut i })
def Sq.arrive (s : Sq) (p : Packet) : Int × Sq := match s.at p.flow with
  | none => (5, s)
  | some i => match s.F[i]? with
    | none => (5, s)
    | some x => if (x.2.l.length : Int) = x.2.most then (9, s) else (0, s.put i (x.1, x.2.arrive s.v p))
def Mdl.one (m : Mdl) : Rt × Mdl := match m.s.serve with
  | (none, s) => (code 10, { m with s := s })
  | (some p, s) => (⟨0, [p], 0, 0⟩, { m with s := s, served := m.served + 1 })
def Mdl.many (m : Mdl) : Nat → List Packet → Rt × Mdl
  | 0, l => (⟨0, l, 0, 0⟩, m)
  | k + 1, l => match m.one with
    | (r, m') => if r.e ≠ 0 then (⟨r.e, l ++ r.packets, 0, 0⟩, m') else m'.many k (l ++ r.packets)
def Mdl.batch (m : Mdl) (n : Int) : Rt × Mdl := if n < 1 ∨ 16 < n then (code 1, m) else m.many n.toNat []
def Mdl.do (m : Mdl) (c : Call) : Rt × Mdl :=
  if c.op = 1 then let r := m.register c; (code r.1, r.2)
  else if c.op = 2 then let r := m.close c.flow; (code r.1, r.2)
  else if c.op = 3 then (if c.a < 1 ∨ 65536 < c.a then (code 3, m) else let r := m.s.arrive ⟨c.flow, c.a, c.b⟩; (code r.1, { m with s := r.2 }))
  else if c.op = 4 then m.one
  else if c.op = 5 then m.batch c.a
  else if c.op = 6 then (⟨0, [], m.served, m.s.v⟩, m)
  else (code 2, m)

theorem Flw.serve_ok {f : Flw} (hok : f.ok) {p : Packet} (hp : p.ok) : (f.serve p).ok := by
  have hf := Flw.fin_U hok (p := p)
  unfold Flw.ok at hok ⊢
  unfold Flw.serve
  refine ⟨hok.1, hok.2.1, hok.2.2.1, ?_, hf, hf, fun q hq => hok.2.2.2.2.2.2 q (List.mem_of_mem_drop hq)⟩
  have := hok.2.2.2.1
  simp only [List.length_drop]; omega
theorem Flw.arrive_ok {f : Flw} (hok : f.ok) {v : Int} (hv : U v) {p : Packet} (hp : p.ok) (hl : (f.l.length : Int) ≠ f.most) : (f.arrive v p).ok := by
  unfold Flw.ok at hok ⊢
  unfold Flw.arrive
  refine ⟨hok.1, hok.2.1, hok.2.2.1, by simp only [List.length_append, List.length_singleton]; have := hok.2.2.2.1; omega, ?_, hok.2.2.2.2.2.1, ?_⟩
  ·have := hok.2.2.2.2.2.1; have := hok.2.2.2.2.1
   show U (if _ then _ else _)
   split
   ·show U (max _ _)
    unfold U at *; omega
   ·assumption
  ·intro q hq
   rcases List.mem_append.1 hq with h | h
   ·exact hok.2.2.2.2.2.2 q h
   ·rw [List.mem_singleton.1 h]; exact hp
theorem Sq.serve_ok {s : Sq} (hok : s.ok) : s.serve.2.ok ∧ s.serve.2.F.length = s.F.length ∧ ∀ p, s.serve.1 = some p → p.ok := by
  unfold Sq.serve
  split
  ·refine ⟨⟨hok.1, ?_, hok.2.2.1, hok.2.2.2⟩, rfl, by simp⟩
   have := hok.2.1; have := hok.2.2.1
   show U (max _ _)
   unfold U at *; omega
  ·split
   ·exact ⟨hok, rfl, by simp⟩
   ·rename_i i hi x hx
    split
    ·exact ⟨hok, rfl, by simp⟩
    ·rename_i p l hl
     have hxo := hok.1 x (List.mem_of_getElem? hx)
     have hpo : p.ok := by
       have := hxo.2; unfold Flw.ok at this
       exact this.2.2.2.2.2.2 p (by rw [hl]; simp)
     refine ⟨⟨?_, ?_, ?_, by simpa using hok.2.2.2⟩, by simp, by intro q hq; cases hq; exact hpo⟩
     ·intro y hy
      rcases List.mem_or_eq_of_mem_set hy with h | h
      ·exact hok.1 y h
      ·subst h; exact ⟨hxo.1, Flw.serve_ok hxo.2 hpo⟩
     ·have := hxo.2; unfold Flw.ok at this; exact this.2.2.2.2.1
     ·have := Flw.fin_U hxo.2 (p := p)
      have := hok.2.2.1
      show U (max _ _)
      unfold U at *; omega
theorem Sq.arrive_ok {s : Sq} (hok : s.ok) {p : Packet} (hp : p.ok) : (s.arrive p).2.ok ∧ (s.arrive p).2.F.length = s.F.length := by
  unfold Sq.arrive
  split
  ·exact ⟨hok, rfl⟩
  ·split
   ·exact ⟨hok, rfl⟩
   ·rename_i i hi x hx
    have hxo := hok.1 x (List.mem_of_getElem? hx)
    split
    ·exact ⟨hok, rfl⟩
    ·rename_i hne
     refine ⟨⟨?_, hok.2.1, hok.2.2.1, by simpa [Sq.put] using hok.2.2.2⟩, by simp [Sq.put]⟩
     intro y hy
     rcases List.mem_or_eq_of_mem_set hy with h | h
     ·exact hok.1 y h
     ·subst h; exact ⟨hxo.1, Flw.arrive_ok hxo.2 hok.2.1 hp hne⟩
theorem Sq.add_len (s : Sq) (id r m : Int) : (s.add id r m).F.length = s.F.length + 1 := by
  unfold Sq.add
  have := congrArg List.length (List.takeWhile_append_dropWhile (p := fun x : Int × Flw => decide (x.1 < id)) (l := s.F))
  simp only [List.length_append, List.length_cons] at this ⊢
  omega
theorem newFlw_ok {r m : Int} (hr : U r) : (newFlw r m).ok := by
  unfold Flw.ok newFlw U
  unfold U at hr
  exact ⟨hr, by simp only; omega, by simp only; omega, by simp only [List.length_nil]; omega, by simp, by simp, by simp⟩
theorem Sq.add_ok {s : Sq} (hok : s.ok) {id r m : Int} (hi : Nm id) (hr : U r) (hl : s.F.length < 2147483648) : (s.add id r m).ok := by
  refine ⟨?_, hok.2.1, hok.2.2.1, by rw [Sq.add_len]; omega⟩
  intro x hx
  unfold Sq.add at hx
  rcases List.mem_append.1 hx with h | h
  ·exact hok.1 x ((List.takeWhile_sublist _).subset h)
  ·rcases List.mem_cons.1 h with h | h
   ·subst h; exact ⟨hi, newFlw_ok hr⟩
   ·exact hok.1 x ((List.dropWhile_sublist _).subset h)
theorem Sq.cut_ok {s : Sq} (hok : s.ok) (i : Nat) : (s.cut i).ok ∧ (s.cut i).F.length ≤ s.F.length := by
  have hl : (s.cut i).F.length ≤ s.F.length := (List.eraseIdx_sublist _ _).length_le
  exact ⟨⟨fun x hx => hok.1 x ((List.eraseIdx_sublist _ _).subset hx), hok.2.1, hok.2.2.1, by have := hok.2.2.2; omega⟩, hl⟩
theorem Mdl.one_ok {m : Mdl} (hok : m.s.ok) : m.one.2.s.ok ∧ m.one.2.s.F.length = m.s.F.length ∧ m.one.2.c = m.c ∧ (m.one.2.served = m.served ∨ m.one.2.served = m.served + 1) ∧ (∀ p ∈ m.one.1.packets, p.ok) ∧ m.one.1.packets.length ≤ 1 ∧ m.one.1.n = 0 ∧ m.one.1.v = 0 ∧ (m.one.1.e = 0 ∨ m.one.1.e = 10) := by
  have := Sq.serve_ok hok
  unfold Mdl.one
  split
  ·rename_i s hs
   rw [hs] at this
   exact ⟨this.1, this.2.1, rfl, .inl rfl, by simp [code], by simp [code], rfl, rfl, .inr rfl⟩
  ·rename_i p s hs
   rw [hs] at this
   exact ⟨this.1, this.2.1, rfl, .inr rfl, by simp only [List.mem_singleton]; rintro q rfl; exact this.2.2 q rfl, by simp, rfl, rfl, .inl rfl⟩
theorem Mdl.many_ok : ∀ (k : Nat) (m : Mdl) (l : List Packet), m.s.ok → (∀ p ∈ l, p.ok) → (m.many k l).2.s.ok ∧ (m.many k l).2.s.F.length = m.s.F.length ∧ (m.many k l).2.c = m.c ∧ m.served ≤ (m.many k l).2.served ∧ (m.many k l).2.served ≤ m.served + k ∧ (∀ p ∈ (m.many k l).1.packets, p.ok) ∧ (m.many k l).1.packets.length ≤ l.length + k
    ∧ (m.many k l).1.n = 0 ∧ (m.many k l).1.v = 0 ∧ ((m.many k l).1.e = 0 ∨ (m.many k l).1.e = 10)
  | 0, m, l, hok, hl => ⟨hok, rfl, rfl, by simp [Mdl.many], by simp [Mdl.many], hl, by simp [Mdl.many], rfl, rfl, .inl rfl⟩
  | k + 1, m, l, hok, hl => by
    obtain ⟨h1, h2, h3, h4, h5, h6, h7, h8, h9⟩ := Mdl.one_ok hok
    have hmem : ∀ p ∈ l ++ m.one.1.packets, p.ok := fun p hp => (List.mem_append.1 hp).elim (hl p) (h5 p)
    unfold Mdl.many
    split
    rename_i r m' hm
    rw [hm] at h1 h2 h3 h4 h5 h6 h7 h8 h9 hmem
    simp only at h1 h2 h3 h4 h5 h6 h7 h8 h9 hmem
    split
    ·rename_i hr
     exact ⟨h1, h2, h3, by show m.served ≤ m'.served; omega, by show m'.served ≤ _; omega, hmem, by simp; omega, rfl, rfl, by simpa using h9⟩
    ·obtain ⟨g1, g2, g3, g4, g5, g6, g7, g8, g9, g10⟩ := Mdl.many_ok k m' (l ++ r.packets) h1 hmem
     exact ⟨g1, g2.trans h2, g3.trans h3, by omega, by omega, g6, by simp at g7; omega, g8, g9, g10⟩
theorem inverse_U {u a : Int} (h : 1 ≤ u ∧ u ≤ 4611686018427387904) (ha : 1 ≤ a) : U (inverse u a) := by
  have := Int.ediv_nonneg (a := u) (b := a) (by omega) (by omega)
  have := Int.ediv_le_self (a := u) a (by omega)
  unfold inverse U; omega
theorem Mdl.do_ok {m : Mdl} {n : Nat} (hok : m.ok n) (hn : n ≤ 1000000) {c : Call} (hc : c.ok) : (m.do c).2.ok (n + 1) ∧ (m.do c).1.ok ∧ (m.do c).2.c = m.c := by
  obtain ⟨h1, h2, h3, h4, h5⟩ := hok
  have up : ∀ (s : Sq), s.ok → s.F.length ≤ n + 1 → ({ m with s := s } : Mdl).ok (n + 1) := fun s a b => ⟨h1, a, b, h4, by simp only; omega⟩
  have cok : ∀ e : Int, 0 ≤ e → e ≤ 100 → (code e).ok := fun e a b => ⟨by unfold I; simp only [code]; omega, by unfold I; simp [code], by unfold U; simp [code], by simp [code], by simp [code]⟩
  unfold Mdl.do
  split
  ·show (m.register c).2.ok _ ∧ (code (m.register c).1).ok ∧ (m.register c).2.c = m.c
   unfold Mdl.register
   split
   ·exact ⟨up m.s h2 (by omega), cok _ (by omega) (by omega), rfl⟩
   split
   ·exact ⟨up m.s h2 (by omega), cok _ (by omega) (by omega), rfl⟩
   split
   ·exact ⟨up m.s h2 (by omega), cok _ (by omega) (by omega), rfl⟩
   split
   ·exact ⟨up m.s h2 (by omega), cok _ (by omega) (by omega), rfl⟩
   split
   ·exact ⟨up m.s h2 (by omega), cok _ (by omega) (by omega), rfl⟩
   ·exact ⟨up _ (Sq.add_ok h2 (by unfold Nm; omega) (inverse_U h1.2.2.2.2 (by omega)) (by omega)) (by rw [Sq.add_len]; omega), cok _ (by omega) (by omega), rfl⟩
  split
  ·show (m.close c.flow).2.ok _ ∧ (code (m.close c.flow).1).ok ∧ (m.close c.flow).2.c = m.c
   unfold Mdl.close
   split
   ·exact ⟨up m.s h2 (by omega), cok _ (by omega) (by omega), rfl⟩
   split
   ·exact ⟨up m.s h2 (by omega), cok _ (by omega) (by omega), rfl⟩
   split
   ·exact ⟨up m.s h2 (by omega), cok _ (by omega) (by omega), rfl⟩
   ·rename_i i _ _ _ _ _
    have := Sq.cut_ok h2 i
    exact ⟨up _ this.1 (by omega), cok _ (by omega) (by omega), rfl⟩
  split
  ·split
   ·exact ⟨up m.s h2 (by omega), cok _ (by omega) (by omega), rfl⟩
   ·have := Sq.arrive_ok (p := ⟨c.flow, c.a, c.b⟩) h2 ⟨hc.2.1, hc.2.2.1, hc.2.2.2⟩
    refine ⟨up _ this.1 (by omega), ?_, rfl⟩
    show (code (m.s.arrive _).1).ok
    unfold Sq.arrive
    split
    ·exact cok _ (by omega) (by omega)
    split
    ·exact cok _ (by omega) (by omega)
    split
    ·exact cok _ (by omega) (by omega)
    ·exact cok _ (by omega) (by omega)
  split
  ·obtain ⟨g1, g2, g3, g4, g5, g6, g7, g8, g9⟩ := Mdl.one_ok h2
   exact ⟨⟨by rw [g3]; exact h1, g1, by omega, by omega, by omega⟩, ⟨by unfold I; omega, by unfold I; omega, by unfold U; omega, g5, by omega⟩, g3⟩
  split
  ·unfold Mdl.batch
   split
   ·exact ⟨up m.s h2 (by omega), cok _ (by omega) (by omega), rfl⟩
   ·obtain ⟨g1, g2, g3, g4, g5, g6, g7, g8, g9, g10⟩ := Mdl.many_ok c.a.toNat m [] h2 (by simp)
    simp only [List.length_nil] at g7
    exact ⟨⟨by rw [g3]; exact h1, g1, by omega, by omega, by omega⟩, ⟨by unfold I; omega, by unfold I; omega, by unfold U; omega, g6, by omega⟩, g3⟩
  split
  ·exact ⟨up m.s h2 (by omega), ⟨by unfold I; simp, by unfold I; simp only; omega, h2.2.1, by simp, by simp⟩, rfl⟩
  ·exact ⟨up m.s h2 (by omega), cok _ (by omega) (by omega), rfl⟩
end Go.Proofs.YtkdbglfdgeldpaaGreat
