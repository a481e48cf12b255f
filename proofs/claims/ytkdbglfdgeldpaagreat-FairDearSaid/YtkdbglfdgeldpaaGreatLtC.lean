/- The engine, part C: memory as chunks that are apart from each other, over a part that stays as it is. Condition: none. -/
import Derived.Test.YtkdbglfdgeldpaaGreatLtB
namespace Go.Lt

abbrev Hp := Nat → Option Obj
def hp (w : World) : Hp := fun b => w.heap[b]?
abbrev HP := Hp → Prop
def Sub (h k : Hp) : Prop := ∀ b o, h b = some o → k b = some o
def Dis (h k : Hp) : Prop := ∀ b o, h b = some o → k b = none

theorem Sub.refl (h : Hp) : Sub h h := fun _ _ h => h
theorem Sub.trans {a b c : Hp} (h : Sub a b) (k : Sub b c) : Sub a c := fun x o hx => k x o (h x o hx)
theorem Dis.symm {h k : Hp} (d : Dis h k) : Dis k h := fun b o hb => by
  cases hh : h b with
  | none => rfl
  | some x => have := d b x hh; rw [this] at hb; cases hb
theorem Dis.left {h h' k : Hp} (d : Dis h k) (s : Sub h' h) : Dis h' k := fun b o hb => d b o (s b o hb)
theorem Dis.right {h k k' : Hp} (d : Dis h k) (s : Sub k' k) : Dis h k' := (d.symm.left s).symm

/-- One behind the other. -/
def Hp.or (h k : Hp) : Hp := fun b => (h b).or (k b)
theorem Hp.sub_or_left (h k : Hp) : Sub h (h.or k) := fun b o hb => by simp [Hp.or, hb]
theorem Hp.sub_or_right {h k : Hp} (d : Dis h k) : Sub k (h.or k) := fun b o hb => by simp [Hp.or, d.symm b o hb, hb]
theorem Hp.or_sub {h k m : Hp} (s : Sub h m) (t : Sub k m) : Sub (h.or k) m := fun b o hb => by
  simp only [Hp.or] at hb
  cases hh : h b with
  | some x => rw [hh] at hb; simp at hb; subst hb; exact s b x hh
  | none => rw [hh] at hb; simp at hb; exact t b o hb
theorem Hp.dis_or {h k m : Hp} (d : Dis h m) (d2 : Dis k m) : Dis (h.or k) m := fun b o hb => by
  simp only [Hp.or] at hb
  cases hh : h b with
  | some x => exact d b x hh
  | none => rw [hh] at hb; simp at hb; exact d2 b o hb

def Sat : List HP → Hp → Prop
  | [], _ => True
  | p :: L, h => ∃ h1 h2, Dis h1 h2 ∧ Sub h1 h ∧ Sub h2 h ∧ p h1 ∧ Sat L h2

theorem Sat.up : ∀ {L : List HP} {h k : Hp}, Sat L h → Sub h k → Sat L k
  | [], _, _, _, _ => trivial
  | _ :: _, _, _, ⟨h1, h2, d, s1, s2, hp, hs⟩, s => ⟨h1, h2, d, s1.trans s, s2.trans s, hp, hs⟩

theorem Sat.swap {p q : HP} {L : List HP} {h : Hp} (hs : Sat (p :: q :: L) h) : Sat (q :: p :: L) h := by
  obtain ⟨h1, h2, d, s1, s2, hp, h3, h4, d', s3, s4, hq, hL⟩ := hs
  refine ⟨h3, h1.or h4, ?_, s3.trans s2, Hp.or_sub s1 (s4.trans s2), hq, h1, h4, d.right s4, Hp.sub_or_left _ _, Hp.sub_or_right (d.right s4), hp, hL⟩
  exact (Hp.dis_or (d.right s3) d'.symm).symm

theorem Sat.tail {p : HP} {L L' : List HP} {h : Hp} (hk : ∀ h, Sat L h → Sat L' h) (hs : Sat (p :: L) h) : Sat (p :: L') h := by
  obtain ⟨h1, h2, d, s1, s2, hp, hL⟩ := hs
  exact ⟨h1, h2, d, s1, s2, hp, hk _ hL⟩

theorem Sat.pull {p : HP} {B : List HP} : ∀ (A : List HP) {h : Hp}, Sat (A ++ p :: B) h → Sat (p :: (A ++ B)) h
  | [], _, hs => hs
  | _ :: A, _, hs => (Sat.tail (fun _ => Sat.pull A) hs).swap
theorem Sat.push {p : HP} {B : List HP} : ∀ (A : List HP) {h : Hp}, Sat (p :: (A ++ B)) h → Sat (A ++ p :: B) h
  | [], _, hs => hs
  | _ :: A, _, hs => Sat.tail (fun _ => Sat.push A) hs.swap

theorem Sat.append {M : List HP} : ∀ {L : List HP} {h k : Hp}, Sat L h → Sat M k → Dis h k → Sat (L ++ M) (h.or k)
  | [], h, k, _, hm, d => hm.up (Hp.sub_or_right d)
  | p :: L, h, k, ⟨h1, h2, d, s1, s2, hp, hs⟩, hm, dd => by
    have := Sat.append (M := M) hs hm (dd.left s2)
    refine ⟨h1, h2.or k, ?_, s1.trans (Hp.sub_or_left _ _), Hp.or_sub (s2.trans (Hp.sub_or_left _ _)) (Hp.sub_or_right dd), hp, this⟩
    exact (Hp.dis_or d.symm (dd.symm.right s1)).symm

structure Base where
  h : Hp
  os : Os
  tape : Nat → Question → Nat
  output : Array (Nat × ByteArray)

/-- What may not change is as it was; the chunks lie beside it, each apart from the others. -/
structure Holds (R : Base) (L : List HP) (w : World) : Prop where
  os : w.os = R.os
  tape : w.tape = R.tape
  output : w.output = R.output
  ro : Sub R.h (hp w)
  sat : ∃ h, Dis R.h h ∧ Sub h (hp w) ∧ Sat L h

def baseOf (w : World) : Base := ⟨hp w, w.os, w.tape, w.output⟩
theorem holds_start (w : World) : Holds (baseOf w) [] w := ⟨rfl, rfl, rfl, Sub.refl _, fun _ => none, fun _ _ _ => rfl, (fun _ _ h => by cases h), trivial⟩

section
variable {R : Base} {L M : List HP} {w w' : World} {p q : HP}

theorem Holds.map (h : Holds R L w) (hk : ∀ h, Sat L h → Sat M h) : Holds R M w :=
  ⟨h.os, h.tape, h.output, h.ro, let ⟨x, d, s, hs⟩ := h.sat; ⟨x, d, s, hk x hs⟩⟩
theorem Holds.drop (h : Holds R (p :: L) w) : Holds R L w := h.map fun _ ⟨_, _, _, _, s2, _, hs⟩ => hs.up s2
theorem Holds.put (h : Holds R L w) (hp : p (fun _ => none)) : Holds R (p :: L) w := h.map fun x hs => ⟨fun _ => none, x, (fun _ _ h => by cases h), (fun _ _ h => by cases h), Sub.refl _, hp, hs⟩
theorem Holds.weak (h : Holds R (p :: L) w) (hk : ∀ h, p h → q h) : Holds R (q :: L) w := h.map fun _ ⟨h1, h2, d, s1, s2, hp, hs⟩ => ⟨h1, h2, d, s1, s2, hk _ hp, hs⟩
theorem Holds.p1 {a : HP} (h : Holds R (a :: p :: L) w) : Holds R (p :: a :: L) w := h.map fun _ => Sat.pull [a]
theorem Holds.p2 {a b : HP} (h : Holds R (a :: b :: p :: L) w) : Holds R (p :: a :: b :: L) w := h.map fun _ => Sat.pull [a, b]
theorem Holds.p3 {a b c : HP} (h : Holds R (a :: b :: c :: p :: L) w) : Holds R (p :: a :: b :: c :: L) w := h.map fun _ => Sat.pull [a, b, c]
theorem Holds.p4 {a b c d : HP} (h : Holds R (a :: b :: c :: d :: p :: L) w) : Holds R (p :: a :: b :: c :: d :: L) w := h.map fun _ => Sat.pull [a, b, c, d]
theorem Holds.p5 {a b c d e : HP} (h : Holds R (a :: b :: c :: d :: e :: p :: L) w) : Holds R (p :: a :: b :: c :: d :: e :: L) w := h.map fun _ => Sat.pull [a, b, c, d, e]
theorem Holds.p6 {a b c d e f : HP} (h : Holds R (a :: b :: c :: d :: e :: f :: p :: L) w) : Holds R (p :: a :: b :: c :: d :: e :: f :: L) w := h.map fun _ => Sat.pull [a, b, c, d, e, f]
theorem Holds.p7 {a b c d e f g : HP} (h : Holds R (a :: b :: c :: d :: e :: f :: g :: p :: L) w) : Holds R (p :: a :: b :: c :: d :: e :: f :: g :: L) w := h.map fun _ => Sat.pull [a, b, c, d, e, f, g]
theorem Holds.p8 {a b c d e f g i : HP} (h : Holds R (a :: b :: c :: d :: e :: f :: g :: i :: p :: L) w) : Holds R (p :: a :: b :: c :: d :: e :: f :: g :: i :: L) w := h.map fun _ => Sat.pull [a, b, c, d, e, f, g, i]
theorem Holds.p9 {a b c d e f g i j : HP} (h : Holds R (a :: b :: c :: d :: e :: f :: g :: i :: j :: p :: L) w) : Holds R (p :: a :: b :: c :: d :: e :: f :: g :: i :: j :: L) w := h.map fun _ => Sat.pull [a, b, c, d, e, f, g, i, j]

/-- What a chunk holds is in memory. -/
theorem Holds.get (h : Holds R (p :: L) w) : ∃ k, Sub k (hp w) ∧ p k := by
  obtain ⟨x, _, s, h1, h2, _, s1, _, hp, _⟩ := h.sat
  exact ⟨h1, s1.trans s, hp⟩

/-- All that is there counts as what may not change; afterwards it is joined. -/
theorem Holds.merge (h : Holds R L w) (h' : Holds (baseOf w) M w') : Holds R (M ++ L) w' := by
  obtain ⟨x, d, s, hs⟩ := h.sat
  obtain ⟨y, d', s', hs'⟩ := h'.sat
  have dyx : Dis y x := (d'.left s).symm
  refine ⟨h'.os.trans h.os, h'.tape.trans h.tape, h'.output.trans h.output, h.ro.trans h'.ro, y.or x, ?_, Hp.or_sub s' (s.trans h'.ro), hs'.append hs dyx⟩
  exact (Hp.dis_or (d'.left h.ro).symm d.symm).symm

/-- A part of the chunks alone, what else there is counting as what may not change (none of it is written). -/
theorem Holds.heap_same (h : Holds R L w) (hh : w'.heap = w.heap) (h1 : w'.os = w.os) (h2 : w'.tape = w.tape) (h3 : w'.output = w.output) : Holds R L w' := by
  have e : hp w' = hp w := by funext b; simp [hp, hh]
  exact ⟨h1.trans h.os, h2.trans h.tape, h3.trans h.output, e ▸ h.ro, e ▸ h.sat⟩
theorem Holds.drew (h : Holds R L w) {n : Nat} : Holds R L { w with drawn := n } := h.heap_same rfl rfl rfl rfl

theorem drewf {w : World} {b n : Nat} {o : Obj} (h : w.heap[b]? = some o) : ({ w with drawn := n } : World).heap[b]? = some o := h
def pt (b : Nat) (o : Obj) : HP := fun h => h b = some o
/-- A block of cells. -/
def cel (b : Nat) (cs : List Value) (T : TypeId) : HP := pt b (.cells cs.toArray T (0, 0))

theorem Holds.blk {b : Nat} {o : Obj} (h : Holds R (pt b o :: L) w) : w.heap[b]? = some o := by
  obtain ⟨k, s, hk⟩ := h.get
  exact s b o hk
theorem Holds.cell {b : Nat} {cs : List Value} {T : TypeId} (h : Holds R (cel b cs T :: L) w) : w.heap[b]? = some (.cells cs.toArray T (0, 0)) := h.blk
theorem Holds.c0 {x : Nat} {cs : List Value} {T : TypeId} (h : Holds R (cel x cs T :: L) w) : w.heap[x]? = some (.cells cs.toArray T (0, 0)) := h.cell
theorem Holds.c1 {a : HP} {x : Nat} {cs : List Value} {T : TypeId} (h : Holds R (a :: cel x cs T :: L) w) : w.heap[x]? = some (.cells cs.toArray T (0, 0)) := h.p1.cell
theorem Holds.c2 {a b : HP} {x : Nat} {cs : List Value} {T : TypeId} (h : Holds R (a :: b :: cel x cs T :: L) w) : w.heap[x]? = some (.cells cs.toArray T (0, 0)) := h.p2.cell
theorem Holds.c3 {a b c : HP} {x : Nat} {cs : List Value} {T : TypeId} (h : Holds R (a :: b :: c :: cel x cs T :: L) w) : w.heap[x]? = some (.cells cs.toArray T (0, 0)) := h.p3.cell
theorem Holds.c4 {a b c d : HP} {x : Nat} {cs : List Value} {T : TypeId} (h : Holds R (a :: b :: c :: d :: cel x cs T :: L) w) : w.heap[x]? = some (.cells cs.toArray T (0, 0)) := h.p4.cell
theorem Holds.c5 {a b c d e : HP} {x : Nat} {cs : List Value} {T : TypeId} (h : Holds R (a :: b :: c :: d :: e :: cel x cs T :: L) w) : w.heap[x]? = some (.cells cs.toArray T (0, 0)) := h.p5.cell
theorem Holds.c6 {a b c d e f : HP} {x : Nat} {cs : List Value} {T : TypeId} (h : Holds R (a :: b :: c :: d :: e :: f :: cel x cs T :: L) w) : w.heap[x]? = some (.cells cs.toArray T (0, 0)) := h.p6.cell
theorem Holds.c7 {a b c d e f g : HP} {x : Nat} {cs : List Value} {T : TypeId} (h : Holds R (a :: b :: c :: d :: e :: f :: g :: cel x cs T :: L) w) : w.heap[x]? = some (.cells cs.toArray T (0, 0)) := h.p7.cell
theorem Holds.c8 {a b c d e f g i : HP} {x : Nat} {cs : List Value} {T : TypeId} (h : Holds R (a :: b :: c :: d :: e :: f :: g :: i :: cel x cs T :: L) w) : w.heap[x]? = some (.cells cs.toArray T (0, 0)) := h.p8.cell
theorem Holds.c9 {a b c d e f g i j : HP} {x : Nat} {cs : List Value} {T : TypeId} (h : Holds R (a :: b :: c :: d :: e :: f :: g :: i :: j :: cel x cs T :: L) w) : w.heap[x]? = some (.cells cs.toArray T (0, 0)) := h.p9.cell
theorem Holds.old {b : Nat} {o : Obj} (h : Holds R L w) (hb : R.h b = some o) : w.heap[b]? = some o := h.ro b o hb

theorem Holds.alloc (h : Holds R L w) (o : Obj) : Holds R (pt w.heap.size o :: L) { w with heap := w.heap.push o } := by
  obtain ⟨x, d, s, hs⟩ := h.sat
  have hup : Sub (hp w) (hp { w with heap := w.heap.push o }) := fun b c hb => by
    simp only [hp] at hb ⊢
    have hlt : b < w.heap.size := (Array.getElem?_eq_some_iff.1 hb).1
    simp [Array.getElem?_push, Nat.ne_of_lt hlt, hb]
  have hno : ∀ {k : Hp}, Sub k (hp w) → k w.heap.size = none := fun {k} s => by
    cases hh : k w.heap.size with
    | none => rfl
    | some c => have := s _ _ hh; simp [hp] at this
  let nb : Hp := fun b => if b = w.heap.size then some o else none
  have hnb : ∀ {k : Hp}, Sub k (hp w) → Dis nb k := fun {k} s b c hb => by
    simp only [nb] at hb
    split at hb
    · rename_i h; subst h; exact hno s
    · cases hb
  refine ⟨h.os, h.tape, h.output, h.ro.trans hup, nb.or x, ?_, Hp.or_sub (fun b c hb => ?_) (s.trans hup), nb, x, hnb s, Hp.sub_or_left _ _, Hp.sub_or_right (hnb s), by simp [pt, nb], hs⟩
  · exact (Hp.dis_or (hnb h.ro) d.symm).symm
  · simp only [nb] at hb
    split at hb
    · rename_i h; subst h; cases hb; simp [hp]
    · cases hb

theorem Holds.set {b : Nat} {o o' : Obj} (h : Holds R (pt b o :: L) w) (hh : ∀ x, w'.heap[x]? = if x = b then some o' else w.heap[x]?)
    (h1 : w'.os = w.os) (h2 : w'.tape = w.tape) (h3 : w'.output = w.output) : Holds R (pt b o' :: L) w' := by
  obtain ⟨x, d, s, k1, k2, dk, s1, s2, hb, hs⟩ := h.sat
  simp only [pt] at hb
  have hR : R.h b = none := d.symm b o (s1 b o hb)
  have h2b : k2 b = none := dk b o hb
  let k1' : Hp := fun y => if y = b then some o' else k1 y
  have hd : Dis k1' k2 := fun y c hy => by
    simp only [k1'] at hy
    split at hy
    · rename_i e; subst e; exact h2b
    · exact dk y c hy
  have hother : ∀ {k : Hp}, Sub k (hp w) → k b = none → Sub k (hp w') := fun {k} sk kb y c hy => by
    have : y ≠ b := fun e => by subst e; rw [kb] at hy; cases hy
    simp only [hp, hh, this, if_false]
    exact sk y c hy
  refine ⟨h1.trans h.os, h2.trans h.tape, h3.trans h.output, hother h.ro hR, k1'.or k2, ?_, Hp.or_sub (fun y c hy => ?_) (hother (s2.trans s) h2b),
    k1', k2, hd, Hp.sub_or_left _ _, Hp.sub_or_right hd, by simp [pt, k1'], hs⟩
  · refine (Hp.dis_or (fun y c hy => ?_) (d.right s2).symm).symm
    simp only [k1'] at hy
    split at hy
    · rename_i e; subst e; exact hR
    · exact (d.right s1).symm y c hy
  · simp only [k1'] at hy
    simp only [hp, hh]
    split at hy
    · rename_i e; subst e; simp; exact Option.some.inj hy
    · rename_i e; simp only [e, if_false]; exact (s1.trans s) y c hy

theorem heap_setCell (w : World) (b off : Nat) (v : Value) {cs : Array Value} {T : TypeId} {fz : Nat × Nat} (h : w.heap[b]? = some (.cells cs T fz)) (x : Nat) :
    (w.setCell ⟨b, off, none⟩ v).heap[x]? = if x = b then some (.cells (cs.setIfInBounds off v) T fz) else w.heap[x]? := by
  simp only [World.setCell, Array.getElem?_modify]
  by_cases e : x = b
  · subst e; simp [h]
  · have : ¬ b = x := fun h => e h.symm
    simp [e, this]

/-- A cell of a chunk is written. -/
theorem Holds.store {b off : Nat} {cs : List Value} {T : TypeId} (h : Holds R (cel b cs T :: L) w) (v : Value) : Holds R (cel b (cs.set off v) T :: L) (w.setCell ⟨b, off, none⟩ v) := by
  refine Holds.set h (fun x => ?_) rfl rfl rfl
  rw [heap_setCell w b off v h.cell]
  simp

/-! ### Chunks that are made of others -/
def star (p q : HP) : HP := fun h => Sat [p, q] h
def ex {α : Type} (p : α → HP) : HP := fun h => ∃ x, p x h
def is (c : Prop) (p : HP) : HP := fun h => c ∧ p h

theorem Sat.one {h : Hp} (hs : Sat [p] h) : ∃ k, Sub k h ∧ p k := let ⟨h1, _, _, s, _, hp, _⟩ := hs; ⟨h1, s, hp⟩
theorem Holds.open (h : Holds R (star p q :: L) w) : Holds R (p :: q :: L) w := h.map fun _ ⟨h1, h2, d, s1, s2, ⟨k1, k2, d', t1, t2, hp, hq⟩, hs⟩ => by
  obtain ⟨k3, _, _, t3, _, hq, _⟩ := hq
  refine ⟨k1, k3.or h2, ?_, t1.trans s1, Hp.or_sub ((t3.trans t2).trans s1) s2, hp, k3, h2, d.left (t3.trans t2), Hp.sub_or_left _ _, Hp.sub_or_right (d.left (t3.trans t2)), hq, hs⟩
  exact (Hp.dis_or (d'.right t3).symm (d.left t1).symm).symm
theorem Holds.shut (h : Holds R (p :: q :: L) w) : Holds R (star p q :: L) w := h.map fun _ ⟨h1, h2, d, s1, s2, hp, h3, h4, d', s3, s4, hq, hs⟩ => by
  refine ⟨h1.or h3, h4, Hp.dis_or (d.right s4) d', Hp.or_sub s1 (s3.trans s2), s4.trans s2, ⟨h1, h3, d.right s3, Hp.sub_or_left _ _, Hp.sub_or_right (d.right s3), hp, h3, fun _ => none, fun _ _ _ => rfl, Sub.refl _, (fun _ _ h => by cases h), hq, trivial⟩, hs⟩
theorem Holds.open_ex {α : Type} {p : α → HP} (h : Holds R (ex p :: L) w) : ∃ x, Holds R (p x :: L) w := by
  obtain ⟨y, d, s, h1, h2, d', s1, s2, ⟨x, hx⟩, hs⟩ := h.sat
  exact ⟨x, h.os, h.tape, h.output, h.ro, y, d, s, h1, h2, d', s1, s2, hx, hs⟩
theorem Holds.shut_ex {α : Type} {p : α → HP} {x : α} (h : Holds R (p x :: L) w) : Holds R (ex p :: L) w := h.weak fun _ h => ⟨x, h⟩
theorem Holds.open_is {c : Prop} (h : Holds R (is c p :: L) w) : c ∧ Holds R (p :: L) w := by
  obtain ⟨k, _, hc, _⟩ := h.get
  exact ⟨hc, h.weak fun _ h => h.2⟩
theorem Holds.shut_is {c : Prop} (hc : c) (h : Holds R (p :: L) w) : Holds R (is c p :: L) w := h.weak fun _ h => ⟨hc, h⟩

/-- A chunk may count as what may not change for a while: here: what it says is said of all that is there. -/
def Up (p : HP) : Prop := ∀ h k, p h → Sub h k → p k
theorem Holds.ro_of (h : Holds R (p :: L) w) (hu : Up p) : p (hp w) := let ⟨_, s, hk⟩ := h.get; hu _ _ hk s
theorem Up.old {h : Holds R L w} (hu : Up p) (hp : p R.h) : p (Lt.hp w) := hu _ _ hp h.ro

/-- Some of the chunks, in another order. -/
def Pull (p : HP) (L M : List HP) : Prop := ∀ h, Sat L h → Sat (p :: M) h
def Sel (L' L : List HP) : Prop := ∀ h, Sat L h → Sat L' h
theorem Pull.here (p : HP) (L : List HP) : Pull p (p :: L) L := fun _ h => h
theorem Pull.there (a : HP) (h : Pull p L M) : Pull p (a :: L) (a :: M) := fun _ hs => (Sat.tail h hs).swap
theorem Sel.refl (L : List HP) : Sel L L := fun _ h => h
theorem Sel.skip {L' : List HP} (a : HP) (h : Sel L' L) : Sel L' (a :: L) := fun _ ⟨_, _, _, _, s2, _, hs⟩ => h _ (hs.up s2)
theorem Sel.pull {L' : List HP} (h1 : Pull p L M) (h2 : Sel L' M) : Sel (p :: L') L := fun _ hs => Sat.tail h2 (h1 _ hs)
theorem Sel.q0 {L' : List HP} (hs : Sel L' (L)) : Sel (p :: L') (p :: L) := .pull (Pull.here _ _) hs
theorem Sel.q1 {L' : List HP} {a : HP} (hs : Sel L' (a :: L)) : Sel (p :: L') (a :: p :: L) := .pull ((Pull.there _ (Pull.here _ _))) hs
theorem Sel.q2 {L' : List HP} {a b : HP} (hs : Sel L' (a :: b :: L)) : Sel (p :: L') (a :: b :: p :: L) := .pull ((Pull.there _ (Pull.there _ (Pull.here _ _)))) hs
theorem Sel.q3 {L' : List HP} {a b c : HP} (hs : Sel L' (a :: b :: c :: L)) : Sel (p :: L') (a :: b :: c :: p :: L) := .pull ((Pull.there _ (Pull.there _ (Pull.there _ (Pull.here _ _))))) hs
theorem Sel.q4 {L' : List HP} {a b c d : HP} (hs : Sel L' (a :: b :: c :: d :: L)) : Sel (p :: L') (a :: b :: c :: d :: p :: L) := .pull ((Pull.there _ (Pull.there _ (Pull.there _ (Pull.there _ (Pull.here _ _)))))) hs
theorem Sel.q5 {L' : List HP} {a b c d e : HP} (hs : Sel L' (a :: b :: c :: d :: e :: L)) : Sel (p :: L') (a :: b :: c :: d :: e :: p :: L) := .pull ((Pull.there _ (Pull.there _ (Pull.there _ (Pull.there _ (Pull.there _ (Pull.here _ _))))))) hs
theorem Sel.q6 {L' : List HP} {a b c d e f : HP} (hs : Sel L' (a :: b :: c :: d :: e :: f :: L)) : Sel (p :: L') (a :: b :: c :: d :: e :: f :: p :: L) := .pull ((Pull.there _ (Pull.there _ (Pull.there _ (Pull.there _ (Pull.there _ (Pull.there _ (Pull.here _ _)))))))) hs
theorem Sel.q7 {L' : List HP} {a b c d e f g : HP} (hs : Sel L' (a :: b :: c :: d :: e :: f :: g :: L)) : Sel (p :: L') (a :: b :: c :: d :: e :: f :: g :: p :: L) := .pull ((Pull.there _ (Pull.there _ (Pull.there _ (Pull.there _ (Pull.there _ (Pull.there _ (Pull.there _ (Pull.here _ _))))))))) hs
theorem Sel.q8 {L' : List HP} {a b c d e f g h : HP} (hs : Sel L' (a :: b :: c :: d :: e :: f :: g :: h :: L)) : Sel (p :: L') (a :: b :: c :: d :: e :: f :: g :: h :: p :: L) := .pull ((Pull.there _ (Pull.there _ (Pull.there _ (Pull.there _ (Pull.there _ (Pull.there _ (Pull.there _ (Pull.there _ (Pull.here _ _)))))))))) hs
theorem Sel.q9 {L' : List HP} {a b c d e f g h i : HP} (hs : Sel L' (a :: b :: c :: d :: e :: f :: g :: h :: i :: L)) : Sel (p :: L') (a :: b :: c :: d :: e :: f :: g :: h :: i :: p :: L) := .pull ((Pull.there _ (Pull.there _ (Pull.there _ (Pull.there _ (Pull.there _ (Pull.there _ (Pull.there _ (Pull.there _ (Pull.there _ (Pull.here _ _))))))))))) hs
theorem Sel.q10 {L' : List HP} {a b c d e f g h i j : HP} (hs : Sel L' (a :: b :: c :: d :: e :: f :: g :: h :: i :: j :: L)) : Sel (p :: L') (a :: b :: c :: d :: e :: f :: g :: h :: i :: j :: p :: L) := .pull ((Pull.there _ (Pull.there _ (Pull.there _ (Pull.there _ (Pull.there _ (Pull.there _ (Pull.there _ (Pull.there _ (Pull.there _ (Pull.there _ (Pull.here _ _)))))))))))) hs
theorem Sel.q11 {L' : List HP} {a b c d e f g h i j k : HP} (hs : Sel L' (a :: b :: c :: d :: e :: f :: g :: h :: i :: j :: k :: L)) : Sel (p :: L') (a :: b :: c :: d :: e :: f :: g :: h :: i :: j :: k :: p :: L) := .pull ((Pull.there _ (Pull.there _ (Pull.there _ (Pull.there _ (Pull.there _ (Pull.there _ (Pull.there _ (Pull.there _ (Pull.there _ (Pull.there _ (Pull.there _ (Pull.here _ _))))))))))))) hs
theorem Sel.q12 {L' : List HP} {a b c d e f g h i j k l : HP} (hs : Sel L' (a :: b :: c :: d :: e :: f :: g :: h :: i :: j :: k :: l :: L)) : Sel (p :: L') (a :: b :: c :: d :: e :: f :: g :: h :: i :: j :: k :: l :: p :: L) := .pull ((Pull.there _ (Pull.there _ (Pull.there _ (Pull.there _ (Pull.there _ (Pull.there _ (Pull.there _ (Pull.there _ (Pull.there _ (Pull.there _ (Pull.there _ (Pull.there _ (Pull.here _ _)))))))))))))) hs
theorem Sel.trans {A B C : List HP} (h : Sel A B) (k : Sel B C) : Sel A C := fun x hx => h x (k x hx)
theorem Holds.sel {L' : List HP} (h : Holds R L w) (hs : Sel L' L) : Holds R L' w := h.map hs

/-! ### Many chunks as one -/
theorem Sat.perm {L L' : List HP} (h : L.Perm L') : ∀ {x : Hp}, Sat L x → Sat L' x := by
  induction h with
  | nil => exact fun h => h
  | cons p _ ih => exact fun h => Sat.tail (fun _ => ih) h
  | swap p q L => exact fun h => h.swap
  | trans _ _ ih1 ih2 => exact fun h => ih2 (ih1 h)
def All (L : List HP) : HP := fun h => Sat L h
theorem sat_all {L : List HP} {F : List HP} {h : Hp} (hs : Sat (All L :: F) h) : Sat (L ++ F) h := by
  obtain ⟨h1, h2, d, s1, s2, ha, hf⟩ := hs
  exact (Sat.append ha hf d).up (Hp.or_sub s1 s2)
theorem all_sat {F : List HP} : ∀ {L : List HP} {h : Hp}, Sat (L ++ F) h → Sat (All L :: F) h
  | [], h, hs => ⟨fun _ => none, h, (fun _ _ h => by cases h), (fun _ _ h => by cases h), Sub.refl _, trivial, hs⟩
  | p :: L, h, hs => by
    obtain ⟨h1, h2, d, s1, s2, hp', ht⟩ := hs
    obtain ⟨k1, k2, d', t1, t2, ha, hf⟩ := all_sat (L := L) ht
    refine ⟨h1.or k1, k2, Hp.dis_or (d.right t2) d', Hp.or_sub s1 (t1.trans s2), t2.trans s2, ?_, hf⟩
    exact ⟨h1, k1, d.right t1, Hp.sub_or_left _ _, Hp.sub_or_right (d.right t1), hp', ha⟩
theorem Holds.all_open {A : List HP} (h : Holds R (All A :: L) w) : Holds R (A ++ L) w := h.map fun _ => sat_all
theorem Holds.all_shut {A : List HP} (h : Holds R (A ++ L) w) : Holds R (All A :: L) w := h.map fun _ => all_sat
theorem Holds.all_perm {A B : List HP} (h : Holds R (All A :: L) w) (hp' : A.Perm B) : Holds R (All B :: L) w :=
  h.weak fun _ hs => Sat.perm hp' hs
theorem Holds.all_cons {A : List HP} (h : Holds R (p :: All A :: L) w) : Holds R (All (p :: A) :: L) w := h.map fun _ hs =>
  all_sat (L := p :: A) (Sat.tail (fun _ => sat_all) hs)
theorem Holds.all_uncons {A : List HP} (h : Holds R (All (p :: A) :: L) w) : Holds R (p :: All A :: L) w := h.map fun _ hs =>
  Sat.tail (fun _ => all_sat) (sat_all (L := p :: A) hs)
theorem Holds.all_nil (h : Holds R L w) : Holds R (All [] :: L) w := h.put trivial
theorem perm_take {α : Type} {A : List α} {i : Nat} {x : α} (hi : A[i]? = some x) : A.Perm (x :: A.eraseIdx i) := by
  obtain ⟨hlt, he⟩ := List.getElem?_eq_some_iff.1 hi
  subst he
  rw [List.eraseIdx_eq_take_drop_succ]
  have e : A = A.take i ++ A[i] :: A.drop (i + 1) := by
    rw [← List.drop_eq_getElem_cons hlt, List.take_append_drop]
  conv => lhs; rw [e]
  exact List.perm_middle
theorem perm_give {α : Type} {A : List α} {i : Nat} (x : α) (hi : i < A.length) : (x :: A.eraseIdx i).Perm (A.set i x) := by
  rw [List.eraseIdx_eq_take_drop_succ, List.set_eq_take_append_cons_drop, if_pos hi]
  exact List.perm_middle.symm
theorem Holds.all_take {A : List HP} {i : Nat} (h : Holds R (All A :: L) w) (hi : A[i]? = some p) : Holds R (p :: All (A.eraseIdx i) :: L) w := (h.all_perm (perm_take hi)).all_uncons
theorem Holds.all_give {A : List HP} {i : Nat} (h : Holds R (p :: All (A.eraseIdx i) :: L) w) (hi : i < A.length) : Holds R (All (A.set i p) :: L) w := h.all_cons.all_perm (perm_give p hi)
theorem Holds.all_put {A B : List HP} (h : Holds R (p :: All (A ++ B) :: L) w) : Holds R (All (A ++ p :: B) :: L) w := h.all_cons.all_perm List.perm_middle.symm
/-- What one of them says, of all that is there. -/
theorem Holds.all_rd {A : List HP} {i : Nat} (h : Holds R (All A :: L) w) (hi : A[i]? = some p) (hu : Up p) : p (hp w) := (h.all_take hi).ro_of hu
end
end Go.Lt
