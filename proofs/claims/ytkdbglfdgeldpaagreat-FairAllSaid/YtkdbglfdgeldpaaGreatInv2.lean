/- The plain law of layer 28, second part: what one playing point does to the model and to the book. Condition: none. -/
import Derived.Test.YtkdbglfdgeldpaaGreatInv
namespace Go.Proofs.YtkdbglfdgeldpaaGreat
open Go.Lt
inductive Knd
  | no
  | rg (f : Int)
  | en (p : Packet)
def kndOf (ls : List (List Call)) (x : Point) : Knd := if reg ls x then .rg (callOf ls x).1.flow else if came ls x then .en ⟨(callOf ls x).1.flow, (callOf ls x).1.a, (callOf ls x).1.b⟩ else .no
inductive Evt (i : Nat) (m : Mdl) (A : As) (s : Int) : Knd → List Packet → Mdl → As → Int → Prop
  | idle : Evt i m A s .no [] m A s
  | reg (f : Int) (w : Flw) (m' : Mdl) : look m.s f = none → w.l = [] → w.finish = 0 → I f → (∀ g, look m'.s g = if g = f then some w else look m.s g) → m'.s.v = m.s.v → m'.s.most = m.s.most →
      Evt i m A s (.rg f) [] m' (aput A f { aget A f with r := w.r }) s
  | close (f : Int) (w : Flw) (m' : Mdl) : look m.s f = some w → w.l = [] → (∀ g, look m'.s g = if g = f then none else look m.s g) → m'.s.v = m.s.v → m'.s.most = m.s.most → Evt i m A s .no [] m' A s
  | enq (f : Int) (w : Flw) (p : Packet) (m' : Mdl) : look m.s f = some w → p.flow = f → (∀ g, look m'.s g = if g = f then some (w.arrive m.s.v p) else look m.s g) → m'.s.v = m.s.v → m'.s.most = m.s.most →
      Evt i m A s (.en p) [] m' (aput A f { aget A f with came := (aget A f).came ++ [⟨p, costOf p.len (aget A f).r, i⟩] }) (satAdd s (costOf p.len (aget A f).r))
  | deq (f : Int) (w : Flw) (p : Packet) (rest : List Packet) (m' : Mdl) : look m.s f = some w → w.l = p :: rest → p.flow = f → (∀ g w', look m.s g = some w' → w'.l ≠ [] → w.start ≤ w'.start) →
      (∀ g, look m'.s g = if g = f then some (w.serve p) else look m.s g) → m'.s.v = w.start → m'.s.most = max m.s.most (w.fin p) → Evt i m A s .no [p] m' (tell i A p) s
  | empty (m' : Mdl) : (∀ g w, look m.s g = some w → w.l = []) → (∀ g, look m'.s g = look m.s g) → m'.s.v = max m.s.v m.s.most → m'.s.most = m.s.most → Evt i m A s .no [] m' A s
theorem callOf_5 {ls : List (List Call)} {x : Point} (h : (callOf ls x).1.op = 5) : x.ret.e = 1 := by
  unfold callOf at h
  split at h
  ·simp at h
  ·split at h
   ·simp at h
   ·split at h
    ·simp at h
    ·split at h
     ·simp at h
     ·rename_i c hc
      by_cases h5 : c.op = 5 ∧ x.ret.e ≠ 1
      ·rw [if_pos h5] at h; simp at h
      ·rw [if_neg h5] at h
       exact Classical.byContradiction fun hne => h5 ⟨h, hne⟩
theorem do_op3 (m : Mdl) (c : Call) (h : c.op = 3) : m.do c = if c.a < 1 ∨ 65536 < c.a then (code 3, m) else (code (m.s.arrive ⟨c.flow, c.a, c.b⟩).1, { m with s := (m.s.arrive ⟨c.flow, c.a, c.b⟩).2 }) := by
  unfold Mdl.do; rw [if_neg (by omega), if_neg (by omega), if_pos h]
theorem do_op0 (m : Mdl) (c : Call) (h : c.op < 1 ∨ 6 < c.op) : m.do c = (code 2, m) := by
  unfold Mdl.do; rw [if_neg (by omega), if_neg (by omega), if_neg (by omega), if_neg (by omega), if_neg (by omega), if_neg (by omega)]
theorem book_no {unit : Int} {ls : List (List Call)} {A : As} {s i : Int} {x : Point} (h : x.ret.e ≠ 0) : bookStep unit ls A s i x = (A, s) := by unfold bookStep; rw [if_pos h]
theorem book_yes {unit : Int} {ls : List (List Call)} {A : As} {s i : Int} {x : Point} (h : x.ret.e = 0) : bookStep unit ls A s i x = (x.ret.packets.foldl (tell i) (bookMid unit ls A s i x).1, (bookMid unit ls A s i x).2) := by unfold bookStep; rw [if_neg (by omega)]
theorem batch_e (m : Mdl) (n : Int) (h : (m.batch n).1.e = 1) : m.batch n = (code 1, m) := by
  unfold Mdl.batch at h ⊢
  split
  ·rfl
  ·rename_i hn
   rw [if_neg hn] at h
   have key : ∀ (k : Nat) (m : Mdl) (l : List Packet), (m.many k l).1.e = 0 ∨ (m.many k l).1.e = 10 := by
     intro k
     induction k with
     | zero => intro m l; exact .inl rfl
     | succ k ih =>
       intro m l
       have h1 : m.one.1.e = 0 ∨ m.one.1.e = 10 := by unfold Mdl.one; split <;> simp [code]
       rw [many_S]
       split
       ·simpa using h1
       ·exact ih _ _
   rcases key n.toNat m [] with h' | h' <;> omega
theorem nil_of_len {α : Type} {l : List α} (h : l.length = 0) : l = [] := List.eq_nil_of_length_eq_zero h
theorem step_evt {ls : List (List Call)} {m : Mdl} {A : As} {s : Int} {i : Nat} {x : Point} {unit : Int} (hinv : m.s.inv) (hcfg : cfgOk m.c) (hu : m.c.unit = unit) (hls : listsOk ls) (hr : (m.do (callOf ls x).1).1 = x.ret) :
    Evt i m A s (kndOf ls x) x.ret.packets (m.do (callOf ls x).1).2 (bookStep unit ls A s i x).1 (bookStep unit ls A s i x).2 := by
  have hsrt := hinv.1
  have hco := callOf_ok hls x
  have h5 := callOf_5 (ls := ls) (x := x)
  have hmidN : (callOf ls x).1.op ≠ 1 → (callOf ls x).1.op ≠ 3 → bookMid unit ls A s i x = (A, s) := fun h1 h3 => by unfold bookMid; rw [if_neg h1, if_neg h3]
  have kno : ((callOf ls x).1.op ≠ 1 ∧ (callOf ls x).1.op ≠ 3) ∨ x.ret.e ≠ 0 → kndOf ls x = .no := fun h => by
    unfold kndOf
    rw [if_neg (by unfold reg; rintro ⟨h1, h2⟩; rcases h with h | h; exact h.1 h1; exact h h2), if_neg (by unfold came; rintro ⟨h1, h2⟩; rcases h with h | h; exact h.2 h1; exact h h2)]
  have krg : (callOf ls x).1.op = 1 → x.ret.e = 0 → kndOf ls x = .rg (callOf ls x).1.flow := fun h1 h2 => by unfold kndOf; rw [if_pos ⟨h1, h2⟩]
  have ken : (callOf ls x).1.op = 3 → x.ret.e = 0 → kndOf ls x = .en ⟨(callOf ls x).1.flow, (callOf ls x).1.a, (callOf ls x).1.b⟩ := fun h1 h2 => by
    unfold kndOf; rw [if_neg (by unfold reg; omega), if_pos ⟨h1, h2⟩]
  generalize hcc : (callOf ls x).1 = cc at *
  by_cases o1 : cc.op = 1
  ·rw [do_op1 m cc o1] at hr ⊢
   have bad : ∀ e : Int, e ≠ 0 → m.register cc = (e, m) → Evt i m A s (kndOf ls x) x.ret.packets (m.register cc).2 (bookStep unit ls A s i x).1 (bookStep unit ls A s i x).2 := fun e he h => by
     rw [h] at hr ⊢
     rw [book_no (by rw [← hr]; exact he), kno (.inr (by rw [← hr]; exact he)), ← hr]; exact .idle
   by_cases c1 : cc.flow < 0 ∨ 1048576 < cc.flow
   ·exact bad 1 (by omega) (by unfold Mdl.register; rw [if_pos c1])
   by_cases c2 : cc.a < 1 ∨ 65536 < cc.a
   ·exact bad 4 (by omega) (by unfold Mdl.register; rw [if_neg c1, if_pos c2])
   by_cases c3 : cc.b < 1 ∨ 8 < cc.b
   ·exact bad 1 (by omega) (by unfold Mdl.register; rw [if_neg c1, if_neg c2, if_pos c3])
   by_cases c4 : (m.s.at cc.flow).isSome = true
   ·exact bad 6 (by omega) (by unfold Mdl.register; rw [if_neg c1, if_neg c2, if_neg c3, if_pos c4])
   by_cases c5 : m.c.slots ≤ mates m.s.F m.c.shards cc.flow
   ·exact bad 7 (by omega) (by unfold Mdl.register; rw [if_neg c1, if_neg c2, if_neg c3, if_neg c4, if_pos c5])
   have hreg : m.register cc = (0, { m with s := m.s.add cc.flow (inverse m.c.unit cc.a) cc.b }) := by unfold Mdl.register; rw [if_neg c1, if_neg c2, if_neg c3, if_neg c4, if_neg c5]
   rw [hreg] at hr ⊢
   have hat : m.s.at cc.flow = none := by simpa using c4
   have hno := at_none_ne hat
   have hiv : invOk unit cc.a := by unfold invOk; unfold cfgOk at hcfg; omega
   have hmid : bookMid unit ls A s i x = (aput A cc.flow { aget A cc.flow with r := inverse unit cc.a }, s) := by unfold bookMid; rw [hcc, if_pos o1, if_pos hiv]
   rw [book_yes (by rw [← hr]; rfl), hmid, krg o1 (by rw [← hr]; rfl), ← hr, ← hu]
   refine Evt.reg cc.flow (newFlw (inverse m.c.unit cc.a) cc.b) _ ((look_none hsrt).2 hat) rfl rfl hco.2.1 (look_ext hsrt (Sq.add_srt hsrt hno) (mem_add hno)) rfl rfl
  by_cases o2 : cc.op = 2
  ·rw [do_op2 m cc o2] at hr ⊢
   have hm0 := hmidN (by omega) (by omega)
   have bad : ∀ e : Int, e ≠ 0 → m.close cc.flow = (e, m) → Evt i m A s (kndOf ls x) x.ret.packets (m.close cc.flow).2 (bookStep unit ls A s i x).1 (bookStep unit ls A s i x).2 := fun e he h => by
     rw [h] at hr ⊢
     rw [book_no (by rw [← hr]; exact he), kno (.inr (by rw [← hr]; exact he)), ← hr]; exact .idle
   cases hat : m.s.at cc.flow with
   | none => exact bad 5 (by omega) (by unfold Mdl.close; rw [hat])
   | some k =>
     obtain ⟨y, hy, hyf⟩ := Sq.at_spec hat
     by_cases hl : y.2.l.length ≠ 0
     ·exact bad 8 (by omega) (by unfold Mdl.close; rw [hat]; simp only [hy]; rw [if_pos hl])
     ·have hcl : m.close cc.flow = (0, { m with s := m.s.cut k }) := by unfold Mdl.close; rw [hat]; simp only [hy]; rw [if_neg hl]
      rw [hcl] at hr ⊢
      rw [book_yes (by rw [← hr]; rfl), hm0, kno (.inl ⟨by omega, by omega⟩), ← hr]
      refine Evt.close cc.flow y.2 _ ((look_mem hsrt).2 (by rw [← hyf]; exact List.mem_of_getElem? hy)) (nil_of_len (by omega)) (fun g => ?_) rfl rfl
      exact look_ext hsrt (Sq.cut_srt hsrt k) (fun f w => by rw [← hyf]; exact mem_cut hsrt hy f w) g
  by_cases o3 : cc.op = 3
  ·rw [do_op3 m cc o3] at hr ⊢
   by_cases c1 : cc.a < 1 ∨ 65536 < cc.a
   ·rw [if_pos c1] at hr ⊢
    rw [book_no (by rw [← hr]; simp [code]), kno (.inr (by rw [← hr]; simp [code])), ← hr]; exact .idle
   rw [if_neg c1] at hr ⊢
   have bad : ∀ e : Int, e ≠ 0 → m.s.arrive ⟨cc.flow, cc.a, cc.b⟩ = (e, m.s) → Evt i m A s (kndOf ls x) x.ret.packets { m with s := (m.s.arrive ⟨cc.flow, cc.a, cc.b⟩).2 } (bookStep unit ls A s i x).1 (bookStep unit ls A s i x).2 := fun e he h => by
     rw [h] at hr ⊢
     rw [book_no (by rw [← hr]; exact he), kno (.inr (by rw [← hr]; exact he)), ← hr]; exact .idle
   cases hat : m.s.at cc.flow with
   | none => exact bad 5 (by omega) (by unfold Sq.arrive; rw [hat])
   | some k =>
     obtain ⟨y, hy, hyf⟩ := Sq.at_spec hat
     by_cases hl : (y.2.l.length : Int) = y.2.most
     ·exact bad 9 (by omega) (by unfold Sq.arrive; rw [hat]; simp only [hy]; rw [if_pos hl])
     ·have har : m.s.arrive ⟨cc.flow, cc.a, cc.b⟩ = (0, m.s.put k (y.1, y.2.arrive m.s.v ⟨cc.flow, cc.a, cc.b⟩)) := by unfold Sq.arrive; rw [hat]; simp only [hy]; rw [if_neg hl]
      rw [har] at hr ⊢
      have hmid : bookMid unit ls A s i x = (aput A cc.flow { aget A cc.flow with came := (aget A cc.flow).came ++ [⟨⟨cc.flow, cc.a, cc.b⟩, costOf cc.a (aget A cc.flow).r, i⟩] }, satAdd s (costOf cc.a (aget A cc.flow).r)) := by
        unfold bookMid; rw [hcc, if_neg o1, if_pos o3]
      rw [book_yes (by rw [← hr]; rfl), hmid, ken o3 (by rw [← hr]; rfl), ← hr]
      refine Evt.enq cc.flow y.2 ⟨cc.flow, cc.a, cc.b⟩ _ ((look_mem hsrt).2 (by rw [← hyf]; exact List.mem_of_getElem? hy)) rfl (fun g => ?_) rfl rfl
      exact look_ext hsrt (Sq.put_srt hsrt hy _) (fun f w => by rw [← hyf]; exact mem_set hsrt hy _ f w) g
  by_cases o4 : cc.op = 4
  ·rw [do_op4 m cc o4] at hr ⊢
   have hm0 := hmidN (by omega) (by omega)
   have hbs := bestB_spec hsrt m.s.F.length (Nat.le_refl _)
   cases hb : bestB m.s.F m.s.F.length with
   | none =>
     have h1 : m.one = (code 10, { m with s := { m.s with v := max m.s.v m.s.most } }) := by unfold Mdl.one; rw [serve_none hb]
     rw [h1] at hr ⊢
     rw [book_no (by rw [← hr]; simp [code]), kno (.inr (by rw [← hr]; simp [code])), ← hr]
     refine Evt.empty _ (fun g w hg => ?_) (fun g => rfl) rfl rfl
     obtain ⟨j, hj⟩ := List.getElem?_of_mem ((look_mem hsrt).1 hg)
     exact nil_of_len (hbs.1 hb j _ (List.getElem?_eq_some_iff.1 hj).1 hj)
   | some k =>
     obtain ⟨y, hy, hyl, hmin⟩ := hbs.2 k hb
     obtain ⟨p, rest, hpl⟩ : ∃ p rest, y.2.l = p :: rest := by
       cases hl : y.2.l with
       | nil => rw [hl] at hyl; simp at hyl
       | cons p rest => exact ⟨p, rest, rfl⟩
     have h1 : m.one = (⟨0, [p], 0, 0⟩, { m with s := { F := m.s.F.set k (y.1, y.2.serve p), v := y.2.start, most := max m.s.most (y.2.fin p) }, served := m.served + 1 }) := by
       unfold Mdl.one; rw [serve_some hb hy hpl]
     have hpf : p.flow = y.1 := hinv.2 y (List.mem_of_getElem? hy) p (by rw [hpl]; simp)
     rw [h1] at hr ⊢
     rw [book_yes (by rw [← hr]), hm0, kno (.inl ⟨by omega, by omega⟩), ← hr]
     refine Evt.deq y.1 y.2 p rest _ ((look_mem hsrt).2 (List.mem_of_getElem? hy)) hpl hpf (fun g w' hg hne => ?_) (fun g => ?_) rfl rfl
     ·obtain ⟨j, hj⟩ := List.getElem?_of_mem ((look_mem hsrt).1 hg)
      have hlt := (List.getElem?_eq_some_iff.1 hj).1
      rcases hmin j _ hlt hj (fun h => hne (nil_of_len h)) with he | ha
      ·have : w' = y.2 := by rw [← he]
       rw [this]; exact Int.le_refl _
      ·unfold aheadP at ha; dsimp only at ha; omega
     ·exact look_ext (s' := ⟨m.s.F.set k (y.1, y.2.serve p), y.2.start, max m.s.most (y.2.fin p)⟩) hsrt (set_srt hsrt hy _) (fun f w => mem_set hsrt hy _ f w) g
  by_cases o5 : cc.op = 5
  ·rw [do_op5 m cc o5] at hr ⊢
   have he := h5 o5
   have hb := batch_e m cc.a (by rw [hr]; exact he)
   rw [hb] at hr ⊢
   rw [book_no (by omega), kno (.inr (by omega)), ← hr]; exact .idle
  by_cases o6 : cc.op = 6
  ·rw [do_op6 m cc o6] at hr ⊢
   rw [book_yes (by rw [← hr]), hmidN o1 o3, kno (.inl ⟨o1, o3⟩), ← hr]
   exact .idle
  ·rw [do_op0 m cc (by omega)] at hr ⊢
   rw [book_no (by rw [← hr]; simp [code]), kno (.inr (by rw [← hr]; simp [code])), ← hr]; exact .idle
end Go.Proofs.YtkdbglfdgeldpaaGreat
