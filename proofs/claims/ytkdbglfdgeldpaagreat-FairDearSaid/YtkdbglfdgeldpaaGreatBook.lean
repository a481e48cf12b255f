/- The book of package fair: accounts. Condition: few points. -/
import Derived.Test.YtkdbglfdgeldpaaGreatR27
namespace Go.Proofs.YtkdbglfdgeldpaaGreat
open Go.Lt
structure Parcel where
  p : Packet
  cost : Int
  pt : Int
structure Acc where
  r : Int
  came : List Parcel
  left : List Int
  wrong : Bool
def acc0 : Acc := ⟨0, [], [], false⟩
abbrev As := List (Int × Acc)
def aget (A : As) (id : Int) : Acc := ((A.find? fun p => p.1 == id).map (·.2)).getD acc0
def aput : As → Int → Acc → As
  | [], k, v => [(k, v)]
  | p :: l, k, v => if p.1 = k then (k, v) :: l else p :: aput l k v
def encPc (q : Parcel) : List Value := [.int .i64 q.p.flow, .int .i64 q.p.len, .int .i64 q.p.mark, .int .u64 q.cost, .int .i64 q.pt]
theorem hkPc (x : Parcel) : (encPc x).length = 5 := rfl
abbrev QA := List (Int × Acc × Value × Value)
def vAcc (a : Acc) (cv lsv : Value) : Value := .agg #[.int .u64 a.r, cv, lsv, .bool a.wrong]
def akv (q : Int × Acc × Value × Value) : Int × Value := (q.1, vAcc q.2.1 q.2.2.1 q.2.2.2)
def ach (q : Int × Acc × Value × Value) : HP := star (Vec 108 5 encPc q.2.2.1 q.2.1.came) (Vec 3 1 encI q.2.2.2 q.2.1.left)
def aof (q : Int × Acc × Value × Value) : Int × Acc := (q.1, q.2.1)
def AccsC (mb : Nat) (A : As) : HP := ex fun Q : QA => is (Q.map aof = A) (All [MapC mb (Q.map akv), All (Q.map ach)])
theorem aput_new {A : As} {k : Int} {v : Acc} (h : ∀ p ∈ A, p.1 ≠ k) : aput A k v = A ++ [(k, v)] := by
  induction A with
  | nil => rfl
  | cons p l ih => simp only [aput, if_neg (h p (List.mem_cons_self ..)), ih fun q hq => h q (List.mem_cons_of_mem _ hq), List.cons_append]
theorem aput_at : ∀ {l : As} {j : Nat} {k : Int} {u v : Acc}, (l.map Prod.fst).Nodup → l[j]? = some (k, u) → aput l k v = l.set j (k, v)
  | p :: l, 0, k, u, v, _, h => by simp at h; subst h; simp [aput]
  | p :: l, j + 1, k, u, v, hn, h => by
    simp only [List.map_cons, List.nodup_cons] at hn
    have h' : l[j]? = some (k, u) := by simpa using h
    have : p.1 ≠ k := fun e => hn.1 (List.mem_map.2 ⟨(k, u), List.mem_of_getElem? h', e.symm⟩)
    simp [aput, this, aput_at hn.2 h']
theorem aget_none {A : As} {k : Int} (h : ∀ p ∈ A, p.1 ≠ k) : aget A k = acc0 := by
  have : A.find? (fun p => p.1 == k) = none := by simp only [List.find?_eq_none, beq_iff_eq]; exact h
  simp [aget, this]
theorem aget_mem : ∀ {l : As} {k : Int} {v : Acc}, (l.map Prod.fst).Nodup → (k, v) ∈ l → aget l k = v
  | p :: l, k, v, hn, h => by
    simp only [List.map_cons, List.nodup_cons] at hn
    rcases List.mem_cons.1 h with h | h
    ·subst h; simp [aget]
    ·have : p.1 ≠ k := fun e => hn.1 (List.mem_map.2 ⟨(k, v), h, e.symm⟩)
     have ih := aget_mem hn.2 h
     simpa [aget, this] using ih
def wrongAt (f : Acc) (i : Int) (p : Packet) : Bool := match f.came[f.left.length]? with
  | none => true
  | some q => decide (q.p ≠ p) || decide (q.pt ≥ i)
def tell (i : Int) (A : As) (p : Packet) : As := aput A p.flow { aget A p.flow with wrong := (aget A p.flow).wrong || wrongAt (aget A p.flow) i p, left := (aget A p.flow).left ++ [i] }
def bookMid (unit : Int) (ls : List (List Call)) (A : As) (sum i : Int) (x : Point) : As × Int :=
  if (callOf ls x).1.op = 1 then (aput A (callOf ls x).1.flow { aget A (callOf ls x).1.flow with r := if invOk unit (callOf ls x).1.a then inverse unit (callOf ls x).1.a else 0 }, sum)
  else if (callOf ls x).1.op = 3 then (aput A (callOf ls x).1.flow { aget A (callOf ls x).1.flow with came := (aget A (callOf ls x).1.flow).came ++ [⟨⟨(callOf ls x).1.flow, (callOf ls x).1.a, (callOf ls x).1.b⟩, costOf (callOf ls x).1.a (aget A (callOf ls x).1.flow).r, i⟩] }, satAdd sum (costOf (callOf ls x).1.a (aget A (callOf ls x).1.flow).r))
  else (A, sum)
def bookStep (unit : Int) (ls : List (List Call)) (A : As) (sum i : Int) (x : Point) : As × Int :=
  if x.ret.e ≠ 0 then (A, sum) else (x.ret.packets.foldl (tell i) (bookMid unit ls A sum i x).1, (bookMid unit ls A sum i x).2)
def accOk (n : Nat) (a : Acc) : Prop := a.came.length ≤ n ∧ a.left.length ≤ n ∧ U a.r
def aOk (n : Nat) (A : As) : Prop := ∀ q ∈ A, accOk n q.2
theorem acc0_ok (n : Nat) : accOk n acc0 := ⟨by simp [acc0], by simp [acc0], by unfold U; simp [acc0]⟩
theorem accOk.up {n m : Nat} {a : Acc} (h : accOk n a) (hm : n ≤ m) : accOk m a := ⟨by have := h.1; omega, by have := h.2.1; omega, h.2.2⟩
theorem aOk.up {n m : Nat} {A : As} (h : aOk n A) (hm : n ≤ m) : aOk m A := fun q hq => (h q hq).up hm
theorem aget_ok {n : Nat} {A : As} (h : aOk n A) (id : Int) : accOk n (aget A id) := by
  unfold aget
  cases hf : A.find? (fun p => p.1 == id) with
  | none => exact acc0_ok n
  | some q => exact h q (List.mem_of_find?_eq_some hf)
theorem aput_ok {n : Nat} {A : As} (h : aOk n A) {id : Int} {a : Acc} (ha : accOk n a) : aOk n (aput A id a) := by
  induction A with
  | nil => intro q hq; rw [List.mem_singleton.1 hq]; exact ha
  | cons p l ih =>
    have h1 := h p (List.mem_cons_self ..)
    have h2 : aOk n l := fun q hq => h q (List.mem_cons_of_mem _ hq)
    unfold aput
    split
    ·intro q hq
     rcases List.mem_cons.1 hq with rfl | hq
     ·exact ha
     ·exact h2 q hq
    ·intro q hq
     rcases List.mem_cons.1 hq with rfl | hq
     ·exact h1
     ·exact ih h2 q hq
theorem tell_ok {n : Nat} {A : As} (h : aOk n A) (i : Int) (p : Packet) : aOk (n + 1) (tell i A p) := by
  have hg := aget_ok h p.flow
  unfold tell
  exact aput_ok (h.up (by omega)) ⟨by have := hg.1; simp only; omega, by have := hg.2.1; simp only [List.length_append, List.length_singleton]; omega, hg.2.2⟩
theorem inv_U (unit a : Int) : U (if invOk unit a then inverse unit a else 0) := by
  split
  ·rename_i h; unfold invOk at h; exact inverse_U ⟨h.1, h.2.1⟩ h.2.2.1
  ·unfold U; omega
theorem costOf_U {a r : Int} (ha : I a) (hr : U r) : U (costOf a r) := satMul_U (by unfold U; unfold I at ha; omega) hr
theorem bookMid_ok {n : Nat} {A : As} {sum : Int} {unit : Int} {ls : List (List Call)} (hls : listsOk ls) (h : aOk n A) (hs : U sum) (i : Int) (x : Point) : aOk (n + 1) (bookMid unit ls A sum i x).1 ∧ U (bookMid unit ls A sum i x).2 := by
  have hg := aget_ok h (callOf ls x).1.flow
  have hc := (callOf_ok hls x).2.2.1
  unfold bookMid
  split
  ·exact ⟨aput_ok (h.up (by omega)) ⟨by have := hg.1; simp only; omega, by have := hg.2.1; simp only; omega, inv_U _ _⟩, hs⟩
  ·split
   ·exact ⟨aput_ok (h.up (by omega)) ⟨by have := hg.1; simp only [List.length_append, List.length_singleton]; omega, by have := hg.2.1; simp only; omega, hg.2.2⟩, satAdd_U hs (costOf_U hc hg.2.2)⟩
   ·exact ⟨h.up (by omega), hs⟩
section
variable {R : Base} {F : List HP} {w : World}
theorem AccsC.op {mb : Nat} {A : As} (h : Holds R (AccsC mb A :: F) w) : ∃ Q : QA, Q.map aof = A ∧ ((Q.map akv).map Prod.fst).Nodup ∧ Holds R (MapC mb (Q.map akv) :: All (Q.map ach) :: F) w := by
  obtain ⟨Q, h⟩ := h.open_ex
  obtain ⟨hl, h⟩ := h.open_is
  replace h := h.all_open
  exact ⟨Q, hl, h.mnodup, h⟩
theorem AccsC.mk {mb : Nat} {Q : QA} (h : Holds R (MapC mb (Q.map akv) :: All (Q.map ach) :: F) w) : Holds R (AccsC mb (Q.map aof) :: F) w :=
  (Holds.shut_is rfl (Holds.all_shut (A := [MapC mb (Q.map akv), All (Q.map ach)]) h)).shut_ex (p := fun Q' : QA => is (Q'.map aof = Q.map aof) (All [MapC mb (Q'.map akv), All (Q'.map ach)]))
/-- One account is taken out, whether it is there or not; and put back. -/
theorem AccsC.take {mb : Nat} {A : As} (id : Int) (h : Holds R (AccsC mb A :: F) w) : ∃ (l : List (Int × Value)) (cv lsv : Value) (rest : HP), (mget l id).getD (vAcc acc0 (.slice none 0 0) (.slice none 0 0)) = vAcc (aget A id) cv lsv ∧
    Holds R (MapC mb l :: Vec 108 5 encPc cv (aget A id).came :: Vec 3 1 encI lsv (aget A id).left :: rest :: F) w ∧
    (∀ (F' : List HP) (w' : World), Holds R (MapC mb l :: Vec 108 5 encPc cv (aget A id).came :: Vec 3 1 encI lsv (aget A id).left :: rest :: F') w' → Holds R (AccsC mb A :: F') w') ∧
    (∀ (a : Acc) (cv' lsv' : Value) (F' : List HP) (w' : World), Holds R (MapC mb (mput l id (vAcc a cv' lsv')) :: Vec 108 5 encPc cv' a.came :: Vec 3 1 encI lsv' a.left :: rest :: F') w' → Holds R (AccsC mb (aput A id a) :: F') w') := by
  obtain ⟨Q, rfl, hn, h⟩ := AccsC.op h
  have hkk : (Q.map akv).map Prod.fst = (Q.map aof).map Prod.fst := by simp [List.map_map, Function.comp_def, akv, aof]
  by_cases hex : ∃ q ∈ Q, q.1 = id
  ·obtain ⟨q, hq, hid⟩ := hex
   obtain ⟨j, hj⟩ := List.getElem?_of_mem hq
   obtain ⟨k, a, cv, lsv⟩ := q
   simp only at hid; subst hid
   have hja : (Q.map aof)[j]? = some (k, a) := by rw [List.getElem?_map, hj]; rfl
   have hjk : (Q.map akv)[j]? = some (k, vAcc a cv lsv) := by rw [List.getElem?_map, hj]; rfl
   have hjc : (Q.map ach)[j]? = some (ach (k, a, cv, lsv)) := by rw [List.getElem?_map, hj]; rfl
   have hget : aget (Q.map aof) k = a := aget_mem (by rw [← hkk]; exact hn) (List.mem_of_getElem? hja)
   rw [hget]
   refine ⟨Q.map akv, cv, lsv, All ((Q.map ach).eraseIdx j), by rw [mget_mem hn (List.mem_of_getElem? hjk)]; rfl, ?_, ?_, ?_⟩
   ·exact ((h.p1.all_take hjc).open).p3
   ·intro F' w' h'
    refine AccsC.mk (Holds.p1 (Holds.all_perm (Holds.all_cons ?_) (perm_take hjc).symm))
    refine Holds.shut ?_
    exact (h'.p3.p3.p3)
   ·intro a' cv' lsv' F' w' h'
    rw [mput_at hn hjk] at h'
    rw [aput_at (by rw [← hkk]; exact hn) hja, show (k, a') = aof (k, a', cv', lsv') from rfl, ← List.map_set]
    refine AccsC.mk ?_
    rw [List.map_set, List.map_set]
    refine Holds.p1 (Holds.all_give (Holds.shut (p := Vec 108 5 encPc cv' a'.came) (q := Vec 3 1 encI lsv' a'.left) h'.p3.p3.p3) (by have := (List.getElem?_eq_some_iff.1 hjc).1; exact this))
  ·have hno : ∀ q ∈ Q, q.1 ≠ id := fun q hq he => hex ⟨q, hq, he⟩
   have hnk : ∀ p ∈ Q.map akv, p.1 ≠ id := fun p hp2 => by obtain ⟨q, hq, rfl⟩ := List.mem_map.1 hp2; exact hno q hq
   have hna : ∀ p ∈ Q.map aof, p.1 ≠ id := fun p hp2 => by obtain ⟨q, hq, rfl⟩ := List.mem_map.1 hp2; exact hno q hq
   rw [aget_none hna]
   refine ⟨Q.map akv, .slice none 0 0, .slice none 0 0, All (Q.map ach), by rw [mget_none hnk]; rfl, ?_, ?_, ?_⟩
   ·exact (Holds.vnil _ _ _ (Holds.vnil _ _ _ h.p1)).p3 |>.p1 |> fun h => by first | exact h | exact h.p1 | exact h.p2 | exact h.p3
   ·intro F' w' h'
    exact AccsC.mk (h'.p3.p3.p3.drop.drop |>.p1)
   ·intro a' cv' lsv' F' w' h'
    rw [mput_new hnk] at h'
    rw [aput_new hna, show [(id, a')] = [(id, a', cv', lsv')].map aof from rfl, ← List.map_append]
    refine AccsC.mk ?_
    rw [List.map_append, List.map_append]
    refine Holds.p1 (Holds.all_perm (A := ach (id, a', cv', lsv') :: Q.map ach) (Holds.all_cons (Holds.shut ?_)) (by simpa using (List.perm_append_comm (l₁ := [ach (id, a', cv', lsv')]))))
    exact h'.p3.p3.p3
end
end Go.Proofs.YtkdbglfdgeldpaaGreat
