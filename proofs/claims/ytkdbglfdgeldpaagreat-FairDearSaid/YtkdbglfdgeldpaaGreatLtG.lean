/- Structs of ints held against each other. Condition: their fields are ints, one cell each. -/
import Derived.Test.YtkdbglfdgeldpaaGreatLtF
import Derived.Laws.StructEq
namespace Go.Lt

def fintL (P : Program) : Nat → List Field → Option (List IntKind)
  | _, [] => some []
  | i, f :: fs => if f.name ≠ "_" ∧ f.offset = i then match P.underlying f.type with
      | some (.int k) => match fintL P (i + 1) fs with
        | some ks => some (k :: ks)
        | none => none
      | _ => none
    else none
def fint (P : Program) (T : Nat) : Option (List IntKind) :=
  if P.stoodInHeld T = false ∧ P.eqGuardType P.depth T = false then match P.underlying T with
    | some (.struct fs) => fintL P 0 fs.toList
    | _ => none
  else none
def intsOf : List IntKind → List Value → Option (List Int)
  | [], [] => some []
  | k :: ks, .int k' a :: vs => match decEq k' k, intsOf ks vs with
    | .isTrue _, some as => some (a :: as)
    | _, _ => none
  | _, _ => none

section
variable {P : Program} {w : World} {e : Env} {ty : TypeId}
theorem run_eqFields (d : Nat) (xs ys : Array Value) : ∀ (fs : List Field) (i : Nat) (ks : List IntKind) (as bs : List Int), fintL P i fs = some ks → intsOf ks (xs.toList.drop i) = some as → intsOf ks (ys.toList.drop i) = some bs →
    (Op.eqFields (d + 1) xs ys fs).run P w = .ok (decide (as = bs)) w
  | [], i, ks, as, bs, h, ha, hb => by
    simp only [fintL, Option.some.injEq] at h
    subst h
    have ha' : as = [] := by
      cases hx : xs.toList.drop i with
      | nil => rw [hx] at ha; simpa [intsOf] using ha.symm
      | cons v vs => rw [hx] at ha; simp [intsOf] at ha
    have hb' : bs = [] := by
      cases hx : ys.toList.drop i with
      | nil => rw [hx] at hb; simpa [intsOf] using hb.symm
      | cons v vs => rw [hx] at hb; simp [intsOf] at hb
    subst ha' hb'
    simp [Op.eqFields]
  | f :: fs, i, ks, as, bs, h, ha, hb => by
    unfold fintL at h
    split at h <;> try (cases h; done)
    rename_i hf
    split at h <;> try (cases h; done)
    rename_i k hk
    split at h <;> try (cases h; done)
    rename_i ks' hks
    cases h
    have one : ∀ (zs : Array Value) (cs : List Int), intsOf (k :: ks') (zs.toList.drop i) = some cs → ∃ a as', cs = a :: as' ∧ zs[i]? = some (.int k a) ∧ intsOf ks' (zs.toList.drop (i + 1)) = some as' := by
      intro zs cs hc
      cases hx : zs.toList.drop i with
      | nil => rw [hx] at hc; simp [intsOf] at hc
      | cons v vs =>
        rw [hx] at hc
        cases v <;> simp only [intsOf] at hc <;> try (cases hc; done)
        rename_i k' a
        split at hc <;> try (cases hc; done)
        rename_i hkk as' h1 h2
        cases hc
        subst hkk
        have h0 : zs.toList[i]? = some (.int k' a) := by
          have := congrArg List.head? hx
          simpa [List.head?_drop] using this
        refine ⟨a, as', rfl, by simpa using h0, ?_⟩
        have : zs.toList.drop (i + 1) = vs := by rw [← List.tail_drop, hx]; rfl
        rw [this]; exact h2
    obtain ⟨a, as', rfl, hxa, ha'⟩ := one xs as ha
    obtain ⟨b, bs', rfl, hyb, hb'⟩ := one ys bs hb
    have hag : (isAgg f.type).run P w = .ok false w := by simp [isAgg, run_underlying hk]
    have ih := run_eqFields d xs ys fs (i + 1) ks' as' bs' hks ha' hb'
    simp only [Op.eqFields, ne_eq, hf.1, not_false_eq_true, if_true, part, hf.2, Sem.run_bind, hag, Result.andThen_ok, Bool.false_eq_true, if_false, hxa, hyb, Sem.run_pure, run_equalIn_int w d f.type k k a b hk, Sem.run_ite]
    by_cases hab : a = b
    · subst hab
      simp [ih]
    · simp [hab]
theorem fint_spec {T : Nat} {ks : List IntKind} (h : fint P T = some ks) : P.stoodInHeld T = false ∧ P.eqGuardType P.depth T = false ∧ P.underlying T = some (.struct (P.fieldsOf T)) ∧ fintL P 0 (P.fieldsOf T).toList = some ks := by
  unfold fint at h
  split at h <;> try (cases h; done)
  rename_i h1
  split at h <;> try (cases h; done)
  rename_i fs hu
  have : P.fieldsOf T = fs := by simp [Program.fieldsOf, hu]
  rw [this]
  exact ⟨h1.1, h1.2, hu, h⟩
theorem r_eqst {T T2 : Nat} {x y : Operand} {xs ys : List Value} {ks : List IntKind} {as bs : List Int} (hf : fint P T = some ks) (hx : ev e x = .agg xs.toArray) (hy : ev e y = .agg ys.toArray) (ha : intsOf ks xs = some as) (hb : intsOf ks ys = some bs) :
    (xop (ev e) (.binOp .eql T x y T2) ty).run P w = .ok (.value (.bool (decide (as = bs)))) w := by
  obtain ⟨h1, h2, h3, h4⟩ := fint_spec hf
  have := run_eqFields (P := P) (w := w) 9998 xs.toArray ys.toArray _ 0 ks as bs h4 (by simpa using ha) (by simpa using hb)
  simp [xop, execOp, hx, hy, run_eqGuard_agg w .eql T x y xs.toArray ys.toArray h2, run_eql_struct, run_equalIn_struct w 9999 T _ _ h3 h1, this]
theorem r_nest {T T2 : Nat} {x y : Operand} {xs ys : List Value} {ks : List IntKind} {as bs : List Int} (hf : fint P T = some ks) (hx : ev e x = .agg xs.toArray) (hy : ev e y = .agg ys.toArray) (ha : intsOf ks xs = some as) (hb : intsOf ks ys = some bs) :
    (xop (ev e) (.binOp .neq T x y T2) ty).run P w = .ok (.value (.bool (decide (as ≠ bs)))) w := by
  obtain ⟨h1, h2, h3, h4⟩ := fint_spec hf
  have := run_eqFields (P := P) (w := w) 9998 xs.toArray ys.toArray _ 0 ks as bs h4 (by simpa using ha) (by simpa using hb)
  simp [xop, execOp, hx, hy, run_eqGuard_agg w .neq T x y xs.toArray ys.toArray h2, run_neq_struct, run_equalIn_struct w 9999 T _ _ h3 h1, this]
end
end Go.Lt
