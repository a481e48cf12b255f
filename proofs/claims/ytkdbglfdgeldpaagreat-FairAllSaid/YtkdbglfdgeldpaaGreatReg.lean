/- Contract of package fair: which flows were registered, rising. Condition: their numbers are of 64 bits. -/
import Derived.Test.YtkdbglfdgeldpaaGreatTrace
import Derived.Test.YtkdbglfdgeldpaaGreatIter
namespace Go.Proofs.YtkdbglfdgeldpaaGreat
open Go.Lt
def Rnone (_ : Value) : Option (DataW Unit × List MemPlace) := some (.nil, [])
theorem sorts_A (m : Nat) : AnyZI.SortsIn Tryz.prog Tryz.sortedA_ren Fence.wide m :=
  ⟨fun blk off cap ss W hH hblk hsz => callsIn_wide.2 (AnyM.slices_Sort_int Tryz.sortA blk off cap ss W hH hblk hsz),
   fun p cap W => callsIn_wide.2 (AnyM.slices_Sort_int_none Tryz.sortA p cap W)⟩
theorem wf_I {x : Int} (h : I x) : (Lit.int .i64 x).wf = true := by
  unfold I at h
  simp [Lit.wf, IntKind.min, IntKind.max, IntKind.signed, IntKind.bits]
  omega
theorem foldr_perm : ∀ (l : List (Lit × DataW Unit)), (l.foldr DataW.insert []).Perm l
  | [] => .nil
  | x :: l => (Go.WideShapes.insert_perm x _).trans ((foldr_perm l).cons x)
/-- A map of ours as the library reads it. -/
theorem owns_map {T kt et : Nat} {z : Value} (hm : mpt Tryz.prog T = some (kt, et, z)) {R : Base} {L : List HP} {w : World} {mb : Nat} {l : List (Int × Value)} (hI : ∀ p ∈ l, I p.1) (hl : l.length ≤ 1000000000) (h : Go.Lt.Holds R (MapC mb l :: L) w) :
    ∃ D0, w.ownsMap Tryz.prog kt Rnone mb l.length D0 ∧ (intKeys D0).Perm (l.map Prod.fst) ∧ Go.Maps.size D0 = l.length := by
  obtain ⟨i, h1, h2, h3, h4⟩ := mpt_spec hm
  obtain ⟨es, clock, hs, hE, hh⟩ := h.mopen
  have hlen : es.size = l.length := by
    have := congrArg List.length hE
    simpa using this
  have hread : ∀ x ∈ es.toList, ∃ p ∈ l, x.key = .int .i64 p.1 ∧ Go.WideElems.rd Tryz.prog kt Rnone x = some (.int .i64 p.1, .nil) := by
    intro x hx
    have hk : kv x ∈ l.map ent := by rw [← hE]; exact List.mem_map_of_mem hx
    obtain ⟨p, hp, hpe⟩ := List.mem_map.1 hk
    have he : x.key = .int .i64 p.1 := (congrArg Prod.fst hpe).symm
    refine ⟨p, hp, he, ?_⟩
    have hkey : keyOf Tryz.prog kt x.key = some (.int .i64 p.1) := by
      rw [he]
      simp [keyOf, h2, mapKey, wf_I (hI p hp)]
    simp [Go.WideElems.rd, hkey, Rnone]
  refine ⟨_, ⟨es, clock, hh.blk, ⟨by rw [hlen]; unfold maxLen; omega, hs, fun x hx => let ⟨p, _, _, h⟩ := hread x hx; ⟨_, h⟩⟩, by omega, rfl⟩, ?_, ?_⟩
  ·show ((((es.toList.map (Go.WideElems.rg Tryz.prog kt Rnone)).foldr DataW.insert []).map fun p : Lit × DataW Unit => Go.intOf p.1)).Perm _
   refine ((foldr_perm _).map _).trans ?_
   rw [List.map_map]
   have e1 : es.toList.map ((fun p : Lit × DataW Unit => Go.intOf p.1) ∘ Go.WideElems.rg Tryz.prog kt Rnone) = es.toList.map (fun x => (unent (kv x)).1) := by
     refine List.map_congr_left fun x hx => ?_
     obtain ⟨p, _, he, hr⟩ := hread x hx
     simp [Go.WideElems.rg, hr, Go.intOf, unent, kv, he]
   rw [e1]
   have e2 : es.toList.map (fun x => (unent (kv x)).1) = l.map Prod.fst := by
     have := congrArg (List.map fun q => (unent q).1) hE
     rw [List.map_map, List.map_map] at this
     refine this.trans ?_
     exact List.map_congr_left fun _ _ => rfl
   rw [e2]
  ·show (((es.toList.map (Go.WideElems.rg Tryz.prog kt Rnone)).foldr DataW.insert [])).length = _
   rw [(foldr_perm _).length_eq]; simpa using hlen
def sortI (l : List Int) : List Int := l.mergeSort fun x y => decide (x ≤ y)
section
variable {R : Base} {F : List HP} {w : World}
/-- What lies below is as it was, and a slice of one's own came. -/
theorem holds_below {L : List HP} {w' : World} (h : Go.Lt.Holds R L w) (hb : Go.RowKit.Below w.heap.size w w') : Go.Lt.Holds R L w' := by
  have hsub : ∀ {k : Hp}, Sub k (hp w) → Sub k (hp w') := fun {k} s b o hk => by
    have := s b o hk
    have hlt : b < w.heap.size := (Array.getElem?_eq_some_iff.1 this).1
    show w'.heap[b]? = some o
    rw [hb.block b hlt]; exact this
  exact ⟨hb.os.trans h.os, hb.tape.trans h.tape, hb.output.trans h.output, hsub h.ro, let ⟨x, d, s, hs⟩ := h.sat; ⟨x, d, hsub s, hs⟩⟩
theorem holds_row {L : List HP} {w' : World} {T : Nat} {v : Value} {K : List Int} (h : Go.Lt.Holds R L w) (hb : Go.RowKit.Below w.heap.size w w') (hr : w'.ownsRow w.heap.size T 1 v K.length (K.map encZ)) : Go.Lt.Holds R (Vec T 1 encI v K :: L) w' := by
  have h' := holds_below h hb
  have hflat : ∀ l : List Int, flat encI l = l.map encZ := fun l => by
    induction l with
    | nil => rfl
    | cons x l ih => simp only [flat, List.flatMap_cons, List.map_cons] at ih ⊢; rw [ih]; rfl
  rcases hr.2 with ⟨rfl, hz⟩ | ⟨g, cap, cur, rfl, hbase, hg, h1, h2, h3, h4⟩
  ·have : K = [] := List.eq_nil_of_length_eq_zero hz
   subst this
   exact h'.put (Vec.nil _ _ _ _)
  · -- the block lies above all that was there
   obtain ⟨x, d, s, hs⟩ := h.sat
   have hno : ∀ {k : Hp}, Sub k (hp w) → k g = none := fun {k} s => by
     cases hh : k g with
     | none => rfl
     | some c =>
       have := s _ _ hh
       have hlt : g < w.heap.size := (Array.getElem?_eq_some_iff.1 this).1
       omega
   have hsub : ∀ {k : Hp}, Sub k (hp w) → Sub k (hp w') := fun {k} s b o hk => by
     have := s b o hk
     have hlt : b < w.heap.size := (Array.getElem?_eq_some_iff.1 this).1
     show w'.heap[b]? = some o
     rw [hb.block b hlt]; exact this
   let nb : Hp := fun b => if b = g then some (.cells cur T (0, 0)) else none
   have hnb : ∀ {k : Hp}, Sub k (hp w) → Dis nb k := fun {k} s b c hb => by
     simp only [nb] at hb
     split at hb
     ·rename_i e; subst e; exact hno s
     ·cases hb
   refine ⟨h'.os, h'.tape, h'.output, h'.ro, nb.or x, (Hp.dis_or (hnb h.ro) d.symm).symm, Hp.or_sub (fun b c hbc => ?_) (hsub s), nb, x, hnb s, Hp.sub_or_left _ _, Hp.sub_or_right (hnb s), ?_, hs⟩
   ·simp only [nb] at hbc
    split at hbc
    ·rename_i e; subst e; cases hbc; exact hg
    ·cases hbc
   ·refine .inr ⟨g, cap, cur.toList.drop K.length, rfl, ?_, h1, by simp; omega⟩
    have : flat encI K ++ cur.toList.drop K.length = cur.toList := by
      rw [hflat, ← h4, Nat.mul_one, List.take_append_drop]
    simp [nb, this]
theorem keys_A (mb : Nat) (hH : Go.Lt.Holds R F w) :
    Ret Tryz.prog 83 [.map (some mb)] w fun v w' => ∃ bx, v = .func (.func 118) #[] #[.pointer (some ⟨bx, 0, none⟩)] ∧ Go.Lt.Holds R (cel bx [.map (some mb)] 89 :: F) w' := by
  refine ret_of_g (n := 4) Tryz.func83 rfl rfl (by simp) ?_
  refine g_seq ?_
  refine g_region (l := [0, 1]) rfl ?_
  refine o_box (lv rfl) rfl (cs := [_]) rfl rfl hH ?_
  intro b1 w hH
  refine vA (lv rfl) rfl rfl ?_
  refine g_seq ?_
  refine g_region (l := [0, 1]) rfl ?_
  refine o_v (lv rfl) rfl (r_mkf (a := []) (b := [_]) rfl rfl) ?_
  refine vA (lv rfl) rfl rfl ?_
  refine g_rq Tryz.func83 (res_t rfl res_0) ?_
  exact ⟨_, rfl, (hH.sel (by repeat' (first | exact Sel.refl _)))⟩
theorem sorted_A {bx mb : Nat} {l : List (Int × Value)} (hI : ∀ p ∈ l, I p.1) (hl : l.length ≤ 1000000000) (hH : Go.Lt.Holds R (cel bx [.map (some mb)] 89 :: MapC mb l :: F) w) :
    Ret Tryz.prog 82 [.func (.func 118) #[] #[.pointer (some ⟨bx, 0, none⟩)]] w fun v w' => ∃ ss : List Int, ss.Perm (l.map Prod.fst) ∧ Go.Lt.Holds R (Vec 3 1 encI v (sortI ss) :: cel bx [.map (some mb)] 89 :: MapC mb l :: F) w' := by
  obtain ⟨D0, hown, hkeys, hsize⟩ := owns_map (mp_89) hI hl hH.p1
  have hcell := hH.cell
  have hbx : bx < w.heap.size := (Array.getElem?_eq_some_iff.1 hcell).1
  have hseq : SeqGives Fence.wide 2 Tryz.prog 118 #[.pointer (some ⟨bx, 0, none⟩)] encZ (fun ss => ss.Perm (intKeys D0)) (Go.Maps.size D0) w :=
    AnyZI.keys_gives (ρ := Tryz.keysA_ren) { Tryz.keysA with } Fence.wide _ trivial rfl (by omega) bx mb l.length D0 w hbx (cell_of hcell rfl) hown
  have cS := AnyZI.sorted_in Tryz.sortedA Fence.wide 5 trivial trivial trivial trivial rfl (by omega) (sorts_A _) (fun args w => run_callFunc en_117) 118 #[.pointer (some ⟨bx, 0, none⟩)] trivial (fun args w => run_callFunc en_118) _ _ (by rw [hsize]; unfold maxLen; omega) (by rw [hsize]; omega) _ hseq
  have cS' := callsIn_wide.1 cS
  change Calls Tryz.prog 82 _ _ _ at cS'
  refine Calls.mono cS' ?_
  rintro e w' ⟨v, ss, rfl, hS, hrow, hnil, hb⟩
  refine ⟨v, rfl, ss, hS.trans hkeys, ?_⟩
  refine holds_row hH hb ?_
  have hl : (sortI ss).length = ss.length := (List.mergeSort_perm ss _).length_eq
  rw [hl]; exact hrow
theorem sortI_spec {ss : List Int} (hn : ss.Nodup) : (sortI ss).Pairwise (· < ·) := by
  have h1 : (sortI ss).Pairwise (fun a b => decide (a ≤ b) = true) := List.pairwise_mergeSort (fun a b c h1 h2 => by simp only [decide_eq_true_eq] at *; omega) (fun a b => by simp only [Bool.or_eq_true, decide_eq_true_eq]; omega) ss
  have h2 : (sortI ss).Pairwise (· ≠ ·) := ((List.mergeSort_perm ss _).nodup_iff.2 hn)
  exact (h1.and h2).imp fun h => by have := of_decide_eq_true h.1; have := h.2; omega
theorem fair_registered {bk mb : Nat} {c : Config} {lsv xv : Value} {A : As} {sum : Int} (hAI : ∀ q ∈ A, I q.1) (hAl : A.length ≤ 1000000000) (hH : Go.Lt.Holds R (cel bk (bkCells c lsv xv mb sum) 91 :: AccsC mb A :: F) w) :
    Ret Tryz.prog 51 [.pointer (some ⟨bk, 0, none⟩)] w fun v w' => ∃ K : List Int, K.Perm (A.map Prod.fst) ∧ K.Pairwise (· < ·) ∧ Go.Lt.Holds R (Vec 3 1 encI v K :: cel bk (bkCells c lsv xv mb sum) 91 :: AccsC mb A :: F) w' := by
  obtain ⟨Q, rfl, hn, hH⟩ := AccsC.op hH.p1
  have hkk : (Q.map akv).map Prod.fst = (Q.map aof).map Prod.fst := by simp [List.map_map, Function.comp_def, akv, aof]
  have hI : ∀ p ∈ Q.map akv, I p.1 := fun p hp => by
    obtain ⟨q, hq, rfl⟩ := List.mem_map.1 hp
    exact hAI (aof q) (List.mem_map.2 ⟨q, hq, rfl⟩)
  have hl : (Q.map akv).length ≤ 1000000000 := by simpa using hAl
  refine ret_of_g (n := 9) Tryz.func51 rfl rfl (by simp) ?_
  refine g_seq ?_
  refine g_region (l := [0]) rfl ?_
  refine vA (lv rfl) rfl rfl ?_
  refine g_seq ?_
  refine g_region (l := [0, 1, 2, 3, 4, 5, 6]) rfl ?_
  refine vM (lv rfl) rfl rfl ?_
  refine o_v (lv rfl) rfl (r_nil rfl) ?_
  refine o_v (lv rfl) rfl (r_fa fa_91_2 rfl) ?_
  refine o_ld (lv rfl) rfl lk_89 rfl ⟨_, _, _, hH.c2, _, rfl, ?_⟩
  refine o_call (lv rfl) rfl en_83 rfl (keys_A mb hH) ?_
  rintro _ w ⟨bx, rfl, hH⟩
  refine o_call (lv rfl) rfl en_82 rfl (sorted_A (bx := bx) hI hl (F := cel bk (bkCells c lsv xv mb sum) 91 :: All (Q.map ach) :: F) (hH.sel (by repeat' (first | exact Sel.refl _ | refine Sel.q0 ?_ | refine Sel.q1 ?_)))) ?_
  rintro _ w ⟨ss, hss, hH⟩
  obtain ⟨sa, scap, rfl, -⟩ := hH.rd.len
  refine vA (lv rfl) rfl rfl ?_
  refine g_rq Tryz.func51 (res_t rfl res_0) ?_
  refine ⟨sortI ss, ((List.mergeSort_perm ss _).trans hss).trans (by rw [hkk]), sortI_spec (hss.nodup_iff.2 hn), ?_⟩
  have h2 := AccsC.mk (mb := mb) (Q := Q) (F := Vec 3 1 encI (.slice sa (sortI ss).length scap) (sortI ss) :: cel bk (bkCells c lsv xv mb sum) 91 :: F) (hH.sel (by repeat' (first | exact Sel.refl _ | refine Sel.q0 ?_ | refine Sel.q1 ?_ | refine Sel.q2 ?_ | refine Sel.q3 ?_ | refine Sel.skip _ ?_)))
  exact h2.p2.p2
end
end Go.Proofs.YtkdbglfdgeldpaaGreat
