/- The plain law of layer 28, sixth part: both tell the same difference, and it is no more than the dearest packet of each. Condition: the costs of all come to less than 2^62. -/
import Derived.Test.YtkdbglfdgeldpaaGreatInv5
namespace Go.Proofs.YtkdbglfdgeldpaaGreat
open Go.Lt
theorem foldl_mostS {lo hi : Int} : ∀ (L : List Int) (a : Int), (∀ v ∈ L, lo ≤ v ∧ v ≤ hi) → lo ∈ L → hi ∈ L → L.foldl mostS a = max a (max hi (-lo)) := by
  have up : ∀ (L : List Int) (a : Int), a ≤ L.foldl mostS a ∧ ∀ v ∈ L, v ≤ L.foldl mostS a ∧ -v ≤ L.foldl mostS a := by
    intro L
    induction L with
    | nil => intro a; exact ⟨Int.le_refl _, by simp⟩
    | cons x L ih =>
      intro a
      obtain ⟨h1, h2⟩ := ih (mostS a x)
      simp only [List.foldl_cons]
      have : a ≤ mostS a x ∧ x ≤ mostS a x ∧ -x ≤ mostS a x := by unfold mostS; omega
      refine ⟨by omega, fun v hv => ?_⟩
      rcases List.mem_cons.1 hv with rfl | hv
      ·omega
      ·exact h2 v hv
  have dn : ∀ (L : List Int) (a B : Int), a ≤ B → (∀ v ∈ L, v ≤ B ∧ -v ≤ B) → L.foldl mostS a ≤ B := by
    intro L
    induction L with
    | nil => intro a B h _; exact h
    | cons x L ih =>
      intro a B h hv
      have hx := hv x (List.mem_cons_self ..)
      simp only [List.foldl_cons]
      exact ih _ _ (by unfold mostS; omega) fun v h => hv v (List.mem_cons_of_mem _ h)
  intro L a hb h1 h2
  have h3 := (up L a).1
  have h4 := (up L a).2 lo h1
  have h5 := (up L a).2 hi h2
  have h6 := dn L a (max a (max hi (-lo))) (by omega) fun v hv => by have := hb v hv; omega
  omega
structure GR (f g : Int) (m : Mdl) (A : As) (Df Dg : Int) (gs : Gs) (rs : Rs) : Prop where
  gm : gs.m = m
  rm : rs.m = m
  t : gs.t = (cTold (aget A f) - cTold (aget A g), (aget A f).left.length, (aget A g).left.length)
  ins : gs.ins = both m f g
  most : gs.most = rs.most
  mb : 0 ≤ gs.most ∧ gs.most ≤ Df + Dg
  fr : ∀ v ∈ rs.fr, -cTold (aget A g) ≤ v ∧ v ≤ cTold (aget A f)
  run : both m f g = true → (∀ v ∈ rs.fr ++ [0], gs.t.1 - gs.high ≤ v ∧ v ≤ gs.t.1 - gs.low) ∧ gs.t.1 - gs.low ∈ rs.fr ++ [0] ∧ gs.t.1 - gs.high ∈ rs.fr ++ [0] ∧ gs.low ≤ gs.t.1 ∧ gs.t.1 ≤ gs.high ∧ gs.high - gs.low ≤ gs.most ∧
    ∃ k, gs.t.1 = k + (startF m f - startF m g) ∧ k - Dg ≤ gs.low ∧ gs.high ≤ k + Df
theorem gr_step {i : Nat} {m m' : Mdl} {A A' Af : As} {s s' : Int} {k : Knd} {ps : List Packet} (h : Inv i m A s) (hok : m.s.ok) (hf : Fr m A) (e : Evt i m A s k ps m' A' s') (hpre : ∀ f, (aget A' f).came <+: (aget Af f).came) (hA : gsum cAll A' ≤ gsum cAll Af) (hcap : gsum cAll Af < 4611686018427387904)
    {f g : Int} (hfg : f ≠ g) {gs : Gs} {rs : Rs} (hR : GR f g m A (dear Af f) (dear Af g) gs rs) :
    ∃ t d, gTells Af f g ps gs.t = some t ∧ rTells rs.m f g ps 0 = some d ∧ (∀ v ∈ (rFrom rs.m f g rs.fr).map (· + d), smallI v) ∧ GR f g m' A' (dear Af f) (dear Af g) (gEnd f g m' gs t) (rEnd f g m' rs d) ∧ gs.most ≤ (gEnd f g m' gs t).most := by
  obtain ⟨gm, ⟨S, n0, n1⟩, low, high, most, ins⟩ := gs
  obtain ⟨rm, fr, rmost⟩ := rs
  obtain ⟨h1, h2, h3, h4, h5, h6, h7, h8⟩ := hR
  dsimp only at h1 h2 h3 h4 h5 h6 h7 h8 ⊢
  subst h1 h2 h5
  injection h3 with h3a h3b
  injection h3b with h3b h3c
  subst h3b h3c
  obtain ⟨d, hd1, hd2, hd3, hd4, hd5⟩ := evt_tell h hok e hpre hA hcap hfg h3a
  have hi' := evt_inv h hok e
  have hf' := evt_fr h hok hf e (by unfold top; omega)
  have hb' := cT_all hi' f g hfg
  have n1 := cT_nonneg hi' f; have n2 := cT_nonneg hi' g
  have m1 := cT_nonneg h f; have m2 := cT_nonneg h g
  have hdf : ∀ f, dear A' f ≤ dear Af f := fun f => dearL_mono (hpre f)
  have hfb : ∀ v ∈ rFrom rm f g fr, -cTold (aget A g) ≤ v ∧ v ≤ cTold (aget A f) := fun v hv => by
    rw [rFrom_both] at hv
    split at hv
    ·rcases List.mem_append.1 hv with h | h
     ·exact h7 v h
     ·rw [List.mem_singleton.1 h]; omega
    ·cases hv
  have hfb' : ∀ v ∈ (rFrom rm f g fr).map (· + d), -cTold (aget A' g) ≤ v ∧ v ≤ cTold (aget A' f) := fun v hv => by
    obtain ⟨u, hu, rfl⟩ := List.mem_map.1 hv
    have := hfb u hu
    (try simp only); omega
  refine ⟨_, d, hd1, hd2, fun v hv => by have := hfb' v hv; unfold smallI; omega, ?_, ?_⟩
  ·by_cases b' : both m' f g = true
   ·have bs := both_spec.1 b'
    obtain ⟨⟨wf', hwf', hlf'⟩, ⟨wg', hwg', hlg'⟩⟩ := bs
    have sf := hf'.st f wf' hwf' hlf'
    have sg := hf'.st g wg' hwg' hlg'
    have df := hdf f; have dg := hdf g
    have hD : -(dear Af g) ≤ startF m' f - startF m' g ∧ startF m' f - startF m' g ≤ dear Af f := by
      rw [start_some hwf', start_some hwg']; omega
    unfold gEnd rEnd
    rw [if_pos b', if_pos b']
    by_cases b : both rm f g = true
    ·-- the stretch goes on
     obtain ⟨r1, r2, r3, r4, r5, r6, k0, r7, r8, r9⟩ := h8 b
     have hins : ins = true := by rw [h4, b]
     subst hins
     have hfrE : rFrom rm f g fr = fr ++ [0] := by rw [rFrom_both, if_pos b]
     obtain ⟨⟨wf, hwf, hlf⟩, ⟨wg, hwg, hlg⟩⟩ := both_spec.1 b
     have ef := evt_start h hok hf e (by unfold top; omega) hwf hlf hwf'
     have eg := evt_start h hok hf e (by unfold top; omega) hwg hlg hwg'
     have hk : S + d = k0 + (startF m' f - startF m' g) := by
       rw [start_some hwf, start_some hwg] at r7
       rw [start_some hwf', start_some hwg', ef, eg]; omega
     have hmap : ∀ v ∈ (rFrom rm f g fr).map (· + d), S + d - high ≤ v ∧ v ≤ S + d - low := fun v hv => by
       rw [hfrE] at hv
       obtain ⟨u, hu, rfl⟩ := List.mem_map.1 hv
       have := r1 u hu
       (try simp only); omega
     have hin1 : S + d - low ∈ (rFrom rm f g fr).map (· + d) := by rw [hfrE]; exact List.mem_map.2 ⟨_, r2, by (try simp only); omega⟩
     have hin2 : S + d - high ∈ (rFrom rm f g fr).map (· + d) := by rw [hfrE]; exact List.mem_map.2 ⟨_, r3, by (try simp only); omega⟩
     have hfold := foldl_mostS _ most hmap hin2 hin1
     simp only [if_true]
     refine ⟨rfl, rfl, by simp only; congr 1; omega, b'.symm, ?_, ?_, hfb', fun _ => ?_⟩
     ·simp only; rw [hfold]; omega
     ·(try simp only); omega
     ·simp only
      refine ⟨fun v hv => ?_, ?_, ?_, by omega, by omega, by omega, k0, hk, by omega, by omega⟩
      ·rcases List.mem_append.1 hv with h | h
       ·have := hmap v h; omega
       ·rw [List.mem_singleton.1 h]; omega
      ·by_cases hc : low ≤ S + d
       ·rw [show min low (S + d) = low from by omega]; exact List.mem_append_left _ hin1
       ·rw [show min low (S + d) = S + d from by omega, Int.sub_self]; exact List.mem_append_right _ (by simp)
      ·by_cases hc : S + d ≤ high
       ·rw [show max high (S + d) = high from by omega]; exact List.mem_append_left _ hin2
       ·rw [show max high (S + d) = S + d from by omega, Int.sub_self]; exact List.mem_append_right _ (by simp)
    ·-- a stretch begins
     have hins : ins = false := by rw [h4]; simpa using b
     subst hins
     have hfrE : rFrom rm f g fr = [] := by rw [rFrom_both, if_neg b]
     simp only [hfrE, List.map_nil, List.foldl_nil, Bool.false_eq_true, if_false]
     refine ⟨rfl, rfl, by simp only; congr 1; omega, b'.symm, by (try simp only); omega, by (try simp only); omega, by simp, fun _ => ?_⟩
     simp only [List.nil_append]
     refine ⟨fun v hv => by rw [List.mem_singleton.1 hv]; omega, by simp, by simp, by omega, by omega, by omega, S + d - (startF m' f - startF m' g), by omega, by omega, by omega⟩
   ·unfold gEnd rEnd
    rw [if_neg b', if_neg b']
    exact ⟨rfl, rfl, by simp only; congr 1; omega, by simpa using b', rfl, h6, hfb', fun h => absurd h b'⟩
  ·unfold gEnd
   split
   ·(try simp only); omega
   ·exact Int.le_refl _
theorem gap_run {c : Config} {ls : List (List Call)} (hls : listsOk ls) {f g : Int} (hfg : f ≠ g) {Af : As} (hcap : gsum cAll Af < 4611686018427387904) : ∀ (l : List Point) (i : Nat) (m : Mdl) (A : As) (s : Int) (last : Option Int) (me : Mdl) (gs : Gs) (rs : Rs), St c i m A s → i + l.length ≤ 1000000 → playL ls l m last = some me →
    (∀ f, (aget (bookL c.unit ls l i A s).1 f).came <+: (aget Af f).came) → gsum cAll (bookL c.unit ls l i A s).1 ≤ gsum cAll Af → Fr m A → GR f g m A (dear Af f) (dear Af g) gs rs →
    ∃ gs' rs', gapL Af f g ls l gs = some gs' ∧ rgapL f g ls l rs = some rs' ∧ gs'.most = rs'.most ∧ (0 ≤ gs'.most ∧ gs'.most ≤ dear Af f + dear Af g) ∧ gs.most ≤ gs'.most
  | [], i, m, A, s, last, me, gs, rs, h, _, hp, hpre, hA, hf, hR => ⟨gs, rs, rfl, rfl, hR.most, hR.mb, Int.le_refl _⟩
  | x :: l, i, m, A, s, last, me, gs, rs, h, hi, hp, hpre, hA, hf, hR => by
    simp only [List.length_cons] at hi
    obtain ⟨_, _, he, hst, hp', _⟩ := st_step hls h (by omega) hp
    rw [bookL_S] at hpre hA
    obtain ⟨_, b2, b3⟩ := book_run hls l (i + 1) _ _ _ _ me hst (by omega) hp'
    obtain ⟨t, d, h1, h2, h3, h4, h5⟩ := gr_step h.inv h.ok.2.1 hf he (fun f => (b2 f).trans (hpre f)) (by omega) hcap hfg hR
    have hf' := evt_fr h.inv h.ok.2.1 hf he (by unfold top; omega)
    obtain ⟨gs', rs', k1, k2, k3, k4, k5⟩ := gap_run hls hfg hcap l (i + 1) _ _ _ _ me _ _ hst (by omega) hp' hpre hA hf' h4
    refine ⟨gs', rs', ?_, ?_, k3, k4, by omega⟩
    ·unfold gapL; rw [h1, hR.gm]; exact k1
    ·unfold rgapL; rw [h2]; simp only; rw [if_pos h3, hR.rm]; exact k2
end Go.Proofs.YtkdbglfdgeldpaaGreat
