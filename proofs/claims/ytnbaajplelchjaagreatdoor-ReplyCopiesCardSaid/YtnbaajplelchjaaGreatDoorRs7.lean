/- The document's SameResult: true if and only if the results hold the same. (printed by gen_s7.py) -/
import Derived.Test.YtnbaajplelchjaaGreatDoorRs6
import Derived.Test.YtnbaajplelchjaaGreatDoorRa1
set_option linter.unusedVariables false
set_option linter.unusedSimpArgs false
namespace Go.Proofs.YtnbaajplelchjaaGreatDoor
open Go.RowKit

theorem sameRes_any {w : World} {lo : Option Nat} {x : ResC} {cs : List Value} (hx : At w lo x cs) : ∀ {lo' : Option Nat} {y : ResC} {ds : List Value}, At w lo' y ds →
    ∃ b : Bool, (b = true ↔ x = y) ∧ ∀ W, Below w.heap.size w W → Calls Tryz.prog 46 #[.agg cs.toArray, .agg ds.toArray] W fun e w' => e = .returned (.bool b) ∧ Below W.heap.size W w' := by
  induction hx with
  | mk f d a k i s Q ok hd ha hk hi hs hQ ih =>
    intro lo' y ds hy
    cases hy with
    | mk g d' a' k' i' s' Q' ok' hd' ha' hk' hi' hs' hQ' =>
      obtain ⟨b, hb⟩ : ∃ b : Bool, (b = true ↔ ResC.mk f (Q.map Prod.fst) = ResC.mk g (Q'.map Prod.fst)) := ⟨@decide (ResC.mk f (Q.map Prod.fst) = ResC.mk g (Q'.map Prod.fst)) (Classical.propDecidable _), @decide_eq_true_iff _ (Classical.propDecidable _)⟩
      have hno : ¬ (ResC.mk f (Q.map Prod.fst) = ResC.mk g (Q'.map Prod.fst)) → b = false := fun h => by
        cases b
        · rfl
        · exact absurd (hb.1 rfl) h
      refine ⟨b, hb, fun W hW => ?_⟩
      have zd := hd.bd (by decide)
      have za := ha.bd (by decide)
      have zk := hk.bd (by decide)
      have zi := hi.bd (by decide)
      have zs := hs.bd (by decide)
      have zd' := hd'.bd (by decide)
      have za' := ha'.bd (by decide)
      have zi' := hi'.bd (by decide)
      have rd := (hd.later hW).reads
      have ra := (ha.later hW).reads
      have rk := (hk.later hW).reads
      have ri := (hi.later hW).reads
      have rs := (hs.later hW).reads
      have rd' := (hd'.later hW).reads
      have ra' := (ha'.later hW).reads
      have rk' := (hk'.later hW).reads
      have ri' := (hi'.later hW).reads
      have rs' := (hs'.later hW).reads
      have ls := hs.len
      have ls' := hs'.len
      have lk := hk.len
      have lk' := hk'.len
      have hQl : ∀ q ∈ Q, q.2.length = 22 := fun q hq => (hQ q hq).len
      have hQl' : ∀ q ∈ Q', q.2.length = 22 := fun q hq => (hQ' q hq).len
      have hIH : ∀ j (h : j < Q.length) (h' : j < Q'.length), ∃ b : Bool, (b = true ↔ (Q[j]).1 = (Q'[j]).1) ∧ ∀ W', Below W.heap.size W W' → Calls Tryz.prog 46 #[.agg (Q[j]).2.toArray, .agg (Q'[j]).2.toArray] W' fun e w' => e = .returned (.bool b) ∧ Below W'.heap.size W' w' := fun j h h' => by
        obtain ⟨bj, h1, h2⟩ := ih _ (List.getElem_mem h) (hQ' _ (List.getElem_mem h'))
        exact ⟨bj, h1, fun W' hW' => h2 W' (hW.trans (hW'.mono hW.size))⟩
      clear hd ha hk hi hs hd' ha' hk' hi' hs' hQ hQ' ih ok ok'
      obtain ⟨dA, dn, dc⟩ := d
      obtain ⟨aA, an, ac⟩ := a
      obtain ⟨kA, kn, kc⟩ := k
      obtain ⟨iA, in_, ic⟩ := i
      obtain ⟨sA, sn, sc⟩ := s
      obtain ⟨dA', dn', dc'⟩ := d'
      obtain ⟨aA', an', ac'⟩ := a'
      obtain ⟨kA', kn', kc'⟩ := k'
      obtain ⟨iA', in_', ic'⟩ := i'
      obtain ⟨sA', sn', sc'⟩ := s'
      obtain ⟨t, c, p, ⟨s0, s1, s2, s3, s4, s5, s6, s7, s8, s9, s10⟩, l, L, K, n, id, to, I⟩ := f
      obtain ⟨t', c', p', ⟨s0', s1', s2', s3', s4', s5', s6', s7', s8', s9', s10'⟩, l', L', K', n', id', to', I'⟩ := g
      dsimp only at *
      by_cases hE : t = t' ∧ c = c' ∧ p = p' ∧ (s0 = s0' ∧ s1 = s1' ∧ s2 = s2' ∧ s3 = s3' ∧ s4 = s4' ∧ s5 = s5' ∧ s6 = s6' ∧ s7 = s7' ∧ s8 = s8' ∧ s9 = s9' ∧ s10 = s10') ∧ l = l' ∧ L = L' ∧ n = n' ∧ (id = id' ∧ to = to' ∧ I = I') ∧ kn = kn' ∧ sn = sn'
      rotate_left
      · rw [hno fun e => hE (by
          injection e with e1 e2
          injection e1 with q1 q2 q3 q4 q5 q6 q7 q8 q9 q10 q11
          injection q4 with r0 r1 r2 r3 r4 r5 r6 r7 r8 r9 r10
          refine ⟨q1, q2, q3, ⟨r0, r1, r2, r3, r4, r5, r6, r7, r8, r9, r10⟩, q5, q6, q8, ⟨q9, q10, q11⟩, ?_, ?_⟩
          · rw [← lk, ← lk', q7]
          · have := congrArg List.length e2
            simp only [List.length_map] at this
            omega)]
        exact res_no t c p s0 s1 s2 s3 s4 s5 s6 s7 s8 s9 s10 l L n id to I dA aA kA iA sA dn dc an ac kn kc in_ ic sn sc t' c' p' s0' s1' s2' s3' s4' s5' s6' s7' s8' s9' s10' l' L' n' id' to' I' dA' aA' kA' iA' sA' dn' dc' an' ac' kn' kc' in_' ic' sn' sc' W rd ra ri ⟨zd, za, zi⟩ rd' ra' ri' ⟨zd', za', zi'⟩ hE _ _ rfl rfl
      obtain ⟨rfl, rfl, rfl, ⟨rfl, rfl, rfl, rfl, rfl, rfl, rfl, rfl, rfl, rfl, rfl⟩, rfl, rfl, rfl, ⟨rfl, rfl, rfl⟩, rfl, rfl⟩ := hE
      by_cases hK : K = K'
      rotate_left
      · rw [hno fun e => hK (by
          injection e with e1 e2
          injection e1)]
        exact res_names t c p s0 s1 s2 s3 s4 s5 s6 s7 s8 s9 s10 l L n id to I dA aA kA iA sA dn dc an ac kn kc in_ ic sn sc dA' aA' kA' iA' sA' dn' dc' an' ac' kc' in_' ic' sc' K K' W rd ra ri ⟨zd, za, zi⟩ rd' ra' ri' ⟨zd', za', zi'⟩ rk rk' zk hK _ _ rfl rfl
      subst hK
      refine (res_subs t c p s0 s1 s2 s3 s4 s5 s6 s7 s8 s9 s10 l L n id to I dA aA kA iA sA dn dc an ac kn kc in_ ic sn sc dA' aA' kA' iA' sA' dn' dc' an' ac' kc' in_' ic' sc' K Q Q' W rd ra ri ⟨zd, za, zi⟩ rd' ra' ri' ⟨zd', za', zi'⟩ rk rk' zk rs rs' zs ls ls' hQl hQl' (Lib.hid hIH) _ _ rfl rfl).mono ?_
      rintro e w' ⟨⟨b', rfl, hb'⟩, hB⟩
      have : b' = b := by
        rw [Bool.eq_iff_iff, hb', hb]
        exact ⟨fun h => by rw [h], fun h => by injection h⟩
      subst this
      exact ⟨rfl, hB⟩
end Go.Proofs.YtnbaajplelchjaaGreatDoor
