/- reply.same: true if and only if the results hold the same. (printed by gen_rb1.py) -/
import Derived.Test.YtnbaajplelchjaaGreatDoorRa4
set_option linter.unusedVariables false
set_option linter.unusedSimpArgs false
namespace Go.Proofs.YtnbaajplelchjaaGreatDoor
open Go.RowKit

theorem resSame_any {w : World} {lo : Option Nat} {x : ResC} {cs : List Value} (hx : At w lo x cs) : ∀ {lo' : Option Nat} {y : ResC} {ds : List Value}, At w lo' y ds →
    ∃ b : Bool, (b = true ↔ x = y) ∧ ∀ W, Below w.heap.size w W → Calls Tryz.prog 70 #[.agg cs.toArray, .agg ds.toArray] W fun e w' => e = .returned (.bool b) ∧ Below W.heap.size W w' := by
  induction hx with
  | mk f d a k i s Q ok hd ha hk hi hs hQ ih =>
    intro lo' y ds hy
    cases hy with
    | mk g d' a' k' i' s' Q' ok' hd' ha' hk' hi' hs' hQ' =>
      have hbs : ∀ j, ∃ bj : Bool, ∀ (h : j < Q.length) (h' : j < Q'.length), (bj = true ↔ (Q[j]).1 = (Q'[j]).1) ∧ ∀ W, Below w.heap.size w W → Calls Tryz.prog 70 #[.agg (Q[j]).2.toArray, .agg (Q'[j]).2.toArray] W fun e w' => e = .returned (.bool bj) ∧ Below W.heap.size W w' := by
        intro j
        by_cases h : j < Q.length ∧ j < Q'.length
        · obtain ⟨bj, h1, h2⟩ := ih _ (List.getElem_mem h.1) (hQ' _ (List.getElem_mem h.2))
          exact ⟨bj, fun _ _ => ⟨h1, h2⟩⟩
        · exact ⟨true, fun h1 h2 => absurd ⟨h1, h2⟩ h⟩
      obtain ⟨bs, hbs⟩ := Classical.axiomOfChoice hbs
      obtain ⟨be, hbe⟩ : ∃ b : Bool, (b = true ↔ Q.map Prod.fst = Q'.map Prod.fst) := ⟨@decide (Q.map Prod.fst = Q'.map Prod.fst) (Classical.propDecidable _), @decide_eq_true_iff _ (Classical.propDecidable _)⟩
      have hlen := hs.len
      have hlen' := hs'.len
      have hbd := hs.bd (by decide)
      have hbd' := hs'.bd (by decide)
      have hE : ∀ W, Below w.heap.size w W → Calls Tryz.prog 130 #[.slice s.A s.n s.c, .slice s'.A s'.n s'.c, .func (.func 70) #[] #[]] W fun e w' => e = .returned (.bool be) ∧ Below W.heap.size W w' := by
        by_cases hne : s.n = s'.n
        rotate_left
        · intro W hW
          have hf : be = false := by
            cases hbb : be
            · rfl
            · have := congrArg List.length (hbe.1 hbb)
              rw [List.length_map, List.length_map] at this
              omega
          rw [hf]
          exact eqFunc_no (w := w) _ hbd hbd' hne W
        have rP := hs.reads
        have rQ := hs'.reads
        obtain ⟨sA, sn, sc⟩ := s
        obtain ⟨sA', sn', sc'⟩ := s'
        dsimp only at hlen hlen' hbd hbd' hne rP rQ
        subst hne
        refine eqFunc_walk (n := sn) bs be hlen hlen' hbd rP rQ ⟨lo, hQ⟩ ⟨lo', hQ'⟩ (fun j h h' => (hbs j h h').2) (fun j hj hf => ?_) (fun hall => ?_)
        · cases hbb : be
          · rfl
          · exfalso
            have e := hbe.1 hbb
            have h1 : j < Q.length := by omega
            have h2 : j < Q'.length := by omega
            have e1 := at_map e h1
            have e2 := at_map (P := Q') rfl h2
            rw [e2] at e1
            injection e1 with e1
            have := (hbs j h1 h2).1.2 e1.symm
            rw [hf] at this
            cases this
        · refine hbe.2 (List.ext_getElem? fun j => ?_)
          by_cases h1 : j < Q.length
          · have h2 : j < Q'.length := by omega
            rw [at_map (P := Q) rfl h1, at_map (P := Q') rfl h2, (hbs j h1 h2).1.1 (hall j (by omega))]
          · rw [List.getElem?_eq_none (by rw [List.length_map]; omega), List.getElem?_eq_none (by rw [List.length_map]; omega)]
      refine ⟨(((((((((((((decide (f.l = g.l) && decide (f.L = g.L)) && decide (f.K = g.K)) && be)) && ((f.t : Int) == g.t)) && ((f.c : Int) == g.c)) && (f.p.toList == g.p.toList)) && stB f.st g.st) && ((f.n : Int) == g.n)) && ((f.id : Int) == g.id)) && ((f.to : Int) == g.to)) && decide (f.I = g.I))), ?_, fun W hW => same_walk f g d a k i s d' a' k' i' s' (hd.later hW) (ha.later hW) (hk.later hW) (hi.later hW) (hd'.later hW) (ha'.later hW) (hk'.later hW) (hi'.later hW) be (fun W' hW' => hE W' (hW.trans (hW'.mono hW.size))) _ rfl _ _ rfl rfl⟩
      obtain ⟨t, c, p, st, l, L, K, n, id, to, I⟩ := f
      obtain ⟨t', c', p', st', l', L', K', n', id', to', I'⟩ := g
      dsimp only
      simp only [Bool.and_eq_true, beq_iff_eq, decide_eq_true_eq, toL_iff, stB_iff, hbe, ResC.mk.injEq, ResF.mk.injEq]
      constructor
      · rintro ⟨⟨⟨⟨⟨⟨⟨⟨⟨⟨⟨h1, h2⟩, h3⟩, h4⟩, h5⟩, h6⟩, h7⟩, h8⟩, h9⟩, h10⟩, h11⟩, h12⟩
        exact ⟨⟨h5, h6, h7, h8, h1, h2, h3, h9, h10, h11, h12⟩, h4⟩
      · rintro ⟨⟨h5, h6, h7, h8, h1, h2, h3, h9, h10, h11, h12⟩, h4⟩
        exact ⟨⟨⟨⟨⟨⟨⟨⟨⟨⟨⟨h1, h2⟩, h3⟩, h4⟩, h5⟩, h6⟩, h7⟩, h8⟩, h9⟩, h10⟩, h11⟩, h12⟩
end Go.Proofs.YtnbaajplelchjaaGreatDoor
