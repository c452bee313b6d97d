/- Parts, multis: plain facts for OpsFlat. -/
import Derived.Test.YtpjjnmdfgcfnmaaDoorOq32
import Derived.Test.YtpjjnmdfgcfnmaaDoorOb3
set_option linter.unusedVariables false
set_option linter.unusedSimpArgs false
namespace Go.Proofs.YtpjjnmdfgcfnmaaDoor
open Go.RowKit

theorem own_14 (n : Nat) : OwnOk (zF 14) n := ⟨by decide, Nat.zero_le _, Nat.zero_le _, Nat.zero_le _, Nat.zero_le _, fun K hK => by
  simp only [OpF.lists, zF, List.mem_cons, List.not_mem_nil, or_false, or_self] at hK
  subst hK
  exact Nat.zero_le _, fun s hs => by simp [OpF.texts, zF] at hs, fun h => absurd h (by decide), fun x hx => by simp [OpF.ids, zF] at hx, empty_valid, rfl, fun h => absurd (by decide) h⟩
theorem allL_mem {i : Int} : ∀ {S : List OpC}, allL i S = 0 → ∀ y ∈ S, mayN y.f.t i = true ∧ y.allE = 0
  | [], _, y, hy => by cases hy
  | x :: r, h, y, hy => by
    obtain ⟨h1, h2, h3⟩ := allL_cons h
    rcases List.mem_cons.1 hy with rfl | hy
    · exact ⟨h1, h2⟩
    · exact allL_mem h3 y hy
theorem countsL_mem : ∀ {S : List OpC} {y : OpC}, y ∈ S → y.parts ≤ partsL S ∧ y.multis ≤ multisL S ∧ y.depth ≤ depthL S
  | x :: r, y, hy => by
    rw [partsL, multisL, depthL]
    rcases List.mem_cons.1 hy with rfl | hy
    · omega
    · have := countsL_mem hy; omega
theorem right_sub {f : OpF} {S : List OpC} (h : (OpC.mk f S).rightE = 0) (ht : f.t = 14) : ∀ y ∈ S, y.rightE = 0 := fun y hy => by
  obtain ⟨h1, h2, h3, h4⟩ := rightE_parts h
  rw [OpC.depth, if_pos ht] at h2
  rw [OpC.parts, if_pos ht] at h3
  rw [OpC.multis, if_pos ht] at h4
  obtain ⟨c1, c2, c3⟩ := countsL_mem hy
  exact rightE_mk (allL_mem (all_parts h1).2 y hy).2 (by omega) (by omega) (by omega)
theorem flatL_map : ∀ S : List OpC, flatL S = S.flatMap OpC.flat
  | [] => by rw [flatL]; rfl
  | x :: r => by rw [flatL, List.flatMap_cons, flatL_map r]
theorem flatten_right {x : OpC} (h : x.rightE = 0) : x.flatten = x.flat := by
  unfold OpC.flatten
  rw [h, if_neg (by simp)]
theorem flatten_14 {f : OpF} {S : List OpC} (h : (OpC.mk f S).rightE = 0) (ht : f.t = 14) : (OpC.mk f S).flatten = S.flatMap OpC.flatten := by
  rw [flatten_right h, OpC.flat, if_pos ht, flatL_map, List.flatMap_def, List.flatMap_def]
  congr 1
  exact List.map_congr_left fun y hy => (flatten_right (right_sub h ht y hy)).symm
mutual
theorem OpC.flat_types : ∀ (x y : OpC), y ∈ x.flat → y.f.t ≠ 14
  | .mk f S, y, hy => by
    rw [OpC.flat] at hy
    split at hy
    · exact flatL_types S y hy
    · rename_i h
      rw [List.mem_singleton] at hy
      subst hy
      exact h
theorem flatL_types : ∀ (S : List OpC) (y : OpC), y ∈ flatL S → y.f.t ≠ 14
  | [], y, hy => by rw [flatL] at hy; cases hy
  | x :: r, y, hy => by
    rw [flatL] at hy
    rcases List.mem_append.1 hy with hy | hy
    · exact OpC.flat_types x y hy
    · exact flatL_types r y hy
end
theorem flatten_types {x y : OpC} (h : y ∈ x.flatten) : y.f.t ≠ 14 := by
  unfold OpC.flatten at h
  split at h
  · cases h
  · exact OpC.flat_types x y h
theorem flatten_len {x : OpC} (h : x.rightE = 0) : x.flatten.length = x.parts := by rw [flatten_right h, OpC.flat_len]
theorem flatten_no {x : OpC} (h : x.rightE ≠ 0) : x.flatten = [] := by unfold OpC.flatten; rw [if_pos h]
theorem depth_0 (x : OpC) : x.depth = 0 ↔ x.f.t ≠ 14 := by
  obtain ⟨f, S⟩ := x
  rw [OpC.depth]
  show _ ↔ f.t ≠ 14
  split
  · simp_all
  · simp_all
theorem wrap_flatten {x : OpC} (h : x.rightE = 0) (hk : kindN x.f.t = 3 ∨ kindN x.f.t = 2) (hd : x.depth ≠ 8) (hm : x.multis ≠ 1024) : (OpC.mk (zF 14) [x]).flatten = x.flatten := by
  obtain ⟨h1, h2, h3, h4⟩ := rightE_parts h
  have hw : (OpC.mk (zF 14) [x]).rightE = 0 := by
    refine rightE_mk ?_ ?_ ?_ ?_
    · rw [OpC.allE, own_ok.2 (own_14 _), if_neg (by simp), allL, allL]
      have hmay : mayN x.f.t (zF 14).t = true := by
        show mayN x.f.t 14 = true
        unfold mayN
        rw [if_neg (by decide)]
        rcases hk with hk | hk <;> rw [hk] <;> rfl
      rw [hmay, if_neg (by decide), h1, if_neg (by simp)]
    · rw [OpC.depth, if_pos (show (zF 14).t = 14 from rfl), depthL, depthL]; omega
    · rw [OpC.parts, if_pos (show (zF 14).t = 14 from rfl), partsL, partsL]; omega
    · rw [OpC.multis, if_pos (show (zF 14).t = 14 from rfl), multisL, multisL]; omega
  rw [flatten_14 hw rfl, List.flatMap_cons, List.flatMap_nil, List.append_nil]
theorem wrap_no {x : OpC} (hk : ¬ (kindN x.f.t = 3 ∨ kindN x.f.t = 2)) : (OpC.mk (zF 14) [x]).rightE = 110 := by
  have ha : (OpC.mk (zF 14) [x]).allE = 110 := by
    have hmay : mayN x.f.t (zF 14).t = false := by
      show mayN x.f.t 14 = false
      unfold mayN
      rw [if_neg (by decide)]
      simp only [Bool.or_eq_false_iff, beq_eq_false_iff_ne]
      exact ⟨fun e => hk (.inl e), fun e => hk (.inr e)⟩
    rw [OpC.allE, own_ok.2 (own_14 _), if_neg (by simp), allL, if_pos hmay]
  unfold OpC.rightE
  rw [ha, if_pos (by decide)]
/-- a list of lists, one put behind the other -/
theorem FlatSt.cat {base base' : Nat} {v v' : Value} {M R : List (OpC × List Value)} {W W' : World} (h : FlatSt base v M W) (hr : ∀ r ∈ R, ∃ b e, base' ≤ b ∧ Win W b e r.1 r.2) (hb : base ≤ base') (hv : ∀ g, v.ownBlock = some g → g < base')
    (hown : W'.ownsRow base 29 19 v' (M.length + R.length) (M.flatMap Prod.snd ++ R.flatMap Prod.snd)) (hg : W.grownBy W' v.ownBlock) (hat : v'.ownBlock = v.ownBlock ∨ v'.ownBlock = some W.heap.size) : FlatSt base v' (M ++ R) W' := by
  refine ⟨by rw [List.length_append, List.flatMap_append]; exact hown, Nat.le_trans h.bs hg.size, fun q hq => ?_⟩
  rcases List.mem_append.1 hq with hq | hq
  · obtain ⟨b', e', h1, h2, h3⟩ := h.win q hq
    refine ⟨b', e', h1, h2.grown hg h3, fun g hgv => ?_⟩
    rcases hat with hat | hat
    · exact h3 g (by rw [← hat]; exact hgv)
    · rw [hat] at hgv
      injection hgv with hgv
      obtain ⟨_, _, _, h5, _⟩ := h2
      right
      omega
  · obtain ⟨b', e', h1, h2⟩ := hr q hq
    refine ⟨b', e', Nat.le_trans hb h1, h2.grown hg (fun g hgv => .inl (Nat.lt_of_lt_of_le (hv g hgv) h1)), fun g hgv => ?_⟩
    rcases hat with hat | hat
    · exact .inl (Nat.lt_of_lt_of_le (hv g (by rw [← hat]; exact hgv)) h1)
    · rw [hat] at hgv
      injection hgv with hgv
      obtain ⟨_, _, _, h5, _⟩ := h2
      right
      omega
theorem FlatSt.ats {W : World} {base : Nat} {v : Value} {Q : List (OpC × List Value)} (h : FlatSt base v Q W) : ∀ q ∈ Q, At W none q.1 q.2 := fun q hq => by
  obtain ⟨b, e, _, h2, _⟩ := h.win q hq
  exact h2.at_.any
theorem FlatSt.sl {W : World} {base : Nat} {A : Option Addr} {c : Nat} {Q : List (OpC × List Value)} (h : FlatSt base (.slice A Q.length c) Q W) (hn : Q.length * 296 ≤ reachBytes) : SlAt W none 29 19 296 ⟨A, Q.length, c⟩ Q.length (Q.flatMap Prod.snd) := (SlAt.of_own h.own hn).any
end Go.Proofs.YtpjjnmdfgcfnmaaDoor
