/- A reading with its datum: for types that hold lists of themselves. -/
import Derived.Test.YtnbaajplelchjaaGreatDoorBase
set_option linter.unusedVariables false
set_option linter.unusedSimpArgs false
namespace Go.Proofs.YtnbaajplelchjaaGreatDoor
open Go.ChangeShapes Go.WideShapes Go.Deep Go.RowKit

section
variable {H : Type} {enc : TypeId × Value → H} {P : Program} {w : World} {t : TypeId} {cs : List Value} {d : DataW H}
def RdD (enc : TypeId × Value → H) (P : Program) (w : World) (t : TypeId) (cs : List Value) (d : DataW H) : Prop :=
  ∃ fuel pl, DataW.trod enc P w 0 (fun _ => true) true fuel t cs = some (d, pl) ∧ ∀ n ∈ d.weights P t, n ≤ reachBytes
theorem RdD.rd (h : RdD enc P w t cs d) : Rd enc P w t cs := by
  obtain ⟨fuel, pl, h1, h2⟩ := h
  exact ⟨fuel, (d, pl), h1, h2⟩
theorem Rd.datum (h : Rd enc P w t cs) : ∃ d, RdD enc P w t cs d := by
  obtain ⟨fuel, x, h1, h2⟩ := h
  exact ⟨x.1, fuel, x.2, h1, h2⟩
theorem RdD.struct {fs : Array Field} (h : RdD enc P w t cs d) (ht : P.underlying t = some (.struct fs)) : cs.length = P.cellsOf t ∧ ∀ (j : Nat) (f : Field), fs[j]? = some f → ∃ d' : DataW H, SizeOf.sizeOf d' < SizeOf.sizeOf d ∧ RdD enc P w f.type ((cs.drop f.offset).take (P.cellsOf f.type)) d' := by
  obtain ⟨fuel, pl, hx, hb⟩ := h
  obtain ⟨ys, n, _, hxy, hl, hyl, hf⟩ := DataW.trod_struct ht hx
  injection hxy with hd hpl
  subst hd
  refine ⟨hl, fun j f hj => ?_⟩
  have hjl : j < fs.size := (Array.getElem?_eq_some_iff.1 hj).1
  have hy : ys[j]? = some (ys[j]'(by omega)) := List.getElem?_eq_getElem (by omega)
  refine ⟨(ys[j]'(by omega)).1, ?_, n, (ys[j]'(by omega)).2, (hf j f hj).trans hy, fun m hm => hb m ?_⟩
  · have hm : (ys[j]'(by omega)).1 ∈ ys.map (·.1) := List.mem_map.2 ⟨_, List.getElem_mem _, rfl⟩
    have := List.sizeOf_lt_of_mem hm
    simp only [DataW.agg.sizeOf_spec]
    omega
  · simp only [DataW.weights, ht]
    refine DataW.weights_mem_each (j := j) (t := f.type) (d := (ys[j]'(by omega)).1) ?_ ?_ m hm
    · simp [hj]
    · simp [hy]
theorem RdD.slice {e : TypeId} (h : RdD enc P w t cs d) (ht : P.underlying t = some (.slice e)) : ∃ (A : Option Addr) (n c : Nat), cs = [.slice A n c] ∧ (A = none → n = 0 ∧ c = 0) ∧ n ≤ c ∧ c ≤ maxLen ∧ c * P.bytesOf e ≤ reachBytes ∧
    (0 < n → ∃ ad, A = some ad) ∧ ∀ i ad, i < n → A = some ad → ∃ (cs' : List Value) (d' : DataW H), w.cells? 0 (ad.add (i * P.cellsOf e)) (P.cellsOf e) = some cs' ∧ RdD enc P w e cs' d' ∧ SizeOf.sizeOf d' < SizeOf.sizeOf d := by
  obtain ⟨fuel, pl, hx, hb⟩ := h
  rcases open_slice ht hx with ⟨rfl, h0⟩ | ⟨a, len, cap, m, n, D, Pl, rfl, _, hl, hm, hmm, hxy, hi⟩
  · exact ⟨none, 0, 0, rfl, fun _ => ⟨rfl, rfl⟩, Nat.le_refl _, Nat.zero_le _, by simp, fun h => absurd h (by omega), fun i ad hi => absurd hi (by omega)⟩
  · injection hxy with hd hpl
    subst hd
    refine ⟨some a, len, cap, rfl, fun h => (by cases h), hl, hm, ?_, fun _ => ⟨a, rfl⟩, fun i ad hlt he => ?_⟩
    · simp only [if_true] at hmm
      subst hmm
      have := hb ((len + (m - len)) * P.bytesOf e) (by simp [DataW.weights, ht])
      rwa [show len + (m - len) = m by omega] at this
    · simp only [if_true] at hmm
      injection he with he
      subst he
      obtain ⟨cs', h1, h2⟩ := hi i (by omega)
      have hmem : D i ∈ (List.range len).map D := List.mem_map.2 ⟨i, List.mem_range.2 hlt, rfl⟩
      refine ⟨cs', D i, h1, ⟨n, _, h2, fun k hk => hb k ?_⟩, ?_⟩
      · simp only [DataW.weights, ht, List.mem_cons, List.mem_append]
        exact .inr (.inl (weightsAll_mem hmem hk))
      · have := List.sizeOf_lt_of_mem hmem
        simp only [DataW.slice.sizeOf_spec]
        omega
/-- a slice whose elements' cells are each told by a datum of ours -/
theorem RdD.rows {e : TypeId} {α : Type} (h : RdD enc P w t cs d) (ht : P.underlying t = some (.slice e)) {size : Nat} (hsize : P.cellsOf e = size) (hpos : 0 < size) (f : α → List Value) (R : α → Prop) (hf : ∀ (cs' : List Value) (d' : DataW H), RdD enc P w e cs' d' → SizeOf.sizeOf d' < SizeOf.sizeOf d → ∃ x, cs' = f x ∧ R x) :
    ∃ (A : Option Addr) (n c : Nat) (L : List α), cs = [.slice A n c] ∧ (A = none → n = 0 ∧ c = 0) ∧ n ≤ c ∧ c ≤ maxLen ∧ c * P.bytesOf e ≤ reachBytes ∧ L.length = n ∧ (∀ x ∈ L, R x) ∧ Reads w w.heap.size size A n (L.flatMap f) := by
  obtain ⟨A, n, c, rfl, h1, h2, h3, h4, h5, h6⟩ := h.slice ht
  rw [hsize] at h6
  rcases Nat.eq_zero_or_pos n with rfl | hn
  · exact ⟨A, 0, c, [], rfl, h1, h2, h3, h4, rfl, fun x hx => (by cases hx), by simpa using Reads.none_⟩
  obtain ⟨ad, rfl⟩ := h5 hn
  have key : ∀ i, i < n → ∃ x, R x ∧ (f x).length = size ∧ ∀ k u, (f x)[k]? = some u → w.cell? (ad.add (i * size + k)) = some u := by
    intro i hi
    obtain ⟨cs', d', hcs, hrd, hsz⟩ := h6 i ad hi rfl
    obtain ⟨_, hl, hat⟩ := World.cells?_some hcs
    obtain ⟨x, rfl, hR⟩ := hf cs' d' hrd hsz
    refine ⟨x, hR, hl, fun k u hu => ?_⟩
    have hk : k < size := by rw [← hl]; exact (List.getElem?_eq_some_iff.1 hu).1
    rw [← add_of_add, hat k hk, hu]
  have build : ∀ m, m ≤ n → ∃ L : List α, L.length = m ∧ (∀ x ∈ L, R x) ∧ (L.flatMap f).length = m * size ∧ ∀ j u, (L.flatMap f)[j]? = some u → w.cell? (ad.add j) = some u := by
    intro m
    induction m with
    | zero => exact fun _ => ⟨[], rfl, fun x hx => (by cases hx), by simp, fun j u hu => by simp at hu⟩
    | succ m ih =>
      intro hm
      obtain ⟨L, hL, hR, hlen, hc⟩ := ih (by omega)
      obtain ⟨x, hx, hl, hxc⟩ := key m (by omega)
      refine ⟨L ++ [x], by simp [hL], ?_, by simp [List.flatMap_append, hlen, hl, Nat.succ_mul], fun j u hu => ?_⟩
      · intro y hy
        rcases List.mem_append.1 hy with hy | hy
        · exact hR y hy
        · rw [List.mem_singleton.1 hy]; exact hx
      · rw [List.flatMap_append] at hu
        rcases Nat.lt_or_ge j (m * size) with hj | hj
        · rw [List.getElem?_append_left (by omega)] at hu
          exact hc j u hu
        · rw [List.getElem?_append_right (by omega), hlen] at hu
          have := hxc (j - m * size) u (by simpa using hu)
          rwa [show m * size + (j - m * size) = j by omega] at this
  obtain ⟨L, hL, hR, hlen, hc⟩ := build n (Nat.le_refl _)
  refine ⟨some ad, n, c, L, rfl, h1, h2, h3, h4, hL, hR, hlen, fun _ => ⟨ad, rfl, ?_, hc⟩⟩
  have hp : 0 < (L.flatMap f).length := by rw [hlen]; exact Nat.mul_pos hn hpos
  have hlt := cell_lt (hc 0 _ (List.getElem?_eq_getElem hp))
  rwa [block_of_add] at hlt
theorem RdD.array {n : Nat} {e : TypeId} (h : RdD enc P w t cs d) (ht : P.underlying t = some (.array n e)) : cs.length = P.cellsOf t ∧ ∀ i, i < n → Rd enc P w e ((cs.drop (i * P.cellsOf e)).take (P.cellsOf e)) := by
  obtain ⟨fuel, pl, hx, hb⟩ := h
  obtain ⟨ys, m, _, hxy, hl, hyl, hf⟩ := DataW.trod_array ht hx
  injection hxy with hd hpl
  subst hd
  refine ⟨hl, fun i hi => ?_⟩
  have hy : ys[i]? = some (ys[i]'(by omega)) := List.getElem?_eq_getElem (by omega)
  refine ⟨m, ys[i]'(by omega), (hf i hi).trans hy, fun k hk => hb k ?_⟩
  have hm : (ys[i]'(by omega)).1 ∈ ys.map (·.1) := List.mem_map.2 ⟨_, List.getElem_mem _, rfl⟩
  simp only [DataW.weights, ht]
  exact weightsAll_mem hm hk
end
end Go.Proofs.YtnbaajplelchjaaGreatDoor
