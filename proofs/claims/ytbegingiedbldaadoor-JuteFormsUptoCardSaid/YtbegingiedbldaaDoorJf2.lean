/- JuteForms: a script's readings, written again: plain. -/
import Derived.Test.YtbegingiedbldaaDoorJf1
import Derived.Test.YtbegingiedbldaaDoorJq3
namespace Go.Proofs.YtbegingiedbldaaDoor
open Go.RowKit

/-- the readings that are asked for kinds -/
def fmK (most k : Int) : List St := if 1 ≤ k ∧ k ≤ 8 then [⟨k, most, 0, 0⟩] else []
def fmS (most : Int) (K : List Int) : List St := K.flatMap (fmK most)
theorem fmS_kind {most : Int} {K : List Int} {s : St} (h : s ∈ fmS most K) : ∃ k, s = ⟨k, most, 0, 0⟩ ∧ 1 ≤ k ∧ k ≤ 8 := by
  obtain ⟨k, _, hk⟩ := List.mem_flatMap.1 h
  unfold fmK at hk
  split at hk
  · exact ⟨k, by simpa using hk, by assumption⟩
  · cases hk
/-- a script that ends well goes well at each step -/
theorem mid_ok {l : List UInt8} {S : List St} {k q : Nat} {N : List Int} {T : List (List UInt8)} {s : St} (h : MidP l S k q N T) (hk : S[k]? = some s) (he : ∃ q', (play S l 0).2 = .inl q') : ∃ g q1, stepR s l q = .inl (g, q1) := by
  rcases hr : stepR s l q with ⟨g, q1⟩ | e
  · exact ⟨g, q1, rfl⟩
  · obtain ⟨q', hq'⟩ := he
    have := (h.fail hk hr).2
    rw [hq'] at this
    cases this
/-- in the midst of it: the values so far, and their bytes -/
def FormMid (l : List UInt8) (S : List St) (k q : Nat) (N : List Int) (T : List (List UInt8)) (V : List Vl) : Prop :=
  MidP l S k q N T ∧ q ≤ l.length ∧ V.flatMap bVl = l.take q ∧ V.length = k
theorem FormMid.step {l : List UInt8} {S : List St} {k q : Nat} {N : List Int} {T : List (List UInt8)} {V : List Vl} {z most : Int} {g : Gt} {q1 : Nat} {A : Option Addr} {c : Nat} (h : FormMid l S k q N T V) (hk : S[k]? = some ⟨z, most, 0, 0⟩) (hz : 1 ≤ z ∧ z ≤ 8) (hs : stepR ⟨z, most, 0, 0⟩ l q = .inl (g, q1)) :
    FormMid l S (k + 1) q1 (N ++ g.1) (T ++ g.2) (V ++ [vlOf z g A (if z = 8 then g.2.length else 0) c]) ∧ GtShape z g := by
  obtain ⟨h1, h2, h3, h4⟩ := h
  obtain ⟨f1, f2, f3, f4⟩ := form_step hz h2 hs
  refine ⟨⟨h1.step h2 hk hs, f3, ?_, by simp [h4]⟩, f1⟩
  rw [List.flatMap_append, h3]
  simp only [List.flatMap_cons, List.flatMap_nil, List.append_nil]
  rw [f4, show q1 = q + (q1 - q) by omega, List.take_add, show q + (q1 - q) - q = q1 - q by omega]
end Go.Proofs.YtbegingiedbldaaDoor
