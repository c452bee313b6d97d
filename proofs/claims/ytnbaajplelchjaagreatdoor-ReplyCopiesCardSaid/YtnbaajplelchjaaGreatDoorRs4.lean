/- Rows of results in a list: out of the list's cells; a row loaded in a region that draws its order. -/
import Derived.Test.YtnbaajplelchjaaGreatDoorRs3
import Derived.Test.YtnbaajplelchjaaGreatDoorInv
import Derived.Test.YtnbaajplelchjaaGreatDoorSeq
set_option linter.unusedVariables false
set_option linter.unusedSimpArgs false
namespace Go.Proofs.YtnbaajplelchjaaGreatDoor
open Go.RowKit

theorem isz_5 : (Tryz.prog.info? 5).map (·.size) = some 1 := by kernel_rfl
theorem isz_9 : (Tryz.prog.info? 9).map (·.size) = some 1 := by kernel_rfl
theorem isz_25 : (Tryz.prog.info? 25).map (·.size) = some 1 := by kernel_rfl
theorem isz_27 : (Tryz.prog.info? 27).map (·.size) = some 1 := by kernel_rfl
theorem isz_26 : (Tryz.prog.info? 26).map (·.size) = some 1 := by kernel_rfl
theorem isz_28 : (Tryz.prog.info? 28).map (·.size) = some 1 := by kernel_rfl
theorem isz_31 : (Tryz.prog.info? 31).map (·.size) = some 1 := by kernel_rfl
theorem isz_21 : (Tryz.prog.info? 21).map (·.size) = some 1 := by kernel_rfl
theorem isz_2 : (Tryz.prog.info? 2).map (·.size) = some 1 := by kernel_rfl
theorem isz_115 : (Tryz.prog.info? 115).map (·.size) = some 3 := by kernel_rfl
theorem isz_113 : (Tryz.prog.info? 113).map (·.size) = some 2 := by kernel_rfl
theorem isz_33 : (Tryz.prog.info? 33).map (·.size) = some 22 := by kernel_rfl
theorem isz_24 : (Tryz.prog.info? 24).map (·.size) = some 11 := by kernel_rfl
theorem isz_30 : (Tryz.prog.info? 30).map (·.size) = some 3 := by kernel_rfl
theorem isz_22 : (Tryz.prog.info? 22).map (·.size) = some 1 := by kernel_rfl
theorem subs_row : ∀ (Q : List (ResC × List Value)), (∀ q ∈ Q, q.2.length = 22) → ∀ (j : Nat) (hj : j < Q.length) (k : Nat), k < 22 → (Q.flatMap Prod.snd)[j * 22 + k]? = (Q[j]).2[k]?
  | [], _, j, hj, _, _ => absurd hj (by simp)
  | q :: r, h, j, hj, k, hk => by
    have hq := h q (by simp)
    rw [List.flatMap_cons]
    rcases j with _ | j
    · rw [Nat.zero_mul, Nat.zero_add, List.getElem?_append_left (by omega)]
      rfl
    · rw [List.getElem?_append_right (by omega), hq, show (j + 1) * 22 + k - 22 = j * 22 + k by omega, subs_row r (fun x hx => h x (by simp [hx])) j (by simpa using hj) k hk]
      rfl
/-- the cells of a row of the list, where they lie -/
theorem subs_cells {w : World} {B n : Nat} {A : Option Addr} {Q : List (ResC × List Value)} (h : Reads w B 22 A n (Q.flatMap Prod.snd)) (hl : ∀ q ∈ Q, q.2.length = 22) (hn : Q.length = n) {j : Nat} (hj : j < Q.length) :
    ∃ ad, A = some ad ∧ ∀ k v, (Q[j]).2[k]? = some v → w.cell? ((ad.add (j * 22)).add k) = some v := by
  obtain ⟨ad, hA, _, hc⟩ := h.2 (by omega)
  refine ⟨ad, hA, fun k v hk => ?_⟩
  have hk22 : k < 22 := by
    have := (List.getElem?_eq_some_iff.1 hk).1
    rwa [hl _ (List.getElem_mem hj)] at this
  rw [add_of_add]
  exact hc (j * 22 + k) v ((subs_row Q hl j hj k hk22).trans hk)
end Go.Proofs.YtnbaajplelchjaaGreatDoor
