/- What an argument of the Ops laws is: an operation, a request, bytes. -/
import Derived.Test.YtpjjnmdfgcfnmaaGreatDoorOqa
import Derived.Test.YtpjjnmdfgcfnmaaGreatDoorJy
set_option linter.unusedVariables false
set_option linter.unusedSimpArgs false
namespace Go.Proofs.YtpjjnmdfgcfnmaaGreatDoor
open Go.ChangeShapes Go.WideShapes Go.ChangeAt Go.RowKit

section
variable {H : Type} {enc : TypeId × Value → H} {W : World} {base : Nat}
theorem rdd_of {P : Program} {v : Value} {d : DataW H} {p : List MemPlace} {t : TypeId} {ts : List TypeId} {ds : List (DataW H)} (j : Nat) (h : DataW.Trod enc P W 0 (fun _ => true) true t v d p)
    (hsz : (DataW.weightsEach P ts ds).all (· ≤ reachBytes) = true) (ht : ts[j]? = some t) (hd : ds[j]? = some d) : RdD enc P W t v.cells.toList d := by
  obtain ⟨fuel, hf⟩ := h
  exact ⟨fuel, _, hf, fun n hn => by simpa using List.all_eq_true.1 hsz _ (DataW.weights_mem_each ht hd n hn)⟩
theorem bulkAll_part {d : DataW H} {l : List (DataW H)} (h : d ∈ l) : Rows.uptoBulk d ≤ Rows.uptoBulkAll l := by
  induction l with
  | nil => cases h
  | cons x r ih =>
    simp only [Rows.uptoBulkAll]
    rcases List.mem_cons.1 h with e | e
    · subst e; omega
    · have := ih e; omega
set_option maxRecDepth 100000 in
theorem agg_arg {t : TypeId} {fs : Array Field} (ht : Tryz.prog.underlying t = some (.struct fs)) {v : Value} (hv : Value.okWide Tryz.prog W .any base t v) {cs0 : List Value} (hcs : v.cells.toList = cs0) : v = .agg cs0.toArray := by
  obtain ⟨cs, rfl, _⟩ : ∃ cs, v = .agg cs ∧ True := by
    unfold Value.okWide at hv
    rw [ht] at hv
    obtain ⟨cs, h, _⟩ := hv
    exact ⟨cs, h, trivial⟩
  have : cs = cs0.toArray := Array.ext' (by simpa [Value.cells] using hcs)
  rw [this]
theorem cells_sliceO {P : Program} {w : World} {r : Reach} {b : Nat} {t e : TypeId} {v : Value} {A : Option Addr} {n c : Nat} (ht : P.underlying t = some (.slice e)) (hv : Value.okWide P w r b t v) (h : v.cells.toList = [.slice A n c]) : v = .slice A n c := by
  obtain ⟨a, len, cap, rfl⟩ := okWide_slice ht hv
  simpa [Value.cells] using h
set_option maxRecDepth 100000 in
/-- an operation -/
theorem op_argO {v : Value} {d : DataW H} (hv : Value.okWide Tryz.prog W .any base 29 v) (h : RdD enc Tryz.prog W 29 v.cells.toList d) : ∃ (x : OpC) (xs : List Value), v = .agg xs.toArray ∧ At W none x xs ∧ x.bulk ≤ Rows.uptoBulk d := by
  obtain ⟨x, hx, hb⟩ := op_openN (SizeOf.sizeOf d) d (Nat.le_refl _) _ h
  exact ⟨x, _, agg_arg Tryz.underlying29 hv rfl, hx, hb⟩
end
theorem env_laid {l : List (String × DataW Unit)} {W : World} (hlaid : laidMetH Tryz.prog l W) (hp : (l.all fun x => x.2.handleName?.isNone) = true) (m1 : ("unicode/utf8.first", Rows.laid_unicode_utf8_first) ∈ l) (m2 : ("unicode/utf8.acceptRanges", Rows.laid_unicode_utf8_acceptRanges) ∈ l) : Env W := env_of hlaid hp m1 m2
end Go.Proofs.YtpjjnmdfgcfnmaaGreatDoor
