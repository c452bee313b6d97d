/- What an argument of the Ops laws is: an operation, a request, bytes. -/
import Derived.Test.YtpjjnmdfgcfnmaaGreatDoorOqa
import Derived.Test.YtpjjnmdfgcfnmaaGreatDoorJy
set_option linter.unusedVariables false
set_option linter.unusedSimpArgs false
namespace Go.Proofs.YtpjjnmdfgcfnmaaGreatDoor
open Go.ChangeShapes Go.WideShapes Go.ChangeAt Go.RowKit

section
variable {H : Type} {enc : TypeId × Value → H} {W : World} {base : Nat}
theorem rdd_of {P : Program} {v : Value} {d : DataW H} {p : List MemPlace} {t : TypeId} {ts : List TypeId} {ds : List (DataW H)} (j : Nat) (h : DataW.Trod enc P W 0 (fun _ => true) true t v d p)
    (hsz : (DataW.weightsEach P ts ds).all (· ≤ reachBytes) = true) (ht : ts[j]? = some t) (hd : ds[j]? = some d) : RdD enc P W t v.cells.toList d := by
  obtain ⟨fuel, hf⟩ := h
  exact ⟨fuel, _, hf, fun n hn => by simpa using List.all_eq_true.1 hsz _ (DataW.weights_mem_each ht hd n hn)⟩
theorem cells_sliceO {P : Program} {w : World} {r : Reach} {b : Nat} {t e : TypeId} {v : Value} {A : Option Addr} {n c : Nat} (ht : P.underlying t = some (.slice e)) (hv : Value.okWide P w r b t v) (h : v.cells.toList = [.slice A n c]) : v = .slice A n c := by
  obtain ⟨a, len, cap, rfl⟩ := okWide_slice ht hv
  simpa [Value.cells] using h
end
theorem env_laid {l : List (String × DataW Unit)} {W : World} (hlaid : laidMetH Tryz.prog l W) (hp : (l.all fun x => x.2.handleName?.isNone) = true) (m1 : ("unicode/utf8.first", Rows.laid_unicode_utf8_first) ∈ l) (m2 : ("unicode/utf8.acceptRanges", Rows.laid_unicode_utf8_acceptRanges) ∈ l) : Env W := env_of hlaid hp m1 m2
end Go.Proofs.YtpjjnmdfgcfnmaaGreatDoor
/- What an argument of the Ops laws is: a request, bytes. -/
namespace Go.Proofs.YtpjjnmdfgcfnmaaGreatDoor
open Go.ChangeShapes Go.WideShapes Go.ChangeAt Go.RowKit

section
variable {H : Type} {enc : TypeId × Value → H} {W : World} {base : Nat}
set_option maxRecDepth 100000 in
/-- bytes -/
theorem bytes_argO {v : Value} {d : DataW H} (hv : Value.okWide Tryz.prog W .any base 22 v) (h : RdD enc Tryz.prog W 22 v.cells.toList d) : ∃ (A : Option Addr) (n c : Nat) (l : List UInt8), v = .slice A n c ∧ (A = none → n = 0 ∧ c = 0) ∧ n ≤ c ∧ c ≤ maxLen ∧ n ≤ reachBytes ∧ l.length = n ∧ Reads W W.heap.size 1 A n (bcells l) ∧ l.length + 1 ≤ Rows.uptoBulk d := by
  obtain ⟨A, n, c, l, e, x1, x2, x3, x4, x5, u⟩ := h.bytesU Tryz.underlying22 Tryz.underlying5 (by kernel_rfl) (by kernel_rfl)
  exact ⟨A, n, c, l, cells_sliceO Tryz.underlying22 hv e, x1, x2, Nat.le_trans x3 (by decide), Nat.le_trans x2 x3, x4, x5, by omega⟩
end
end Go.Proofs.YtpjjnmdfgcfnmaaGreatDoor
