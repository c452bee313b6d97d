/- Values as an argument. -/
import Derived.Test.YtbegingiedbldaaDoorJv1
import Derived.Test.YtbegingiedbldaaDoorJl3
namespace Go.Proofs.YtbegingiedbldaaDoor
open Go.ChangeShapes Go.WideShapes Go.ChangeAt Go.RowKit

/-- how great a value is -/
def vlSize (v : Vl) : Nat := max v.t.size ((v.L.map fun s => s.size + 1).sum) + 1
theorem bTexts_le (L : List ByteArray) : (bTexts L).length ≤ 4 * (L.map fun s => s.size + 1).sum := by
  induction L with
  | nil => simp [bTexts]
  | cons s L ih =>
    have h : bTexts (s :: L) = bBuf s.data.toList ++ bTexts L := by simp [bTexts]
    rw [h, List.length_append, bBuf_len, ← bsize_eq, List.map_cons, List.sum_cons]
    omega
theorem bVl_le (v : Vl) : (bVl v).length ≤ 8 * vlSize v := by
  have h1 := bTexts_le v.L
  have h2 : v.t.size ≤ vlSize v - 1 := by unfold vlSize; omega
  have h3 : (v.L.map fun s => s.size + 1).sum ≤ vlSize v - 1 := by unfold vlSize; omega
  have h4 : 1 ≤ vlSize v := by unfold vlSize; omega
  have h5 := bsize_eq v.t
  unfold bVl
  repeat (first
    | (split)
    | (simp only [List.length_append, bInt_len, bLong_len, bBuf_len, bBool, bByte, List.length_cons, List.length_nil]; omega))
theorem bVls_le (S : List Vl) : (S.flatMap bVl).length ≤ 8 * (S.map vlSize).sum := by
  induction S with
  | nil => simp
  | cons v S ih =>
    have := bVl_le v
    rw [List.flatMap_cons, List.length_append, List.map_cons, List.sum_cons]
    omega
theorem scells_flat (L : List ByteArray) : L.flatMap (fun s : ByteArray => [Value.string s]) = scells L := by
  induction L with
  | nil => rfl
  | cons a L ih => simp [scells] at ih ⊢; exact ih

/-- what a value's texts are in memory -/
def VlOk (w : World) (v : Vl) : Prop := Reads w w.heap.size 1 v.A v.n (scells v.L) ∧ v.L.length = v.n ∧ v.n ≤ v.c ∧ v.c ≤ maxLen ∧ (v.A = none → v.n = 0 ∧ v.c = 0) ∧ (Lit.int .i64 v.k).wf = true ∧ (Lit.int .i64 v.z).wf = true

section
variable {H : Type} {enc : TypeId × Value → H} {w : World}
theorem vl_open {cs : List Value} {m : Nat} (h : RdU enc Tryd.prog w 68 m cs) : ∃ v : Vl, cs = vlCells v ∧ VlOk w v ∧ vlSize v ≤ m := by
  obtain ⟨hl, hf⟩ := h.struct Tryd.underlying68
  rw [show Tryd.prog.cellsOf 68 = 4 by kernel_rfl] at hl
  obtain ⟨c0, c1, c2, c3, rfl⟩ := cells_list4 cs hl
  have k0 : Tryd.prog.cellsOf 3 = 1 := by kernel_rfl
  have k1 : Tryd.prog.cellsOf 2 = 1 := by kernel_rfl
  have k2 : Tryd.prog.cellsOf 9 = 1 := by kernel_rfl
  have k3 : Tryd.prog.cellsOf 26 = 1 := by kernel_rfl
  have h0 : RdU enc Tryd.prog w 3 m (([c0, c1, c2, c3].drop 0).take (Tryd.prog.cellsOf 3)) := hf 0 _ rfl
  have h1 : RdU enc Tryd.prog w 2 m (([c0, c1, c2, c3].drop 1).take (Tryd.prog.cellsOf 2)) := hf 1 _ rfl
  have h2 : RdU enc Tryd.prog w 9 m (([c0, c1, c2, c3].drop 2).take (Tryd.prog.cellsOf 9)) := hf 2 _ rfl
  have h3 : RdU enc Tryd.prog w 26 m (([c0, c1, c2, c3].drop 3).take (Tryd.prog.cellsOf 26)) := hf 3 _ rfl
  rw [k0] at h0
  rw [k1] at h1
  rw [k2] at h2
  rw [k3] at h3
  obtain ⟨a, e0, w0⟩ := h0.rd.int Tryd.underlying3
  obtain ⟨b, e1, w1⟩ := h1.rd.int Tryd.underlying2
  obtain ⟨t, e2, w2⟩ := h2.string Tryd.underlying9
  obtain ⟨A, n, c, L, e3, x1, x2, x3, _, x4, _, x5, x6⟩ := h3.rows Tryd.underlying26 (size := 1) (by kernel_rfl) (by decide) (fun s : ByteArray => [Value.string s]) (fun _ => True) (fun s => s.size + 1) (fun cs' m' hr => by
    obtain ⟨s, rfl, hs⟩ := hr.string Tryd.underlying9
    exact ⟨s, rfl, trivial, hs⟩)
  rw [scells_flat] at x5
  simp at e0 e1 e2 e3
  subst e0 e1 e2 e3
  exact ⟨⟨a, b, t, A, n, c, L⟩, rfl, ⟨x5, x4, x2, x3, x1, w0, w1⟩, by unfold vlSize; dsimp only; omega⟩
theorem vls_open {v : Value} {m : Nat} (h : RdU enc Tryd.prog w 66 m v.cells.toList) : ∃ (A : Option Addr) (n c : Nat) (S : List Vl), v.cells.toList = [.slice A n c] ∧ S.length = n ∧ (∀ s ∈ S, VlOk w s) ∧ Reads w w.heap.size 4 A n (S.flatMap vlCells) ∧ (S.map vlSize).sum + 1 ≤ m := by
  obtain ⟨A, n, c, S, h1, h2, h3, h4, h5, h6, h7, h8, h9⟩ := h.rows Tryd.underlying66 (size := 4) (by kernel_rfl) (by decide) vlCells (VlOk w) vlSize (fun cs' m' hr => vl_open hr)
  exact ⟨A, n, c, S, h1, h6, h7, h8, h9⟩
theorem vlSize_pos (S : List Vl) : S.length ≤ (S.map vlSize).sum := by
  induction S with
  | nil => simp
  | cons v S ih =>
    have : 1 ≤ vlSize v := by unfold vlSize; omega
    rw [List.map_cons, List.sum_cons, List.length_cons]
    omega
end
end Go.Proofs.YtbegingiedbldaaDoor
