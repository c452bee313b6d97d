/- A node as an argument: its cells. -/
import Derived.Test.YtaojjjcaofhmcaaDoorSt
import Derived.Test.YtaojjjcaofhmcaaDoorBase
set_option linter.unusedVariables false
set_option linter.unusedSimpArgs false
namespace Go.Proofs.YtaojjjcaofhmcaaDoor
open Go.ChangeShapes Go.WideShapes Go.ChangeAt Go.RowKit

set_option maxRecDepth 100000 in
theorem cells_list17 {α : Type} (cs : List α) (h : cs.length = 17) : ∃ c0 c1 c2 c3 c4 c5 c6 c7 c8 c9 c10 c11 c12 c13 c14 c15 c16, cs = [c0, c1, c2, c3, c4, c5, c6, c7, c8, c9, c10, c11, c12, c13, c14, c15, c16] := by
  match cs, h with
  | [c0, c1, c2, c3, c4, c5, c6, c7, c8, c9, c10, c11, c12, c13, c14, c15, c16], _ => exact ⟨_, _, _, _, _, _, _, _, _, _, _, _, _, _, _, _, _, rfl⟩
section
variable {H : Type} {enc : TypeId × Value → H} {w : World}
set_option maxRecDepth 100000 in
theorem acl_open {cs : List Value} (h : Rd enc Tryd.prog w 57 cs) : ∃ x : Int × ByteArray × ByteArray, cs = [.int .i32 x.1, .string x.2.1, .string x.2.2] ∧ (Lit.int .i32 x.1).wf = true ∧ x.2.1.size ≤ reachBytes ∧ x.2.2.size ≤ reachBytes := by
  have k1 : Tryd.prog.cellsOf 21 = 1 := by kernel_rfl
  have k2 : Tryd.prog.cellsOf 55 = 2 := by kernel_rfl
  have k3 : Tryd.prog.cellsOf 9 = 1 := by kernel_rfl
  obtain ⟨hl, hf⟩ := h.struct Tryd.underlying57
  rw [show Tryd.prog.cellsOf 57 = 3 by kernel_rfl] at hl
  obtain ⟨c0, c1, c2, rfl⟩ : ∃ c0 c1 c2, cs = [c0, c1, c2] := by
    match cs, hl with
    | [c0, c1, c2], _ => exact ⟨_, _, _, rfl⟩
  have h0 : Rd enc Tryd.prog w 21 (([c0, c1, c2].drop 0).take (Tryd.prog.cellsOf 21)) := hf 0 _ rfl
  have h1 : Rd enc Tryd.prog w 55 (([c0, c1, c2].drop 1).take (Tryd.prog.cellsOf 55)) := hf 1 _ rfl
  rw [k1] at h0
  rw [k2] at h1
  obtain ⟨_, hg⟩ := h1.struct Tryd.underlying55
  have h2 : Rd enc Tryd.prog w 9 (((([c0, c1, c2].drop 1).take 2).drop 0).take (Tryd.prog.cellsOf 9)) := hg 0 _ rfl
  have h3 : Rd enc Tryd.prog w 9 (((([c0, c1, c2].drop 1).take 2).drop 1).take (Tryd.prog.cellsOf 9)) := hg 1 _ rfl
  rw [k3] at h2 h3
  obtain ⟨z, e0, wz⟩ := h0.int Tryd.underlying21
  obtain ⟨s, e1, ws⟩ := h2.string Tryd.underlying9
  obtain ⟨i, e2, wi⟩ := h3.string Tryd.underlying9
  simp at e0 e1 e2
  subst e0 e1 e2
  exact ⟨(z, s, i), rfl, wz, ws, wi⟩
set_option maxRecDepth 100000 in
theorem node_open {cs : List Value} (h : Rd enc Tryd.prog w 32 cs) : ∃ (p : ByteArray) (dA : Option Addr) (dn dc : Nat) (aA : Option Addr) (an ac : Nat) (l : List UInt8) (L : List (Int × ByteArray × ByteArray)) (o cz mz pz az qz ct mt ve cr av : Int) (qh : Bool) (qc qb : Int),
    cs = [.string p, .slice dA dn dc, .slice aA an ac, .int .i64 o, .int .i64 cz, .int .i64 mz, .int .i64 pz, .int .i64 az, .int .i64 qz, .int .i64 ct, .int .i64 mt, .int .i32 ve, .int .i32 cr, .int .i32 av, .bool qh, .int .i64 qc, .int .i64 qb] ∧
    p.size ≤ reachBytes ∧ (dA = none → dn = 0 ∧ dc = 0) ∧ (aA = none → an = 0 ∧ ac = 0) ∧ (dn ≤ dc ∧ dc ≤ reachBytes) ∧ (an ≤ ac ∧ ac * 40 ≤ reachBytes) ∧ l.length = dn ∧ L.length = an ∧
    (∀ x ∈ L, (Lit.int .i32 x.1).wf = true ∧ x.2.1.size ≤ reachBytes ∧ x.2.2.size ≤ reachBytes) ∧ Reads w w.heap.size 1 dA dn (bcells l) ∧ Reads w w.heap.size 3 aA an (aclCells L) ∧
    (Lit.int .i64 o).wf = true ∧ (Lit.int .i64 cz).wf = true ∧ (Lit.int .i64 mz).wf = true ∧ (Lit.int .i64 pz).wf = true ∧ (Lit.int .i64 az).wf = true ∧ (Lit.int .i64 qz).wf = true ∧ (Lit.int .i64 ct).wf = true ∧ (Lit.int .i64 mt).wf = true ∧ (Lit.int .i32 ve).wf = true ∧ (Lit.int .i32 cr).wf = true ∧ (Lit.int .i32 av).wf = true ∧ (Lit.int .i64 qc).wf = true ∧ (Lit.int .i64 qb).wf = true := by
  obtain ⟨hl, hf⟩ := h.struct Tryd.underlying32
  rw [show Tryd.prog.cellsOf 32 = 17 by kernel_rfl] at hl
  obtain ⟨c0, c1, c2, c3, c4, c5, c6, c7, c8, c9, c10, c11, c12, c13, c14, c15, c16, rfl⟩ := cells_list17 cs hl
  have kstring : Tryd.prog.cellsOf 9 = 1 := by kernel_rfl
  have kSuint8 : Tryd.prog.cellsOf 24 = 1 := by kernel_rfl
  have kSapi_Acl : Tryd.prog.cellsOf 28 = 1 := by kernel_rfl
  have kint64 : Tryd.prog.cellsOf 2 = 1 := by kernel_rfl
  have kint32 : Tryd.prog.cellsOf 21 = 1 := by kernel_rfl
  have kbool : Tryd.prog.cellsOf 4 = 1 := by kernel_rfl
  have kQ : Tryd.prog.cellsOf 30 = 3 := by kernel_rfl
  have h0 : Rd enc Tryd.prog w 9 (([c0, c1, c2, c3, c4, c5, c6, c7, c8, c9, c10, c11, c12, c13, c14, c15, c16].drop 0).take (Tryd.prog.cellsOf 9)) := hf 0 _ rfl
  rw [kstring] at h0
  have h1 : Rd enc Tryd.prog w 24 (([c0, c1, c2, c3, c4, c5, c6, c7, c8, c9, c10, c11, c12, c13, c14, c15, c16].drop 1).take (Tryd.prog.cellsOf 24)) := hf 1 _ rfl
  rw [kSuint8] at h1
  have h2 : Rd enc Tryd.prog w 28 (([c0, c1, c2, c3, c4, c5, c6, c7, c8, c9, c10, c11, c12, c13, c14, c15, c16].drop 2).take (Tryd.prog.cellsOf 28)) := hf 2 _ rfl
  rw [kSapi_Acl] at h2
  have h3 : Rd enc Tryd.prog w 2 (([c0, c1, c2, c3, c4, c5, c6, c7, c8, c9, c10, c11, c12, c13, c14, c15, c16].drop 3).take (Tryd.prog.cellsOf 2)) := hf 3 _ rfl
  rw [kint64] at h3
  have h4 : Rd enc Tryd.prog w 2 (([c0, c1, c2, c3, c4, c5, c6, c7, c8, c9, c10, c11, c12, c13, c14, c15, c16].drop 4).take (Tryd.prog.cellsOf 2)) := hf 4 _ rfl
  rw [kint64] at h4
  have h5 : Rd enc Tryd.prog w 2 (([c0, c1, c2, c3, c4, c5, c6, c7, c8, c9, c10, c11, c12, c13, c14, c15, c16].drop 5).take (Tryd.prog.cellsOf 2)) := hf 5 _ rfl
  rw [kint64] at h5
  have h6 : Rd enc Tryd.prog w 2 (([c0, c1, c2, c3, c4, c5, c6, c7, c8, c9, c10, c11, c12, c13, c14, c15, c16].drop 6).take (Tryd.prog.cellsOf 2)) := hf 6 _ rfl
  rw [kint64] at h6
  have h7 : Rd enc Tryd.prog w 2 (([c0, c1, c2, c3, c4, c5, c6, c7, c8, c9, c10, c11, c12, c13, c14, c15, c16].drop 7).take (Tryd.prog.cellsOf 2)) := hf 7 _ rfl
  rw [kint64] at h7
  have h8 : Rd enc Tryd.prog w 2 (([c0, c1, c2, c3, c4, c5, c6, c7, c8, c9, c10, c11, c12, c13, c14, c15, c16].drop 8).take (Tryd.prog.cellsOf 2)) := hf 8 _ rfl
  rw [kint64] at h8
  have h9 : Rd enc Tryd.prog w 2 (([c0, c1, c2, c3, c4, c5, c6, c7, c8, c9, c10, c11, c12, c13, c14, c15, c16].drop 9).take (Tryd.prog.cellsOf 2)) := hf 9 _ rfl
  rw [kint64] at h9
  have h10 : Rd enc Tryd.prog w 2 (([c0, c1, c2, c3, c4, c5, c6, c7, c8, c9, c10, c11, c12, c13, c14, c15, c16].drop 10).take (Tryd.prog.cellsOf 2)) := hf 10 _ rfl
  rw [kint64] at h10
  have h11 : Rd enc Tryd.prog w 21 (([c0, c1, c2, c3, c4, c5, c6, c7, c8, c9, c10, c11, c12, c13, c14, c15, c16].drop 11).take (Tryd.prog.cellsOf 21)) := hf 11 _ rfl
  rw [kint32] at h11
  have h12 : Rd enc Tryd.prog w 21 (([c0, c1, c2, c3, c4, c5, c6, c7, c8, c9, c10, c11, c12, c13, c14, c15, c16].drop 12).take (Tryd.prog.cellsOf 21)) := hf 12 _ rfl
  rw [kint32] at h12
  have h13 : Rd enc Tryd.prog w 21 (([c0, c1, c2, c3, c4, c5, c6, c7, c8, c9, c10, c11, c12, c13, c14, c15, c16].drop 13).take (Tryd.prog.cellsOf 21)) := hf 13 _ rfl
  rw [kint32] at h13
  have h14 : Rd enc Tryd.prog w 30 (([c0, c1, c2, c3, c4, c5, c6, c7, c8, c9, c10, c11, c12, c13, c14, c15, c16].drop 14).take (Tryd.prog.cellsOf 30)) := hf 14 _ rfl
  rw [kQ] at h14
  obtain ⟨_, hq⟩ := h14.struct Tryd.underlying30
  have q0 : Rd enc Tryd.prog w 4 (((([c0, c1, c2, c3, c4, c5, c6, c7, c8, c9, c10, c11, c12, c13, c14, c15, c16].drop 14).take 3).drop 0).take (Tryd.prog.cellsOf 4)) := hq 0 _ rfl
  rw [kbool] at q0
  have q1 : Rd enc Tryd.prog w 2 (((([c0, c1, c2, c3, c4, c5, c6, c7, c8, c9, c10, c11, c12, c13, c14, c15, c16].drop 14).take 3).drop 1).take (Tryd.prog.cellsOf 2)) := hq 1 _ rfl
  rw [kint64] at q1
  have q2 : Rd enc Tryd.prog w 2 (((([c0, c1, c2, c3, c4, c5, c6, c7, c8, c9, c10, c11, c12, c13, c14, c15, c16].drop 14).take 3).drop 2).take (Tryd.prog.cellsOf 2)) := hq 2 _ rfl
  rw [kint64] at q2
  obtain ⟨p, e0, wp⟩ := h0.string Tryd.underlying9
  obtain ⟨dA, dn, dc, l, e1, d1, d2, d3, d4, d5⟩ := h1.bytes Tryd.underlying24 Tryd.underlying5 (by kernel_rfl) (by kernel_rfl)
  obtain ⟨aA, an, ac, L, e2, a1, a2, _, a3, a4, a5, a6⟩ := h2.rows Tryd.underlying28 (size := 3) (by kernel_rfl) (by decide) (fun a : Int × ByteArray × ByteArray => [Value.int .i32 a.1, .string a.2.1, .string a.2.2]) _ (fun _ hr => acl_open hr)
  rw [show Tryd.prog.bytesOf 57 = 40 by kernel_rfl] at a3
  obtain ⟨o, e3, wo⟩ := h3.int Tryd.underlying2
  obtain ⟨cz, e4, wcz⟩ := h4.int Tryd.underlying2
  obtain ⟨mz, e5, wmz⟩ := h5.int Tryd.underlying2
  obtain ⟨pz, e6, wpz⟩ := h6.int Tryd.underlying2
  obtain ⟨az, e7, waz⟩ := h7.int Tryd.underlying2
  obtain ⟨qz, e8, wqz⟩ := h8.int Tryd.underlying2
  obtain ⟨ct, e9, wct⟩ := h9.int Tryd.underlying2
  obtain ⟨mt, e10, wmt⟩ := h10.int Tryd.underlying2
  obtain ⟨ve, e11, wve⟩ := h11.int Tryd.underlying21
  obtain ⟨cr, e12, wcr⟩ := h12.int Tryd.underlying21
  obtain ⟨av, e13, wav⟩ := h13.int Tryd.underlying21
  obtain ⟨qh, e14⟩ := q0.bool Tryd.underlying4
  obtain ⟨qc, e15, wqc⟩ := q1.int Tryd.underlying2
  obtain ⟨qb, e16, wqb⟩ := q2.int Tryd.underlying2
  simp at e0 e1 e2 e3 e4 e5 e6 e7 e8 e9 e10 e11 e12 e13 e14 e15 e16
  subst e0 e1 e2 e3 e4 e5 e6 e7 e8 e9 e10 e11 e12 e13 e14 e15 e16
  exact ⟨p, dA, dn, dc, aA, an, ac, l, L, o, cz, mz, pz, az, qz, ct, mt, ve, cr, av, qh, qc, qb, rfl, wp, d1, a1, ⟨d2, d3⟩, ⟨a2, a3⟩, d4, a4, a5, d5, a6, wo, wcz, wmz, wpz, waz, wqz, wct, wmt, wve, wcr, wav, wqc, wqb⟩
end


set_option maxRecDepth 100000 in
/-- a node as a value of a parameter -/
theorem node_arg {W : World} {base : Nat} {v : Value} (hv : Value.okWide Tryd.prog W .any base 32 v) {cs0 : List Value} (hcs : v.cells.toList = cs0) : v = .agg cs0.toArray := by
  obtain ⟨cs, rfl, _⟩ : ∃ cs, v = .agg cs ∧ True := by
    unfold Value.okWide at hv
    rw [Tryd.underlying32] at hv
    obtain ⟨cs, h, _⟩ := hv
    exact ⟨cs, h, trivial⟩
  have : cs = cs0.toArray := Array.ext' (by simpa [Value.cells] using hcs)
  rw [this]
end Go.Proofs.YtaojjjcaofhmcaaDoor
