/- StatMakes: the node as it was read; the walk at it. -/
import Derived.Test.YtaojjjcaofhmcaaSt8
import Derived.Test.YtaojjjcaofhmcaaRead
namespace Go.Proofs.Ytaojjjcaofhmcaa
open Go.ChangeShapes Go.WideShapes Go.ChangeAt Go.RowKit

theorem cells_list17 {α : Type} (cs : List α) (h : cs.length = 17) : ∃ c0 c1 c2 c3 c4 c5 c6 c7 c8 c9 c10 c11 c12 c13 c14 c15 c16, cs = [c0, c1, c2, c3, c4, c5, c6, c7, c8, c9, c10, c11, c12, c13, c14, c15, c16] := by
  match cs, h with
  | [c0, c1, c2, c3, c4, c5, c6, c7, c8, c9, c10, c11, c12, c13, c14, c15, c16], _ => exact ⟨_, _, _, _, _, _, _, _, _, _, _, _, _, _, _, _, _, rfl⟩
section
variable {H : Type} {enc : TypeId × Value → H} {w : World}
theorem acl_open {cs : List Value} (h : Rd enc Try.prog w 47 cs) : ∃ x : Int × ByteArray × ByteArray, cs = [.int .i32 x.1, .string x.2.1, .string x.2.2] ∧ (Lit.int .i32 x.1).wf = true ∧ x.2.1.size ≤ reachBytes ∧ x.2.2.size ≤ reachBytes := by
  have k1 : Try.prog.cellsOf 21 = 1 := by kernel_rfl
  have k2 : Try.prog.cellsOf 45 = 2 := by kernel_rfl
  have k3 : Try.prog.cellsOf 9 = 1 := by kernel_rfl
  obtain ⟨hl, hf⟩ := h.struct Try.underlying47
  rw [show Try.prog.cellsOf 47 = 3 by kernel_rfl] at hl
  obtain ⟨c0, c1, c2, rfl⟩ : ∃ c0 c1 c2, cs = [c0, c1, c2] := by
    match cs, hl with
    | [c0, c1, c2], _ => exact ⟨_, _, _, rfl⟩
  have h0 : Rd enc Try.prog w 21 (([c0, c1, c2].drop 0).take (Try.prog.cellsOf 21)) := hf 0 _ rfl
  have h1 : Rd enc Try.prog w 45 (([c0, c1, c2].drop 1).take (Try.prog.cellsOf 45)) := hf 1 _ rfl
  rw [k1] at h0
  rw [k2] at h1
  obtain ⟨_, hg⟩ := h1.struct Try.underlying45
  have h2 : Rd enc Try.prog w 9 (((([c0, c1, c2].drop 1).take 2).drop 0).take (Try.prog.cellsOf 9)) := hg 0 _ rfl
  have h3 : Rd enc Try.prog w 9 (((([c0, c1, c2].drop 1).take 2).drop 1).take (Try.prog.cellsOf 9)) := hg 1 _ rfl
  rw [k3] at h2 h3
  obtain ⟨z, e0, wz⟩ := h0.int Try.underlying21
  obtain ⟨s, e1, ws⟩ := h2.string Try.underlying9
  obtain ⟨i, e2, wi⟩ := h3.string Try.underlying9
  simp at e0 e1 e2
  subst e0 e1 e2
  exact ⟨(z, s, i), rfl, wz, ws, wi⟩
theorem node_open {cs : List Value} (h : Rd enc Try.prog w 27 cs) : ∃ (p : ByteArray) (dA : Option Addr) (dn dc : Nat) (aA : Option Addr) (an ac : Nat) (l : List UInt8) (L : List (Int × ByteArray × ByteArray)) (o cz mz pz az qz ct mt ve cr av : Int) (qh : Bool) (qc qb : Int),
    cs = [.string p, .slice dA dn dc, .slice aA an ac, .int .i64 o, .int .i64 cz, .int .i64 mz, .int .i64 pz, .int .i64 az, .int .i64 qz, .int .i64 ct, .int .i64 mt, .int .i32 ve, .int .i32 cr, .int .i32 av, .bool qh, .int .i64 qc, .int .i64 qb] ∧
    p.size ≤ reachBytes ∧ (dA = none → dn = 0 ∧ dc = 0) ∧ (aA = none → an = 0 ∧ ac = 0) ∧ (dn ≤ dc ∧ dc ≤ reachBytes) ∧ (an ≤ ac ∧ ac * 40 ≤ reachBytes) ∧ l.length = dn ∧ L.length = an ∧
    (∀ x ∈ L, (Lit.int .i32 x.1).wf = true ∧ x.2.1.size ≤ reachBytes ∧ x.2.2.size ≤ reachBytes) ∧ Reads w w.heap.size 1 dA dn (bcells l) ∧ Reads w w.heap.size 3 aA an (aclCells L) ∧
    (Lit.int .i64 o).wf = true ∧ (Lit.int .i64 cz).wf = true ∧ (Lit.int .i64 mz).wf = true ∧ (Lit.int .i64 pz).wf = true ∧ (Lit.int .i64 az).wf = true ∧ (Lit.int .i64 qz).wf = true ∧ (Lit.int .i64 ct).wf = true ∧ (Lit.int .i64 mt).wf = true ∧ (Lit.int .i32 ve).wf = true ∧ (Lit.int .i32 cr).wf = true ∧ (Lit.int .i32 av).wf = true ∧ (Lit.int .i64 qc).wf = true ∧ (Lit.int .i64 qb).wf = true := by
  obtain ⟨hl, hf⟩ := h.struct Try.underlying27
  rw [show Try.prog.cellsOf 27 = 17 by kernel_rfl] at hl
  obtain ⟨c0, c1, c2, c3, c4, c5, c6, c7, c8, c9, c10, c11, c12, c13, c14, c15, c16, rfl⟩ := cells_list17 cs hl
  have kstring : Try.prog.cellsOf 9 = 1 := by kernel_rfl
  have kSuint8 : Try.prog.cellsOf 22 = 1 := by kernel_rfl
  have kSapi_Acl : Try.prog.cellsOf 23 = 1 := by kernel_rfl
  have kint64 : Try.prog.cellsOf 2 = 1 := by kernel_rfl
  have kint32 : Try.prog.cellsOf 21 = 1 := by kernel_rfl
  have kbool : Try.prog.cellsOf 4 = 1 := by kernel_rfl
  have kQ : Try.prog.cellsOf 25 = 3 := by kernel_rfl
  have h0 : Rd enc Try.prog w 9 (([c0, c1, c2, c3, c4, c5, c6, c7, c8, c9, c10, c11, c12, c13, c14, c15, c16].drop 0).take (Try.prog.cellsOf 9)) := hf 0 _ rfl
  rw [kstring] at h0
  have h1 : Rd enc Try.prog w 22 (([c0, c1, c2, c3, c4, c5, c6, c7, c8, c9, c10, c11, c12, c13, c14, c15, c16].drop 1).take (Try.prog.cellsOf 22)) := hf 1 _ rfl
  rw [kSuint8] at h1
  have h2 : Rd enc Try.prog w 23 (([c0, c1, c2, c3, c4, c5, c6, c7, c8, c9, c10, c11, c12, c13, c14, c15, c16].drop 2).take (Try.prog.cellsOf 23)) := hf 2 _ rfl
  rw [kSapi_Acl] at h2
  have h3 : Rd enc Try.prog w 2 (([c0, c1, c2, c3, c4, c5, c6, c7, c8, c9, c10, c11, c12, c13, c14, c15, c16].drop 3).take (Try.prog.cellsOf 2)) := hf 3 _ rfl
  rw [kint64] at h3
  have h4 : Rd enc Try.prog w 2 (([c0, c1, c2, c3, c4, c5, c6, c7, c8, c9, c10, c11, c12, c13, c14, c15, c16].drop 4).take (Try.prog.cellsOf 2)) := hf 4 _ rfl
  rw [kint64] at h4
  have h5 : Rd enc Try.prog w 2 (([c0, c1, c2, c3, c4, c5, c6, c7, c8, c9, c10, c11, c12, c13, c14, c15, c16].drop 5).take (Try.prog.cellsOf 2)) := hf 5 _ rfl
  rw [kint64] at h5
  have h6 : Rd enc Try.prog w 2 (([c0, c1, c2, c3, c4, c5, c6, c7, c8, c9, c10, c11, c12, c13, c14, c15, c16].drop 6).take (Try.prog.cellsOf 2)) := hf 6 _ rfl
  rw [kint64] at h6
  have h7 : Rd enc Try.prog w 2 (([c0, c1, c2, c3, c4, c5, c6, c7, c8, c9, c10, c11, c12, c13, c14, c15, c16].drop 7).take (Try.prog.cellsOf 2)) := hf 7 _ rfl
  rw [kint64] at h7
  have h8 : Rd enc Try.prog w 2 (([c0, c1, c2, c3, c4, c5, c6, c7, c8, c9, c10, c11, c12, c13, c14, c15, c16].drop 8).take (Try.prog.cellsOf 2)) := hf 8 _ rfl
  rw [kint64] at h8
  have h9 : Rd enc Try.prog w 2 (([c0, c1, c2, c3, c4, c5, c6, c7, c8, c9, c10, c11, c12, c13, c14, c15, c16].drop 9).take (Try.prog.cellsOf 2)) := hf 9 _ rfl
  rw [kint64] at h9
  have h10 : Rd enc Try.prog w 2 (([c0, c1, c2, c3, c4, c5, c6, c7, c8, c9, c10, c11, c12, c13, c14, c15, c16].drop 10).take (Try.prog.cellsOf 2)) := hf 10 _ rfl
  rw [kint64] at h10
  have h11 : Rd enc Try.prog w 21 (([c0, c1, c2, c3, c4, c5, c6, c7, c8, c9, c10, c11, c12, c13, c14, c15, c16].drop 11).take (Try.prog.cellsOf 21)) := hf 11 _ rfl
  rw [kint32] at h11
  have h12 : Rd enc Try.prog w 21 (([c0, c1, c2, c3, c4, c5, c6, c7, c8, c9, c10, c11, c12, c13, c14, c15, c16].drop 12).take (Try.prog.cellsOf 21)) := hf 12 _ rfl
  rw [kint32] at h12
  have h13 : Rd enc Try.prog w 21 (([c0, c1, c2, c3, c4, c5, c6, c7, c8, c9, c10, c11, c12, c13, c14, c15, c16].drop 13).take (Try.prog.cellsOf 21)) := hf 13 _ rfl
  rw [kint32] at h13
  have h14 : Rd enc Try.prog w 25 (([c0, c1, c2, c3, c4, c5, c6, c7, c8, c9, c10, c11, c12, c13, c14, c15, c16].drop 14).take (Try.prog.cellsOf 25)) := hf 14 _ rfl
  rw [kQ] at h14
  obtain ⟨_, hq⟩ := h14.struct Try.underlying25
  have q0 : Rd enc Try.prog w 4 (((([c0, c1, c2, c3, c4, c5, c6, c7, c8, c9, c10, c11, c12, c13, c14, c15, c16].drop 14).take 3).drop 0).take (Try.prog.cellsOf 4)) := hq 0 _ rfl
  rw [kbool] at q0
  have q1 : Rd enc Try.prog w 2 (((([c0, c1, c2, c3, c4, c5, c6, c7, c8, c9, c10, c11, c12, c13, c14, c15, c16].drop 14).take 3).drop 1).take (Try.prog.cellsOf 2)) := hq 1 _ rfl
  rw [kint64] at q1
  have q2 : Rd enc Try.prog w 2 (((([c0, c1, c2, c3, c4, c5, c6, c7, c8, c9, c10, c11, c12, c13, c14, c15, c16].drop 14).take 3).drop 2).take (Try.prog.cellsOf 2)) := hq 2 _ rfl
  rw [kint64] at q2
  obtain ⟨p, e0, wp⟩ := h0.string Try.underlying9
  obtain ⟨dA, dn, dc, l, e1, d1, d2, d3, d4, d5⟩ := h1.bytes Try.underlying22 Try.underlying5 (by kernel_rfl) (by kernel_rfl)
  obtain ⟨aA, an, ac, L, e2, a1, a2, _, a3, a4, a5, a6⟩ := h2.rows Try.underlying23 (size := 3) (by kernel_rfl) (by decide) (fun a : Int × ByteArray × ByteArray => [Value.int .i32 a.1, .string a.2.1, .string a.2.2]) _ (fun _ hr => acl_open hr)
  rw [show Try.prog.bytesOf 47 = 40 by kernel_rfl] at a3
  obtain ⟨o, e3, wo⟩ := h3.int Try.underlying2
  obtain ⟨cz, e4, wcz⟩ := h4.int Try.underlying2
  obtain ⟨mz, e5, wmz⟩ := h5.int Try.underlying2
  obtain ⟨pz, e6, wpz⟩ := h6.int Try.underlying2
  obtain ⟨az, e7, waz⟩ := h7.int Try.underlying2
  obtain ⟨qz, e8, wqz⟩ := h8.int Try.underlying2
  obtain ⟨ct, e9, wct⟩ := h9.int Try.underlying2
  obtain ⟨mt, e10, wmt⟩ := h10.int Try.underlying2
  obtain ⟨ve, e11, wve⟩ := h11.int Try.underlying21
  obtain ⟨cr, e12, wcr⟩ := h12.int Try.underlying21
  obtain ⟨av, e13, wav⟩ := h13.int Try.underlying21
  obtain ⟨qh, e14⟩ := q0.bool Try.underlying4
  obtain ⟨qc, e15, wqc⟩ := q1.int Try.underlying2
  obtain ⟨qb, e16, wqb⟩ := q2.int Try.underlying2
  simp at e0 e1 e2 e3 e4 e5 e6 e7 e8 e9 e10 e11 e12 e13 e14 e15 e16
  subst e0 e1 e2 e3 e4 e5 e6 e7 e8 e9 e10 e11 e12 e13 e14 e15 e16
  exact ⟨p, dA, dn, dc, aA, an, ac, l, L, o, cz, mz, pz, az, qz, ct, mt, ve, cr, av, qh, qc, qb, rfl, wp, d1, a1, ⟨d2, d3⟩, ⟨a2, a3⟩, d4, a4, a5, d5, a6, wo, wcz, wmz, wpz, waz, wqz, wct, wmt, wve, wcr, wav, wqc, wqb⟩
end

theorem statMakes_walk {H : Type} (enc : TypeId × Value → H) (base : Nat) (W : World) (v0 : Value) (d0 : DataW H) (p0 : List MemPlace) (hv : Value.okWide Try.prog W .any base 27 v0) (h : DataW.Trod enc Try.prog W 0 (fun _ => true) true 27 v0 d0 p0)
    (v : Int) (wv : (Lit.int .i32 v).wf = true) (k : Int) (wk : (Lit.int .i64 k).wf = true) (hsz : (DataW.weightsEach Try.prog [27, 21, 3] [d0, DataW.lit (.int .i32 v), DataW.lit (.int .i64 k)]).all (· ≤ reachBytes) = true) :
    Calls Try.prog 3 #[v0, .int .i32 v, .int .i64 k] W fun e w' => e = .returned (.bool true) ∧ Below W.heap.size W w' := by
  obtain ⟨p, dA, dn, dc, aA, an, ac, l, L, o, cz, mz, pz, az, qz, ct, mt, ve, cr, av, qh, qc, qb, hcs, _, d1, a1, d2, a2, _, _, _, d5, a6, wo, _⟩ := node_open (rd_of 0 h hsz rfl rfl)
  obtain ⟨cs, rfl, _⟩ : ∃ cs, v0 = .agg cs ∧ True := by
    unfold Value.okWide at hv
    rw [Try.underlying27] at hv
    obtain ⟨cs, h, _⟩ := hv
    exact ⟨cs, h, trivial⟩
  have hcs' : cs = #[.string p, .slice dA dn dc, .slice aA an ac, .int .i64 o, .int .i64 cz, .int .i64 mz, .int .i64 pz, .int .i64 az, .int .i64 qz, .int .i64 ct, .int .i64 mt, .int .i32 ve, .int .i32 cr, .int .i32 av, .bool qh, .int .i64 qc, .int .i64 qb] := Array.ext' (by simpa [Value.cells] using hcs)
  subst hcs'
  have ho := bounds_i64 wo
  have hv2 := bounds_i32 wv
  unfold reachBytes at d2 a2
  exact makes_walk p o cz mz pz az qz ct mt ve cr av qh qc qb v k ho.1 ho.2 hv2.1 hv2.2 dA dn dc aA an ac d1 a1 l L W (by omega) (by omega) d5 a6
end Go.Proofs.Ytaojjjcaofhmcaa
