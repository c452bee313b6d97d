/- StatRecords: the Stat as it was read; the walk at it. (printed by gen_b7.py) -/
import Derived.Test.YtaojjjcaofhmcaaDoorSb6
import Derived.Test.YtaojjjcaofhmcaaDoorBase
import Derived.MakeChecks
set_option linter.unusedVariables false
set_option linter.unusedSimpArgs false
namespace Go.Proofs.YtaojjjcaofhmcaaDoor
open Go.ChangeShapes Go.WideShapes Go.ChangeAt Go.RowKit

section
variable {H : Type} {enc : TypeId × Value → H} {w : World}
theorem stat_open {cs : List Value} (h : Rd enc Tryd.prog w 23 cs) : ∃ (a0 a1 a2 a3 a4 a5 a6 a7 a8 a9 a10 : Int), cs = [.int .i64 a0, .int .i64 a1, .int .i64 a2, .int .i64 a3, .int .i32 a4, .int .i32 a5, .int .i32 a6, .int .i64 a7, .int .i32 a8, .int .i32 a9, .int .i64 a10] ∧ (Lit.int .i64 a0).wf = true ∧ (Lit.int .i64 a1).wf = true ∧ (Lit.int .i64 a2).wf = true ∧ (Lit.int .i64 a3).wf = true ∧ (Lit.int .i32 a4).wf = true ∧ (Lit.int .i32 a5).wf = true ∧ (Lit.int .i32 a6).wf = true ∧ (Lit.int .i64 a7).wf = true ∧ (Lit.int .i32 a8).wf = true ∧ (Lit.int .i32 a9).wf = true ∧ (Lit.int .i64 a10).wf = true := by
  obtain ⟨hl, hf⟩ := h.struct Tryd.underlying23
  rw [show Tryd.prog.cellsOf 23 = 11 by kernel_rfl] at hl
  have kint64 : Tryd.prog.cellsOf 2 = 1 := by kernel_rfl
  have kint32 : Tryd.prog.cellsOf 21 = 1 := by kernel_rfl
  obtain ⟨c0, c1, c2, c3, c4, c5, c6, c7, c8, c9, c10, rfl⟩ : ∃ c0 c1 c2 c3 c4 c5 c6 c7 c8 c9 c10 : Value, cs = [c0, c1, c2, c3, c4, c5, c6, c7, c8, c9, c10] := by
    rcases cs with _ | ⟨c0, _ | ⟨c1, _ | ⟨c2, _ | ⟨c3, _ | ⟨c4, _ | ⟨c5, _ | ⟨c6, _ | ⟨c7, _ | ⟨c8, _ | ⟨c9, _ | ⟨c10, _ | ⟨c11, r⟩⟩⟩⟩⟩⟩⟩⟩⟩⟩⟩⟩
    all_goals first | exact ⟨_, _, _, _, _, _, _, _, _, _, _, rfl⟩ | (simp at hl)
  have h0 : Rd enc Tryd.prog w 2 (([c0, c1, c2, c3, c4, c5, c6, c7, c8, c9, c10].drop 0).take (Tryd.prog.cellsOf 2)) := hf 0 _ rfl
  rw [kint64] at h0
  have h1 : Rd enc Tryd.prog w 2 (([c0, c1, c2, c3, c4, c5, c6, c7, c8, c9, c10].drop 1).take (Tryd.prog.cellsOf 2)) := hf 1 _ rfl
  rw [kint64] at h1
  have h2 : Rd enc Tryd.prog w 2 (([c0, c1, c2, c3, c4, c5, c6, c7, c8, c9, c10].drop 2).take (Tryd.prog.cellsOf 2)) := hf 2 _ rfl
  rw [kint64] at h2
  have h3 : Rd enc Tryd.prog w 2 (([c0, c1, c2, c3, c4, c5, c6, c7, c8, c9, c10].drop 3).take (Tryd.prog.cellsOf 2)) := hf 3 _ rfl
  rw [kint64] at h3
  have h4 : Rd enc Tryd.prog w 21 (([c0, c1, c2, c3, c4, c5, c6, c7, c8, c9, c10].drop 4).take (Tryd.prog.cellsOf 21)) := hf 4 _ rfl
  rw [kint32] at h4
  have h5 : Rd enc Tryd.prog w 21 (([c0, c1, c2, c3, c4, c5, c6, c7, c8, c9, c10].drop 5).take (Tryd.prog.cellsOf 21)) := hf 5 _ rfl
  rw [kint32] at h5
  have h6 : Rd enc Tryd.prog w 21 (([c0, c1, c2, c3, c4, c5, c6, c7, c8, c9, c10].drop 6).take (Tryd.prog.cellsOf 21)) := hf 6 _ rfl
  rw [kint32] at h6
  have h7 : Rd enc Tryd.prog w 2 (([c0, c1, c2, c3, c4, c5, c6, c7, c8, c9, c10].drop 7).take (Tryd.prog.cellsOf 2)) := hf 7 _ rfl
  rw [kint64] at h7
  have h8 : Rd enc Tryd.prog w 21 (([c0, c1, c2, c3, c4, c5, c6, c7, c8, c9, c10].drop 8).take (Tryd.prog.cellsOf 21)) := hf 8 _ rfl
  rw [kint32] at h8
  have h9 : Rd enc Tryd.prog w 21 (([c0, c1, c2, c3, c4, c5, c6, c7, c8, c9, c10].drop 9).take (Tryd.prog.cellsOf 21)) := hf 9 _ rfl
  rw [kint32] at h9
  have h10 : Rd enc Tryd.prog w 2 (([c0, c1, c2, c3, c4, c5, c6, c7, c8, c9, c10].drop 10).take (Tryd.prog.cellsOf 2)) := hf 10 _ rfl
  rw [kint64] at h10
  obtain ⟨a0, e0, w0⟩ := h0.int Tryd.underlying2
  obtain ⟨a1, e1, w1⟩ := h1.int Tryd.underlying2
  obtain ⟨a2, e2, w2⟩ := h2.int Tryd.underlying2
  obtain ⟨a3, e3, w3⟩ := h3.int Tryd.underlying2
  obtain ⟨a4, e4, w4⟩ := h4.int Tryd.underlying21
  obtain ⟨a5, e5, w5⟩ := h5.int Tryd.underlying21
  obtain ⟨a6, e6, w6⟩ := h6.int Tryd.underlying21
  obtain ⟨a7, e7, w7⟩ := h7.int Tryd.underlying2
  obtain ⟨a8, e8, w8⟩ := h8.int Tryd.underlying21
  obtain ⟨a9, e9, w9⟩ := h9.int Tryd.underlying21
  obtain ⟨a10, e10, w10⟩ := h10.int Tryd.underlying2
  simp at e0 e1 e2 e3 e4 e5 e6 e7 e8 e9 e10
  subst e0 e1 e2 e3 e4 e5 e6 e7 e8 e9 e10
  exact ⟨a0, a1, a2, a3, a4, a5, a6, a7, a8, a9, a10, rfl, w0, w1, w2, w3, w4, w5, w6, w7, w8, w9, w10⟩
end

def dbTab : List Int := [0, 1, 56, 2, 57, 49, 28, 3, 61, 58, 42, 50, 38, 29, 17, 4, 62, 47, 59, 36, 45, 43, 51, 22, 53, 39, 33, 30, 24, 18, 12, 5, 63, 55, 48, 27, 60, 41, 37, 16, 46, 35, 44, 21, 52, 32, 23, 11, 54, 26, 40, 15, 34, 20, 31, 10, 25, 14, 19, 9, 13, 8, 7, 6]
theorem envN_of {l : List (String × DataW Unit)} {W : World} (h : laidMetH Tryd.prog l W) (hp : (l.all fun x => x.2.handleName?.isNone) = true)
    (hl : ∃ x r, l = x :: ("math/bits.deBruijn64tab", Rows.laid_math_bits_deBruijn64tab) :: ("internal/strconv.uint64pow10", Rows.laid_internal_strconv_uint64pow10) :: r) : EnvN W.heap.size W := by
  rw [MakeChecks.laidMetH_plain _ _ _ hp] at h
  obtain ⟨x, r, rfl⟩ := hl
  have h2 := laidMet.tail h
  have h3 := laidMet.tail h2
  have e3 : (Rows.laid_internal_strconv_uint64pow10 : DataW Unit) = Lib.tabData .u64 Lib.pow10Tab := by kernel_rfl
  have e2 : (Rows.laid_math_bits_deBruijn64tab : DataW Unit) = Lib.tabData .u8 dbTab := by kernel_rfl
  rw [e3] at h3
  rw [e2] at h2
  have t3 := Lib.tabIs_of_head (g := 2) (t := 171) (e := 77) (n := 20) (by kernel_rfl) (by kernel_rfl) Tryd.underlying171 Tryd.underlying77 (by kernel_rfl) (by kernel_rfl) h3
  have t2 := Lib.tabIs_of_head (g := 4) (t := 181) (e := 5) (n := 64) (by kernel_rfl) (by kernel_rfl) Tryd.underlying181 Tryd.underlying5 (by kernel_rfl) (by kernel_rfl) h2
  have hd := Lib.TabIs.cell t2 (g := 4) (by kernel_rfl) 15 (by decide)
  have hp10 := Lib.TabIs.cell t3 (g := 2) (by kernel_rfl) 0 (by decide)
  exact ⟨t3, hd, cell_lt hd, cell_lt hp10⟩

set_option maxRecDepth 100000 in
theorem statRecords_walk {H : Type} (enc : TypeId × Value → H) (base : Nat) (W : World) (v0 : Value) (d0 : DataW H) (p0 : List MemPlace) (hv : Value.okWide Tryd.prog W .any base 23 v0) (h : DataW.Trod enc Tryd.prog W 0 (fun _ => true) true 23 v0 d0 p0)
    (hsz : (DataW.weightsEach Tryd.prog ([23] : List TypeId) ([d0] : List (DataW H))).all (· ≤ reachBytes) = true) (hlaid : laidMetH Tryd.prog Rows.statRecordsRow.laid W) :
    Calls Tryd.prog 3 #[v0] W fun e W' => e = .returned (.bool true) ∧ Below W.heap.size W W' := by
  obtain ⟨a0, a1, a2, a3, a4, a5, a6, a7, a8, a9, a10, hcs, w0, w1, w2, w3, w4, w5, w6, w7, w8, w9, w10⟩ := stat_open (rd_of 0 h hsz rfl rfl)
  obtain ⟨cs, rfl, _⟩ : ∃ cs, v0 = .agg cs ∧ True := by
    unfold Value.okWide at hv
    rw [Tryd.underlying23] at hv
    obtain ⟨cs, h, _⟩ := hv
    exact ⟨cs, h, trivial⟩
  have hcs' : cs = #[.int .i64 a0, .int .i64 a1, .int .i64 a2, .int .i64 a3, .int .i32 a4, .int .i32 a5, .int .i32 a6, .int .i64 a7, .int .i32 a8, .int .i32 a9, .int .i64 a10] := Array.ext' (by simpa [Value.cells] using hcs)
  subst hcs'
  exact recordsLaw_any a0 a1 a2 a3 a4 a5 a6 a7 a8 a9 a10 (bounds_i64 w0) (bounds_i64 w1) (bounds_i64 w2) (bounds_i64 w3) (bounds_i32 w4) (bounds_i32 w5) (bounds_i32 w6) (bounds_i64 w7) (bounds_i32 w8) (bounds_i32 w9) (bounds_i64 w10) W (envN_of hlaid (by kernel_rfl) ⟨_, _, rfl⟩)
end Go.Proofs.YtaojjjcaofhmcaaDoor
