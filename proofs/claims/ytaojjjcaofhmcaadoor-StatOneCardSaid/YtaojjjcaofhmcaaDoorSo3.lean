/- The law StatOne: what its calls come to; the law. (printed by gen_o3.py) -/
import Derived.Test.YtaojjjcaofhmcaaDoorSo1
import Derived.Test.YtaojjjcaofhmcaaDoorSo2
import Derived.Test.YtaojjjcaofhmcaaDoorSe3
import Derived.Test.YtaojjjcaofhmcaaDoorSb7
set_option linter.unusedVariables false
set_option linter.unusedSimpArgs false
namespace Go.Proofs.YtaojjjcaofhmcaaDoor
open Go.RowKit

theorem str_eql (x y : ByteArray) (w : World) : (binOp .eql 9 (.string x) (.string y)).run Tryd.prog w = .ok (.bool (decide (x = y))) w := by
  have e : (x.toList == y.toList) = decide (x = y) := by
    rw [Lib.toList_data, Lib.toList_data, Bool.eq_iff_iff, beq_iff_eq, decide_eq_true_eq]
    exact ⟨fun h => by cases x; cases y; simpa using h, fun h => by rw [h]⟩
  rw [← e]
  simp [go_sem]
set_option maxRecDepth 100000 in
theorem stat_eqb (a0 a1 a2 a3 a4 a5 a6 a7 a8 a9 a10 b0 b1 b2 b3 b4 b5 b6 b7 b8 b9 b10 : Int) (w : World) : (binOp .eql 23 (.agg #[.int .i64 a0, .int .i64 a1, .int .i64 a2, .int .i64 a3, .int .i32 a4, .int .i32 a5, .int .i32 a6, .int .i64 a7, .int .i32 a8, .int .i32 a9, .int .i64 a10]) (.agg #[.int .i64 b0, .int .i64 b1, .int .i64 b2, .int .i64 b3, .int .i32 b4, .int .i32 b5, .int .i32 b6, .int .i64 b7, .int .i32 b8, .int .i32 b9, .int .i64 b10])).run Tryd.prog w = .ok (.bool (decide (a0 = b0 ∧ a1 = b1 ∧ a2 = b2 ∧ a3 = b3 ∧ a4 = b4 ∧ a5 = b5 ∧ a6 = b6 ∧ a7 = b7 ∧ a8 = b8 ∧ a9 = b9 ∧ a10 = b10))) w := by
  simp only [go_sem]
  simp [go_sem]
  repeat' split
  all_goals simp_all
theorem list_beq (x y : List UInt8) : (x == y) = decide (x = y) := by
  rw [Bool.eq_iff_iff, beq_iff_eq, decide_eq_true_eq]
theorem bs_beq (x y : List UInt8) : decide ((⟨x.toArray⟩ : ByteArray) = ⟨y.toArray⟩) = decide (x = y) := by
  apply decide_eq_decide.2
  constructor
  · intro h
    have := congrArg (fun b : ByteArray => b.data.toList) h
    simpa using this
  · intro h; rw [h]
/-- nodes that may be have one record only if they are the same -/
theorem node_one {p p' : ByteArray} {l l' : List UInt8} {L L' : List AclT} {xs ys xs' ys' : List Int} {qh qh' : Bool} {qc qb qc' qb' : Int} (hx : xs.length = 8) (hy : ys.length = 3) (hx' : xs'.length = 8) (hy' : ys'.length = 3)
    (hr : rightE p l.length L qh qc qb = 0) (hz : ∀ a ∈ L, wrap32 a.1 = a.1) (h8 : ∀ z ∈ xs, wrap64 z = z) (h3 : ∀ z ∈ ys, wrap32 z = z) (hc : wrap64 qc = qc) (hb : wrap64 qb = qb)
    (hr' : rightE p' l'.length L' qh' qc' qb' = 0) (hz' : ∀ a ∈ L', wrap32 a.1 = a.1) (h8' : ∀ z ∈ xs', wrap64 z = z) (h3' : ∀ z ∈ ys', wrap32 z = z) (hc' : wrap64 qc' = qc') (hb' : wrap64 qb' = qb') :
    nodeB p l L xs ys qh qc qb = nodeB p' l' L' xs' ys' qh' qc' qb' ↔ p = p' ∧ l = l' ∧ L = L' ∧ xs = xs' ∧ ys = ys' ∧ qh = qh' ∧ qc = qc' ∧ qb = qb' := by
  constructor
  · intro h
    have h1 := node_back p l L xs ys qh qc qb hx hy hr hz h8 h3 hc hb
    have h2 := node_back p' l' L' xs' ys' qh' qc' qb' hx' hy' hr' hz' h8' h3' hc' hb'
    rw [h, h2] at h1
    injection h1 with h1
    injection h1 with e1 e2 e3 e4 e5 e6 e7 e8
    refine ⟨?_, e2.symm, e3.symm, e4.symm, e5.symm, e6.symm, e7.symm, e8.symm⟩
    have := congrArg bs e1
    rw [bs_of, bs_of] at this
    exact this.symm
  · rintro ⟨rfl, rfl, rfl, rfl, rfl, rfl, rfl, rfl⟩
    rfl
theorem rec_one {a0 a1 a2 a3 a4 a5 a6 a7 a8 a9 a10 b0 b1 b2 b3 b4 b5 b6 b7 b8 b9 b10 : Int} (ra0 : -9223372036854775808 ≤ a0 ∧ a0 ≤ 9223372036854775807) (ra1 : -9223372036854775808 ≤ a1 ∧ a1 ≤ 9223372036854775807) (ra2 : -9223372036854775808 ≤ a2 ∧ a2 ≤ 9223372036854775807) (ra3 : -9223372036854775808 ≤ a3 ∧ a3 ≤ 9223372036854775807) (ra4 : -2147483648 ≤ a4 ∧ a4 ≤ 2147483647) (ra5 : -2147483648 ≤ a5 ∧ a5 ≤ 2147483647) (ra6 : -2147483648 ≤ a6 ∧ a6 ≤ 2147483647) (ra7 : -9223372036854775808 ≤ a7 ∧ a7 ≤ 9223372036854775807) (ra8 : -2147483648 ≤ a8 ∧ a8 ≤ 2147483647) (ra9 : -2147483648 ≤ a9 ∧ a9 ≤ 2147483647) (ra10 : -9223372036854775808 ≤ a10 ∧ a10 ≤ 9223372036854775807) (rb0 : -9223372036854775808 ≤ b0 ∧ b0 ≤ 9223372036854775807) (rb1 : -9223372036854775808 ≤ b1 ∧ b1 ≤ 9223372036854775807) (rb2 : -9223372036854775808 ≤ b2 ∧ b2 ≤ 9223372036854775807) (rb3 : -9223372036854775808 ≤ b3 ∧ b3 ≤ 9223372036854775807) (rb4 : -2147483648 ≤ b4 ∧ b4 ≤ 2147483647) (rb5 : -2147483648 ≤ b5 ∧ b5 ≤ 2147483647) (rb6 : -2147483648 ≤ b6 ∧ b6 ≤ 2147483647) (rb7 : -9223372036854775808 ≤ b7 ∧ b7 ≤ 9223372036854775807) (rb8 : -2147483648 ≤ b8 ∧ b8 ≤ 2147483647) (rb9 : -2147483648 ≤ b9 ∧ b9 ≤ 2147483647) (rb10 : -9223372036854775808 ≤ b10 ∧ b10 ≤ 9223372036854775807) : recB a0 a1 a2 a3 a4 a5 a6 a7 a8 a9 a10 = recB b0 b1 b2 b3 b4 b5 b6 b7 b8 b9 b10 ↔ (a0 = b0 ∧ a1 = b1 ∧ a2 = b2 ∧ a3 = b3 ∧ a4 = b4 ∧ a5 = b5 ∧ a6 = b6 ∧ a7 = b7 ∧ a8 = b8 ∧ a9 = b9 ∧ a10 = b10) := by
  constructor
  · intro h
    have w64 : ∀ z : Int, -9223372036854775808 ≤ z ∧ z ≤ 9223372036854775807 → wrap64 z = z := fun z h => wrap64_of h
    have w32 : ∀ z : Int, -2147483648 ≤ z ∧ z ≤ 2147483647 → wrap32 z = z := fun z h => wrap32_of h
    have h1 := stat_back a0 a1 a2 a3 a4 a5 a6 a7 a8 a9 a10 (fun z hz => by simp only [List.mem_cons, List.not_mem_nil, or_false] at hz; rcases hz with rfl | rfl | rfl | rfl <;> (apply w64; assumption)) (fun z hz => by simp only [List.mem_cons, List.not_mem_nil, or_false] at hz; rcases hz with rfl | rfl | rfl <;> (apply w32; assumption)) (w64 _ ra7) (w32 _ ra8) (w32 _ ra9) (w64 _ ra10)
    have h2 := stat_back b0 b1 b2 b3 b4 b5 b6 b7 b8 b9 b10 (fun z hz => by simp only [List.mem_cons, List.not_mem_nil, or_false] at hz; rcases hz with rfl | rfl | rfl | rfl <;> (apply w64; assumption)) (fun z hz => by simp only [List.mem_cons, List.not_mem_nil, or_false] at hz; rcases hz with rfl | rfl | rfl <;> (apply w32; assumption)) (w64 _ rb7) (w32 _ rb8) (w32 _ rb9) (w64 _ rb10)
    rw [h, h2] at h1
    injection h1 with h1
    injection h1 with e1 e2 e3 e4 e5 e6
    simp only [List.cons.injEq, and_true] at e1 e2
    obtain ⟨f0, f1, f2, f3⟩ := e1
    obtain ⟨f4, f5, f6⟩ := e2
    exact ⟨f0.symm, f1.symm, f2.symm, f3.symm, f4.symm, f5.symm, f6.symm, e3.symm, e4.symm, e5.symm, e6.symm⟩
  · rintro ⟨rfl, rfl, rfl, rfl, rfl, rfl, rfl, rfl, rfl, rfl, rfl⟩
    rfl
theorem txt_one {a0 a1 a2 a3 a4 a5 a6 a7 a8 a9 a10 b0 b1 b2 b3 b4 b5 b6 b7 b8 b9 b10 : Int} (ra0 : -9223372036854775808 ≤ a0 ∧ a0 ≤ 9223372036854775807) (ra1 : -9223372036854775808 ≤ a1 ∧ a1 ≤ 9223372036854775807) (ra2 : -9223372036854775808 ≤ a2 ∧ a2 ≤ 9223372036854775807) (ra3 : -9223372036854775808 ≤ a3 ∧ a3 ≤ 9223372036854775807) (ra4 : -2147483648 ≤ a4 ∧ a4 ≤ 2147483647) (ra5 : -2147483648 ≤ a5 ∧ a5 ≤ 2147483647) (ra6 : -2147483648 ≤ a6 ∧ a6 ≤ 2147483647) (ra7 : -9223372036854775808 ≤ a7 ∧ a7 ≤ 9223372036854775807) (ra8 : -2147483648 ≤ a8 ∧ a8 ≤ 2147483647) (ra9 : -2147483648 ≤ a9 ∧ a9 ≤ 2147483647) (ra10 : -9223372036854775808 ≤ a10 ∧ a10 ≤ 9223372036854775807) (rb0 : -9223372036854775808 ≤ b0 ∧ b0 ≤ 9223372036854775807) (rb1 : -9223372036854775808 ≤ b1 ∧ b1 ≤ 9223372036854775807) (rb2 : -9223372036854775808 ≤ b2 ∧ b2 ≤ 9223372036854775807) (rb3 : -9223372036854775808 ≤ b3 ∧ b3 ≤ 9223372036854775807) (rb4 : -2147483648 ≤ b4 ∧ b4 ≤ 2147483647) (rb5 : -2147483648 ≤ b5 ∧ b5 ≤ 2147483647) (rb6 : -2147483648 ≤ b6 ∧ b6 ≤ 2147483647) (rb7 : -9223372036854775808 ≤ b7 ∧ b7 ≤ 9223372036854775807) (rb8 : -2147483648 ≤ b8 ∧ b8 ≤ 2147483647) (rb9 : -2147483648 ≤ b9 ∧ b9 ≤ 2147483647) (rb10 : -9223372036854775808 ≤ b10 ∧ b10 ≤ 9223372036854775807) : textB a0 a1 a2 a3 a4 a5 a6 a7 a8 a9 a10 = textB b0 b1 b2 b3 b4 b5 b6 b7 b8 b9 b10 ↔ (a0 = b0 ∧ a1 = b1 ∧ a2 = b2 ∧ a3 = b3 ∧ a4 = b4 ∧ a5 = b5 ∧ a6 = b6 ∧ a7 = b7 ∧ a8 = b8 ∧ a9 = b9 ∧ a10 = b10) := by
  constructor
  · intro h
    exact text_one h ra0 ra1 ra7 ra10 rb0 rb1 rb7 rb10
  · rintro ⟨rfl, rfl, rfl, rfl, rfl, rfl, rfl, rfl, rfl, rfl, rfl⟩
    rfl

set_option maxRecDepth 100000 in
set_option maxHeartbeats 4000000 in
theorem one_law (p : ByteArray) (o cz mz pz az qz ct mt ve cr av : Int) (qh : Bool) (qc qb : Int) (dA : Option Addr) (dn dc : Nat) (aA : Option Addr) (an ac : Nat) (l : List UInt8) (L : List AclT) (p' : ByteArray) (o' cz' mz' pz' az' qz' ct' mt' ve' cr' av' : Int) (qh' : Bool) (qc' qb' : Int) (dA' : Option Addr) (dn' dc' : Nat) (aA' : Option Addr) (an' ac' : Nat) (l' : List UInt8) (L' : List AclT) (a0 a1 a2 a3 a4 a5 a6 a7 a8 a9 a10 : Int) (b0 b1 b2 b3 b4 b5 b6 b7 b8 b9 b10 : Int) (w : World) (ra0 : -9223372036854775808 ≤ a0 ∧ a0 ≤ 9223372036854775807) (ra1 : -9223372036854775808 ≤ a1 ∧ a1 ≤ 9223372036854775807) (ra2 : -9223372036854775808 ≤ a2 ∧ a2 ≤ 9223372036854775807) (ra3 : -9223372036854775808 ≤ a3 ∧ a3 ≤ 9223372036854775807) (ra4 : -2147483648 ≤ a4 ∧ a4 ≤ 2147483647) (ra5 : -2147483648 ≤ a5 ∧ a5 ≤ 2147483647) (ra6 : -2147483648 ≤ a6 ∧ a6 ≤ 2147483647) (ra7 : -9223372036854775808 ≤ a7 ∧ a7 ≤ 9223372036854775807) (ra8 : -2147483648 ≤ a8 ∧ a8 ≤ 2147483647) (ra9 : -2147483648 ≤ a9 ∧ a9 ≤ 2147483647) (ra10 : -9223372036854775808 ≤ a10 ∧ a10 ≤ 9223372036854775807) (rb0 : -9223372036854775808 ≤ b0 ∧ b0 ≤ 9223372036854775807) (rb1 : -9223372036854775808 ≤ b1 ∧ b1 ≤ 9223372036854775807) (rb2 : -9223372036854775808 ≤ b2 ∧ b2 ≤ 9223372036854775807) (rb3 : -9223372036854775808 ≤ b3 ∧ b3 ≤ 9223372036854775807) (rb4 : -2147483648 ≤ b4 ∧ b4 ≤ 2147483647) (rb5 : -2147483648 ≤ b5 ∧ b5 ≤ 2147483647) (rb6 : -2147483648 ≤ b6 ∧ b6 ≤ 2147483647) (rb7 : -9223372036854775808 ≤ b7 ∧ b7 ≤ 9223372036854775807) (rb8 : -2147483648 ≤ b8 ∧ b8 ≤ 2147483647) (rb9 : -2147483648 ≤ b9 ∧ b9 ≤ 2147483647) (rb10 : -9223372036854775808 ≤ b10 ∧ b10 ≤ 9223372036854775807)
    (hd : Reads w w.heap.size 1 dA dn (bcells l)) (ha : Reads w w.heap.size 3 aA an (aclCells L)) (hl : l.length = dn) (hL : L.length = an) (hd1 : dn ≤ 140737488355328) (hn : an ≤ 140737488355328) (hfit : ∀ a ∈ L, aclFit a) (hz : ∀ a ∈ L, wrap32 a.1 = a.1) (h8 : ∀ z ∈ [o, cz, mz, pz, az, qz, ct, mt], wrap64 z = z) (h3 : ∀ z ∈ [ve, cr, av], wrap32 z = z) (hc : wrap64 qc = qc) (hb : wrap64 qb = qb)
    (hd' : Reads w w.heap.size 1 dA' dn' (bcells l')) (ha' : Reads w w.heap.size 3 aA' an' (aclCells L')) (hl' : l'.length = dn') (hL' : L'.length = an') (hd1' : dn' ≤ 140737488355328) (hn' : an' ≤ 140737488355328) (hfit' : ∀ a ∈ L', aclFit a) (hz' : ∀ a ∈ L', wrap32 a.1 = a.1) (h8' : ∀ z ∈ [o', cz', mz', pz', az', qz', ct', mt'], wrap64 z = z) (h3' : ∀ z ∈ [ve', cr', av'], wrap32 z = z) (hc' : wrap64 qc' = qc') (hb' : wrap64 qb' = qb')
    (hE : EnvS w) (hEN : EnvN w.heap.size w) :
    Calls Tryd.prog 9 #[.agg #[.string p, .slice dA dn dc, .slice aA an ac, .int .i64 o, .int .i64 cz, .int .i64 mz, .int .i64 pz, .int .i64 az, .int .i64 qz, .int .i64 ct, .int .i64 mt, .int .i32 ve, .int .i32 cr, .int .i32 av, .bool qh, .int .i64 qc, .int .i64 qb], .agg #[.string p', .slice dA' dn' dc', .slice aA' an' ac', .int .i64 o', .int .i64 cz', .int .i64 mz', .int .i64 pz', .int .i64 az', .int .i64 qz', .int .i64 ct', .int .i64 mt', .int .i32 ve', .int .i32 cr', .int .i32 av', .bool qh', .int .i64 qc', .int .i64 qb'], .agg #[.int .i64 a0, .int .i64 a1, .int .i64 a2, .int .i64 a3, .int .i32 a4, .int .i32 a5, .int .i32 a6, .int .i64 a7, .int .i32 a8, .int .i32 a9, .int .i64 a10], .agg #[.int .i64 b0, .int .i64 b1, .int .i64 b2, .int .i64 b3, .int .i32 b4, .int .i32 b5, .int .i32 b6, .int .i64 b7, .int .i32 b8, .int .i32 b9, .int .i64 b10]] w fun e w' => e = .returned (.bool true) ∧ Below w.heap.size w w' := by
  subst hl hL hl' hL'
  obtain ⟨nc, hnc⟩ : ∃ c : Array Value, c = #[.string p, .slice dA l.length dc, .slice aA L.length ac, .int .i64 o, .int .i64 cz, .int .i64 mz, .int .i64 pz, .int .i64 az, .int .i64 qz, .int .i64 ct, .int .i64 mt, .int .i32 ve, .int .i32 cr, .int .i32 av, .bool qh, .int .i64 qc, .int .i64 qb] := ⟨_, rfl⟩
  obtain ⟨mc, hmc⟩ : ∃ c : Array Value, c = #[.string p', .slice dA' l'.length dc', .slice aA' L'.length ac', .int .i64 o', .int .i64 cz', .int .i64 mz', .int .i64 pz', .int .i64 az', .int .i64 qz', .int .i64 ct', .int .i64 mt', .int .i32 ve', .int .i32 cr', .int .i32 av', .bool qh', .int .i64 qc', .int .i64 qb'] := ⟨_, rfl⟩
  obtain ⟨sc, hsc⟩ : ∃ c : Array Value, c = #[.int .i64 a0, .int .i64 a1, .int .i64 a2, .int .i64 a3, .int .i32 a4, .int .i32 a5, .int .i32 a6, .int .i64 a7, .int .i32 a8, .int .i32 a9, .int .i64 a10] := ⟨_, rfl⟩
  obtain ⟨tc, htc⟩ : ∃ c : Array Value, c = #[.int .i64 b0, .int .i64 b1, .int .i64 b2, .int .i64 b3, .int .i32 b4, .int .i32 b5, .int .i32 b6, .int .i64 b7, .int .i32 b8, .int .i32 b9, .int .i64 b10] := ⟨_, rfl⟩
  have ZN : Hid ((Tryd.prog.info? 32).map (·.size) = some nc.size) := by unfold Hid; rw [hnc, node_size]; rfl
  have ZM : Hid ((Tryd.prog.info? 32).map (·.size) = some mc.size) := by unfold Hid; rw [hmc, node_size]; rfl
  have ZS : Hid ((Tryd.prog.info? 23).map (·.size) = some sc.size) := by unfold Hid; rw [hsc, stat_sizeR]; rfl
  have ZT : Hid ((Tryd.prog.info? 23).map (·.size) = some tc.size) := by unfold Hid; rw [htc, stat_sizeR]; rfl
  have AL : Hid (∀ W, Below w.heap.size w W → Calls Tryd.prog 27 #[] W fun e w' => e = .returned (.bool true) ∧ Below W.heap.size W w') := fun W h => alive_any W (hE.below h)
  have EN0 := fun W (h : Below w.heap.size w W) => encode_any p o cz mz pz az qz ct mt ve cr av qh qc qb dA _ dc aA _ ac l L w.heap.size W h.size (hd.below h) (ha.below h) (by omega) (by omega) hfit (hE.below h)
  have EM0 := fun W (h : Below w.heap.size w W) => encode_any p' o' cz' mz' pz' az' qz' ct' mt' ve' cr' av' qh' qc' qb' dA' _ dc' aA' _ ac' l' L' w.heap.size W h.size (hd'.below h) (ha'.below h) (by omega) (by omega) hfit' (hE.below h)
  have RA : Hid (∀ W, Calls Tryd.prog 10 #[.agg sc] W fun e w' => ∃ A k, e = .returned (.slice A 68 k) ∧ (∀ W', Below w'.heap.size w' W' → (convert 24 9 (.slice A 68 k)).run Tryd.prog W' = .ok (.string ⟨(recB a0 a1 a2 a3 a4 a5 a6 a7 a8 a9 a10).toArray⟩) W') ∧ Below W.heap.size W w') := fun W => by
    rw [hsc]
    refine (record_any a0 a1 a2 a3 a4 a5 a6 a7 a8 a9 a10 W).mono ?_
    rintro e w' ⟨A, c, rfl, ho, hb⟩
    exact ⟨A, c, rfl, fun W' h => run_string_of_bytes Tryd.underlying24 Tryd.underlying5 ((Reads.of_own ho).below h) 9 Tryd.underlying9, hb⟩
  have RB : Hid (∀ W, Calls Tryd.prog 10 #[.agg tc] W fun e w' => ∃ A k, e = .returned (.slice A 68 k) ∧ (∀ W', Below w'.heap.size w' W' → (convert 24 9 (.slice A 68 k)).run Tryd.prog W' = .ok (.string ⟨(recB b0 b1 b2 b3 b4 b5 b6 b7 b8 b9 b10).toArray⟩) W') ∧ Below W.heap.size W w') := fun W => by
    rw [htc]
    refine (record_any b0 b1 b2 b3 b4 b5 b6 b7 b8 b9 b10 W).mono ?_
    rintro e w' ⟨A, c, rfl, ho, hb⟩
    exact ⟨A, c, rfl, fun W' h => run_string_of_bytes Tryd.underlying24 Tryd.underlying5 ((Reads.of_own ho).below h) 9 Tryd.underlying9, hb⟩
  have TA : Hid (∀ W, Below w.heap.size w W → Calls Tryd.prog 12 #[.agg sc] W fun e w' => e = .returned (.string ⟨(textB a0 a1 a2 a3 a4 a5 a6 a7 a8 a9 a10).toArray⟩) ∧ Below W.heap.size W w') := fun W h => by
    rw [hsc]; exact text_any a0 a1 a2 a3 a4 a5 a6 a7 a8 a9 a10 ra0 ra1 ra2 ra3 ra4 ra5 ra6 ra7 ra8 ra9 ra10 W ((hEN.below h (Nat.le_refl _)).mono h.size)
  have TB : Hid (∀ W, Below w.heap.size w W → Calls Tryd.prog 12 #[.agg tc] W fun e w' => e = .returned (.string ⟨(textB b0 b1 b2 b3 b4 b5 b6 b7 b8 b9 b10).toArray⟩) ∧ Below W.heap.size W w') := fun W h => by
    rw [htc]; exact text_any b0 b1 b2 b3 b4 b5 b6 b7 b8 b9 b10 rb0 rb1 rb2 rb3 rb4 rb5 rb6 rb7 rb8 rb9 rb10 W ((hEN.below h (Nat.le_refl _)).mono h.size)
  have QE : Hid (∀ W, (binOp .eql 23 (.agg sc) (.agg tc)).run Tryd.prog W = .ok (.bool (decide (a0 = b0 ∧ a1 = b1 ∧ a2 = b2 ∧ a3 = b3 ∧ a4 = b4 ∧ a5 = b5 ∧ a6 = b6 ∧ a7 = b7 ∧ a8 = b8 ∧ a9 = b9 ∧ a10 = b10))) W) := fun W => by
    rw [hsc, htc]; exact stat_eqb a0 a1 a2 a3 a4 a5 a6 a7 a8 a9 a10 b0 b1 b2 b3 b4 b5 b6 b7 b8 b9 b10 W
  have QR : Hid (∀ W, (binOp .eql 9 (.string ⟨(recB a0 a1 a2 a3 a4 a5 a6 a7 a8 a9 a10).toArray⟩) (.string ⟨(recB b0 b1 b2 b3 b4 b5 b6 b7 b8 b9 b10).toArray⟩)).run Tryd.prog W = .ok (.bool (decide (a0 = b0 ∧ a1 = b1 ∧ a2 = b2 ∧ a3 = b3 ∧ a4 = b4 ∧ a5 = b5 ∧ a6 = b6 ∧ a7 = b7 ∧ a8 = b8 ∧ a9 = b9 ∧ a10 = b10))) W) := fun W => by
    rw [str_eql, bs_beq, decide_eq_decide.2 (rec_one ra0 ra1 ra2 ra3 ra4 ra5 ra6 ra7 ra8 ra9 ra10 rb0 rb1 rb2 rb3 rb4 rb5 rb6 rb7 rb8 rb9 rb10)]
  have QT : Hid (∀ W, (binOp .eql 9 (.string ⟨(textB a0 a1 a2 a3 a4 a5 a6 a7 a8 a9 a10).toArray⟩) (.string ⟨(textB b0 b1 b2 b3 b4 b5 b6 b7 b8 b9 b10).toArray⟩)).run Tryd.prog W = .ok (.bool (decide (a0 = b0 ∧ a1 = b1 ∧ a2 = b2 ∧ a3 = b3 ∧ a4 = b4 ∧ a5 = b5 ∧ a6 = b6 ∧ a7 = b7 ∧ a8 = b8 ∧ a9 = b9 ∧ a10 = b10))) W) := fun W => by
    rw [str_eql, bs_beq, decide_eq_decide.2 (txt_one ra0 ra1 ra2 ra3 ra4 ra5 ra6 ra7 ra8 ra9 ra10 rb0 rb1 rb2 rb3 rb4 rb5 rb6 rb7 rb8 rb9 rb10)]
  rw [← hnc, ← hmc, ← hsc, ← htc]
  by_cases hr : rightE p l.length L qh qc qb = 0
  · have EN : Hid (∀ W, Below w.heap.size w W → Calls Tryd.prog 15 #[.agg nc] W fun e w' => ∃ A n k, e = .returned (.tuple #[.slice A n k, .int .i64 0]) ∧ Got w' A n k (nodeB p l L [o, cz, mz, pz, az, qz, ct, mt] [ve, cr, av] qh qc qb) ∧ Below W.heap.size W w') := fun W hW => by
      rw [hnc]
      refine (EN0 W hW).mono ?_
      rintro e w' ⟨hb2, ⟨h5, _⟩ | ⟨_, A, n, c, rfl, ho⟩⟩
      · exact absurd hr h5
      · exact ⟨A, n, c, rfl, Got.of_own ho, hb2⟩
    by_cases hr' : rightE p' l'.length L' qh' qc' qb' = 0
    · have EM : Hid (∀ W, Below w.heap.size w W → Calls Tryd.prog 15 #[.agg mc] W fun e w' => ∃ A n k, e = .returned (.tuple #[.slice A n k, .int .i64 0]) ∧ Got w' A n k (nodeB p' l' L' [o', cz', mz', pz', az', qz', ct', mt'] [ve', cr', av'] qh' qc' qb') ∧ Below W.heap.size W w') := fun W hW => by
        rw [hmc]
        refine (EM0 W hW).mono ?_
        rintro e w' ⟨hb2, ⟨h5, _⟩ | ⟨_, A, n, c, rfl, ho⟩⟩
        · exact absurd hr' h5
        · exact ⟨A, n, c, rfl, Got.of_own ho, hb2⟩
      have SM : Hid (∀ W, Below w.heap.size w W → Calls Tryd.prog 20 #[.agg nc, .agg mc] W fun e w' => e = .returned (.bool (decide ((⟨p, o, cz, mz, pz, az, qz, ct, mt, ve, cr, av, qh, qc, qb, l, L⟩ : Nd) = ⟨p', o', cz', mz', pz', az', qz', ct', mt', ve', cr', av', qh', qc', qb', l', L'⟩))) ∧ Below W.heap.size W w') := fun W hW => by
        rw [hnc, hmc]
        exact same_any p o cz mz pz az qz ct mt ve cr av qh qc qb dA _ dc aA _ ac l L w.heap.size p' o' cz' mz' pz' az' qz' ct' mt' ve' cr' av' qh' qc' qb' dA' _ dc' aA' _ ac' l' L' w.heap.size W hW.size (hd.below hW) (ha.below hW) (by omega) hW.size (hd'.below hW) (ha'.below hW) (by omega)
      refine one_walk0 nc mc sc tc _ _ 0 _ _ w _ _ _ _ ?_ ZN ZM ZS ZT AL EN EM SM RA RB TA TB QR QT QE
      rw [list_beq]
      apply decide_eq_decide.2
      rw [node_one rfl rfl rfl rfl hr hz h8 h3 hc hb hr' hz' h8' h3' hc' hb']
      simp only [Nd.mk.injEq, List.cons.injEq, and_true]
      constructor
      · rintro ⟨e1, e2, e3, ⟨e4, e5, e6, e7, e8, e9, e10, e11⟩, ⟨e12, e13, e14⟩, e15, e16, e17⟩
        exact ⟨e1, e4, e5, e6, e7, e8, e9, e10, e11, e12, e13, e14, e15, e16, e17, e2, e3⟩
      · rintro ⟨e1, e4, e5, e6, e7, e8, e9, e10, e11, e12, e13, e14, e15, e16, e17, e2, e3⟩
        exact ⟨e1, e2, e3, ⟨e4, e5, e6, e7, e8, e9, e10, e11⟩, ⟨e12, e13, e14⟩, e15, e16, e17⟩
    · have EM : Hid (∀ W, Below w.heap.size w W → Calls Tryd.prog 15 #[.agg mc] W fun e w' => e = .returned (.tuple #[.slice none 0 0, .int .i64 (rightE p' l'.length L' qh' qc' qb')]) ∧ Below W.heap.size W w') := fun W hW => by
        rw [hmc]
        refine (EM0 W hW).mono ?_
        rintro e w' ⟨hb2, ⟨_, rfl⟩ | ⟨h5, _⟩⟩
        · exact ⟨rfl, hb2⟩
        · exact absurd h5 hr'
      exact one_walk2 nc mc sc tc _ [] _ false _ w _ _ _ _ hr' ZN ZM ZS ZT AL EN EM RA RB TA TB QR QT QE
  · have EN : Hid (∀ W, Below w.heap.size w W → Calls Tryd.prog 15 #[.agg nc] W fun e w' => e = .returned (.tuple #[.slice none 0 0, .int .i64 (rightE p l.length L qh qc qb)]) ∧ Below W.heap.size W w') := fun W hW => by
      rw [hnc]
      refine (EN0 W hW).mono ?_
      rintro e w' ⟨hb2, ⟨_, rfl⟩ | ⟨h5, _⟩⟩
      · exact ⟨rfl, hb2⟩
      · exact absurd h5 hr
    have EM : Hid (∀ W, Below w.heap.size w W → Calls Tryd.prog 15 #[.agg mc] W fun e w' => ∃ V E2, e = .returned (.tuple #[V, .int .i64 E2]) ∧ Below W.heap.size W w') := fun W hW => by
      rw [hmc]
      refine (EM0 W hW).mono ?_
      rintro e w' ⟨hb2, ⟨_, rfl⟩ | ⟨_, A, n, c, rfl, ho⟩⟩
      · exact ⟨_, _, rfl, hb2⟩
      · exact ⟨_, _, rfl, hb2⟩
    exact one_walk1 nc mc sc tc [] [] _ false _ w _ _ _ _ hr ZN ZM ZS ZT AL EN EM RA RB TA TB QR QT QE
end Go.Proofs.YtaojjjcaofhmcaaDoor
