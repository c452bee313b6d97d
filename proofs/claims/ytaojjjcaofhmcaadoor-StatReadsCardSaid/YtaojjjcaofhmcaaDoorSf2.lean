/- The law StatReads: what its calls come to; the law; the argument as it was read. (printed by gen_f2.py) -/
import Derived.Test.YtaojjjcaofhmcaaDoorSf1
import Derived.Test.YtaojjjcaofhmcaaDoorSd6
import Derived.Test.YtaojjjcaofhmcaaDoorSe3
set_option linter.unusedVariables false
set_option linter.unusedSimpArgs false
namespace Go.Proofs.YtaojjjcaofhmcaaDoor
open Go.RowKit

/-- a node of these fields, as a value -/
def NodeIs (p : ByteArray) (o cz mz pz az qz ct mt ve cr av : Int) (qh : Bool) (qc qb : Int) (l : List UInt8) (L : List AclT) (W : World) (mc : Array Value) : Prop := ∃ dA dc aA ac, mc = #[.string p, .slice dA l.length dc, .slice aA L.length ac, .int .i64 o, .int .i64 cz, .int .i64 mz, .int .i64 pz, .int .i64 az, .int .i64 qz, .int .i64 ct, .int .i64 mt, .int .i32 ve, .int .i32 cr, .int .i32 av, .bool qh, .int .i64 qc, .int .i64 qb] ∧ Reads W W.heap.size 1 dA l.length (bcells l) ∧ Reads W W.heap.size 3 aA L.length (aclCells L)
section
variable (p : ByteArray) (o cz mz pz az qz ct mt ve cr av : Int) (qh : Bool) (qc qb : Int) (l : List UInt8) (L : List AclT) {W W' : World} {mc nc : Array Value}
theorem NodeIs.later (h : NodeIs p o cz mz pz az qz ct mt ve cr av qh qc qb l L W mc) (hb : Below W.heap.size W W') : NodeIs p o cz mz pz az qz ct mt ve cr av qh qc qb l L W' mc := by
  obtain ⟨dA, dc, aA, ac, e, h1, h2⟩ := h
  exact ⟨dA, dc, aA, ac, e, (h1.below hb).more hb.size, (h2.below hb).more hb.size⟩
theorem NodeIs.facts (h : NodeIs p o cz mz pz az qz ct mt ve cr av qh qc qb l L W mc) : (Tryd.prog.info? 32).map (·.size) = some mc.size ∧ mc.size = 17 ∧ mc.all (·.oneCell') = true := by
  obtain ⟨dA, dc, aA, ac, rfl, _, _⟩ := h
  exact ⟨by rw [node_size]; rfl, rfl, by simp [Value.oneCell']⟩
theorem NodeIs.same (h : NodeIs p o cz mz pz az qz ct mt ve cr av qh qc qb l L W mc) (h' : NodeIs p o cz mz pz az qz ct mt ve cr av qh qc qb l L W nc) (hL : L.length ≤ 9223372036854775807) : Calls Tryd.prog 21 #[.agg mc, .agg nc] W fun e w' => e = .returned (.bool true) ∧ Below W.heap.size W w' := by
  obtain ⟨dA, dc, aA, ac, rfl, h1, h2⟩ := h
  obtain ⟨dA', dc', aA', ac', rfl, h1', h2'⟩ := h'
  exact (refSame_any p o cz mz pz az qz ct mt ve cr av qh qc qb dA _ dc aA _ ac l L W.heap.size p o cz mz pz az qz ct mt ve cr av qh qc qb dA' _ dc' aA' _ ac' l L W.heap.size W (Nat.le_refl _) h1 h2 hL (Nat.le_refl _) h1' h2' hL).mono fun e w' h => ⟨by rw [h.1, decide_eq_true rfl], h.2⟩
end
/-- behind a Decode: an error and a node of these fields -/
theorem decEnd_is (lb : List UInt8) (hlb : lb.length ≤ 4611686018427387904) : ∃ (E : Int) (p : ByteArray) (o cz mz pz az qz ct mt ve cr av : Int) (qh : Bool) (qc qb : Int) (l : List UInt8) (L : List AclT), L.length ≤ 9223372036854775807 ∧ ∀ W e w', DecEnd lb W e w' → ∃ mc, NodeIs p o cz mz pz az qz ct mt ve cr av qh qc qb l L w' mc ∧ e = .returned (.tuple #[.agg mc, .int .i64 E]) ∧ Below W.heap.size W w' := by
  rcases hd : decN lb with E | x
  · refine ⟨E, ⟨#[]⟩, 0, 0, 0, 0, 0, 0, 0, 0, 0, 0, 0, false, 0, 0, [], [], by simp, fun W e w' h => ?_⟩
    obtain ⟨hb, h⟩ := h
    rw [hd] at h
    obtain ⟨_, rfl⟩ := h
    exact ⟨_, ⟨none, 0, none, 0, rfl, Reads.of_own (World.ownsRow_nil w' 0 5 1), Reads.of_own (World.ownsRow_nil w' 0 57 3)⟩, rfl, hb⟩
  · obtain ⟨e1, e2, e3, e4⟩ := decN_inr hd
    obtain ⟨o, cz, mz, pz, az, qz, ct, mt, ve, cr, av, g1, g2, _⟩ := node_cells x e3 e4 .nilFunc .nilFunc
    have hx := decN_fit hlb hd
    refine ⟨0, bs x.p, o, cz, mz, pz, az, qz, ct, mt, ve, cr, av, x.h, x.c, x.b, x.l, x.L, by have := hx.2.2; omega, fun W e w' h => ?_⟩
    obtain ⟨hb, h⟩ := h
    rw [hd] at h
    obtain ⟨dA, dc, aA, ac, rfl, _, _, ho1, ho2⟩ := h
    refine ⟨_, ⟨dA, dc, aA, ac, ?_, Reads.of_own ho1, Reads.of_own ho2⟩, rfl, hb⟩
    obtain ⟨o', cz', mz', pz', az', qz', ct', mt', ve', cr', av', f1, f2, f3⟩ := node_cells x e3 e4 (.slice dA x.l.length dc) (.slice aA x.L.length ac)
    rw [f1] at g1
    rw [f2] at g2
    simp only [List.cons.injEq, and_true] at g1 g2
    obtain ⟨rfl, rfl, rfl, rfl, rfl, rfl, rfl, rfl⟩ := g1
    obtain ⟨rfl, rfl, rfl⟩ := g2
    exact f3
/-- behind a ReadRecord: an error and a Stat -/
theorem recEnd_is (lb : List UInt8) : ∃ (E : Int) (sc : Array Value), ((Tryd.prog.info? 23).map (·.size) = some sc.size ∧ sc.size = 11 ∧ sc.all (·.oneCell') = true ∧ ∀ W, (binOp .eql 23 (.agg sc) (.agg sc)).run Tryd.prog W = .ok (.bool true) W) ∧
    ∀ W e w', RecEnd lb W e w' → e = .returned (.tuple #[.agg sc, .int .i64 E]) ∧ Below W.heap.size W w' := by
  rcases hd : decS lb with E | x
  · refine ⟨E, #[.int .i64 0, .int .i64 0, .int .i64 0, .int .i64 0, .int .i32 0, .int .i32 0, .int .i32 0, .int .i64 0, .int .i32 0, .int .i32 0, .int .i64 0], ⟨by rw [stat_sizeR]; rfl, rfl, by simp [Value.oneCell'], fun W => stat_eqv _ _ _ _ _ _ _ _ _ _ _ W⟩, fun W e w' h => ?_⟩
    obtain ⟨hb, h⟩ := h
    rw [hd] at h
    exact ⟨h.2, hb⟩
  · have hx : x.xs.length = 4 ∧ x.ys.length = 3 := by
      unfold decS at hd
      split at hd
      · cases hd
      · rename_i y q hg
        split at hd
        · cases hd
        · injection hd with hd
          subst hd
          exact (gStat_at hg).2.2
    obtain ⟨f1, f2⟩ := statCs_facts hx.1 hx.2
    refine ⟨0, statCs x, ⟨by rw [stat_sizeR, f1], f1, f2, fun W => ?_⟩, fun W e w' h => ?_⟩
    · obtain ⟨xs, ys, xo, xd, xn, xp⟩ := x
      obtain ⟨a0, a1, a2, a3, g1⟩ := list4 hx.1
      obtain ⟨a4, a5, a6, g2⟩ := list3 hx.2
      dsimp only at g1 g2
      subst g1 g2
      rw [statCs_lit]
      exact stat_eqv _ _ _ _ _ _ _ _ _ _ _ W
    · obtain ⟨hb, h⟩ := h
      rw [hd] at h
      exact ⟨h.1, hb⟩

theorem reads_law5 (bA : Option Addr) (bn bc : Nat) (lb : List UInt8) (w : World) (hrb : Reads w w.heap.size 1 bA bn (bcells lb)) (hbc : bn ≤ bc) (hbn : bn ≤ 140737488355328) (hbnil : bA = none → bc = 0) (hE : EnvS w) :
    Calls Tryd.prog 5 #[.slice bA bn bc] w fun e w' => e = .returned (.bool true) ∧ Below w.heap.size w w' := by
  have hlb : lb.length = bn := by have := hrb.1; rw [bcells_length] at this; omega
  obtain ⟨E, p, o, cz, mz, pz, az, qz, ct, mt, ve, cr, av, qh, qc, qb, l, L, hL, hD⟩ := decEnd_is lb (by omega)
  obtain ⟨E2, sc, ⟨z1, z2, z3, z4⟩, hR⟩ := recEnd_is lb
  refine reads_walk5 (NodeIs p o cz mz pz az qz ct mt ve cr av qh qc qb l L) sc bA bn bc lb E E2 w
    (fun W W' mc h hb => NodeIs.later _ _ _ _ _ _ _ _ _ _ _ _ _ _ _ _ _ h hb) (fun W mc h => (NodeIs.facts _ _ _ _ _ _ _ _ _ _ _ _ _ _ _ _ _ h).1) (fun W mc h => (NodeIs.facts _ _ _ _ _ _ _ _ _ _ _ _ _ _ _ _ _ h).2.1) (fun W mc h => (NodeIs.facts _ _ _ _ _ _ _ _ _ _ _ _ _ _ _ _ _ h).2.2)
    (Lib.hid z1) (Lib.hid z2) (Lib.hid z3) (Lib.hid z4) (Lib.hid ⟨hrb, hbc, hbnil⟩) (Lib.hid hbn) (fun W h => alive_any W (hE.below h)) ?_ ?_ ?_ ?_ ?_
  · intro W A c hW hg
    exact (decode_any c bn A lb W hg.1 hg.2.1 hbn hg.2.2 (hE.below hW)).mono fun e w' h => hD W e w' h
  · intro W A c hW hg
    exact (refDecode_any c bn A lb W hg.1 hg.2.1 hbn hg.2.2 (hE.below hW)).mono fun e w' h => hD W e w' h
  · intro W A c hW hg
    exact (readRecord_any c bn A lb W hg.1 hg.2.1 hbn hg.2.2 (hE.below hW).u8).mono fun e w' h => hR W e w' h
  · intro W A c hW hg
    exact (refReadRecord_any c bn A lb W hg.1 hg.2.1 hbn hg.2.2).mono fun e w' h => hR W e w' h
  · intro W mc nc hW h1 h2
    exact NodeIs.same _ _ _ _ _ _ _ _ _ _ _ _ _ _ _ _ _ h1 h2 hL
end Go.Proofs.YtaojjjcaofhmcaaDoor

namespace Go.Proofs.YtaojjjcaofhmcaaDoor
open Go.ChangeShapes Go.WideShapes Go.ChangeAt Go.RowKit
theorem cells_slice {P : Program} {w : World} {r : Reach} {b : Nat} {t e : TypeId} {v : Value} {A : Option Addr} {n c : Nat} (ht : P.underlying t = some (.slice e)) (hv : Value.okWide P w r b t v) (h : v.cells.toList = [.slice A n c]) : v = .slice A n c := by
  obtain ⟨a, len, cap, rfl⟩ := okWide_slice ht hv
  simpa [Value.cells] using h

set_option maxRecDepth 100000 in
theorem statReads_walk {H : Type} (enc : TypeId × Value → H) (base : Nat) (W : World) (v0 : Value) (d0 : DataW H) (p0 : List MemPlace) (hv0 : Value.okWide Tryd.prog W .any base 24 v0) (h0 : DataW.Trod enc Tryd.prog W 0 (fun _ => true) true 24 v0 d0 p0)
    (hsz : (DataW.weightsEach Tryd.prog ([24] : List TypeId) ([d0] : List (DataW H))).all (· ≤ reachBytes) = true) (hsh : W.ShapedOpen Tryd.prog) (hlaid : laidMetH Tryd.prog Rows.statReadsRow.laid W) :
    Calls Tryd.prog 5 #[v0] W fun e w' => e = .returned (.bool true) ∧ Below W.heap.size W w' := by
  have hE : EnvS W := envS_of hlaid (by kernel_rfl) (by simp [Rows.statReadsRow]) (by simp [Rows.statReadsRow]) hsh
  obtain ⟨bA, bn, bc, lb, f1, f2, f3, f4, f5, f6⟩ := (rd_of 0 h0 hsz rfl rfl).bytes Tryd.underlying24 Tryd.underlying5 (by kernel_rfl) (by kernel_rfl)
  rw [cells_slice Tryd.underlying24 hv0 f1]
  unfold reachBytes at f4
  exact reads_law5 bA bn bc lb W f6 f3 (by omega) (fun h => (f2 h).2) hE
end Go.Proofs.YtaojjjcaofhmcaaDoor
