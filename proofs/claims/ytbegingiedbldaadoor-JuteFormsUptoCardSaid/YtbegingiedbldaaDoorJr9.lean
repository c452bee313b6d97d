/- Read: the deferred function. -/
import Derived.Test.YtbegingiedbldaaDoorJr8
import Derived.Defers
import Derived.Recover
import Derived.Lib.Builder
namespace Go.Proofs.YtbegingiedbldaaDoor
open Go.RowKit

set_option maxRecDepth 100000 in
set_option maxHeartbeats 1000000 in
theorem catch_idle (R v0 v1 v2 : Nat) (A : Option Addr) (n c : Nat) (p : Int) (w : World) (hb : Blk w R 93 #[.slice A n c, .int .i64 p, .bool false]) (hv : w.cell? ⟨v0, 0, none⟩ = some (.pointer (some ⟨R, 0, none⟩))) (hne : v0 ≠ R) :
    CallsD Tryd.prog 47 #[.pointer (some ⟨v0, 0, none⟩), .pointer (some ⟨v1, 0, none⟩), .pointer (some ⟨v2, 0, none⟩)] .returning w fun e u' w' =>
      e = .returned (.tuple #[]) ∧ u' = .returning ∧ w' = (w.setCell ⟨R, 2, none⟩ (.bool true)).setCell ⟨R, 0, none⟩ (.slice none 0 0) := by
  have c0 : w.cell? ⟨R, 0, none⟩ = some (.slice A n c) := by rw [hb.cell 0]; rfl
  have c2 : w.cell? ⟨R, 2, none⟩ = some (.bool false) := by rw [hb.cell 2]; rfl
  have f0 := hb.frozen 0
  have f2 := hb.frozen 2
  have hv1 : (w.setCell ⟨R, 2, none⟩ (.bool true)).cell? ⟨v0, 0, none⟩ = some (.pointer (some ⟨R, 0, none⟩)) := by
    rw [World.cell?_setCell_other _ _ _ _ (by simp [hne])]; exact hv
  clear hb
  refine callsD_of_wpS Tryd.func47 rfl fun c₀ cs hu => ?_
  simp only [Tryd.ntmps47, List.size_toArray, List.length_cons, List.length_nil, Nat.reduceAdd, Nat.reduceSub, Array.replicate_succ, Array.replicate_zero, List.push_toArray, List.append_toArray, List.nil_append, List.cons_append]
  apply wpS_seq
  apply wpS_of_wp
  go_wp2
  simp only [Exit.thenS]
  apply wpS_seq
  apply wpS_of_wp
  go_wp2
  simp only [Exit.thenS]
  apply wpS_seq
  apply wpS_region
  simp [wpOpsS, go_sem, recoverD, hu, Exit.thenS]
  generalize hw2 : (w.setCell ⟨R, 2, none⟩ (.bool true)).setCell ⟨R, 0, none⟩ (.slice none 0 0) = w2
  clear hw2 c0 c2 f0 f2 hv hv1 hne
  apply wpS_of_wp
  go_wp2
  cases c₀
  simp only at hu
  subst hu
  exact ⟨rfl, .returning, rfl, _, results_none rfl _ _ _, rfl, rfl, rfl⟩

theorem rdr_info : (Tryd.prog.info? 93).map (fun i => (i.zero, i.size, i.bytes)) = some (some (.agg #[.slice none 0 0, .int .i64 0, .bool false]), 3, 40) := by kernel_rfl
theorem run_neq_rptr (w : World) (R : Nat) : (binOp .neq 29 (.pointer (some ⟨R, 0, none⟩)) (.pointer (some ⟨R, 0, none⟩))).run Tryd.prog w = .ok (.bool false) w := by
  obtain ⟨j, hj, _⟩ := info_parts rdr_info
  exact Lib.run_neq_ptr_same w ⟨R, 0, none⟩ Tryd.underlying29 hj

set_option maxRecDepth 100000 in
set_option maxHeartbeats 1000000 in
theorem catch_fail (R v0 v1 v2 : Nat) (A : Option Addr) (n c : Nat) (p er z0 z1 : Int) (w : World) (hb : Blk w R 93 #[.slice A n c, .int .i64 p, .bool false]) (hv : w.cell? ⟨v0, 0, none⟩ = some (.pointer (some ⟨R, 0, none⟩))) (hne : v0 ≠ R)
    (hb1 : Blk w v1 3 #[.int .i64 z0]) (hb2 : Blk w v2 32 #[.int .i64 z1]) (d1 : v1 ≠ R) (d2 : v2 ≠ R) (d3 : v1 ≠ v0) (d4 : v2 ≠ v0) (d5 : v1 ≠ v2) (hv0 : v0 < w.heap.size) :
    CallsD Tryd.prog 47 #[.pointer (some ⟨v0, 0, none⟩), .pointer (some ⟨v1, 0, none⟩), .pointer (some ⟨v2, 0, none⟩)] (.panicking [{ v := .iface 95 (.agg #[.pointer (some ⟨R, 0, none⟩), .int .i64 er]), recovered := false }]) w fun e u' w' =>
      e = .returned (.tuple #[]) ∧ u' = .panicking [{ v := .iface 95 (.agg #[.pointer (some ⟨R, 0, none⟩), .int .i64 er]), recovered := true }] ∧ Kp [R, v1, v2] w w' ∧ Blk w' R 93 #[.slice none 0 0, .int .i64 p, .bool true] ∧ w'.cell? ⟨v1, 0, none⟩ = some (.int .i64 p) ∧ w'.cell? ⟨v2, 0, none⟩ = some (.int .i64 er) := by
  have c0 : w.cell? ⟨R, 0, none⟩ = some (.slice A n c) := by rw [hb.cell 0]; rfl
  have c2 : w.cell? ⟨R, 2, none⟩ = some (.bool false) := by rw [hb.cell 2]; rfl
  have f0 := hb.frozen 0
  have f2 := hb.frozen 2
  have hv1 : (w.setCell ⟨R, 2, none⟩ (.bool true)).cell? ⟨v0, 0, none⟩ = some (.pointer (some ⟨R, 0, none⟩)) := by
    rw [World.cell?_setCell_other _ _ _ _ (by simp [hne])]; exact hv
  have B2 : Blk ((w.setCell ⟨R, 2, none⟩ (.bool true)).setCell ⟨R, 0, none⟩ (.slice none 0 0)) R 93 #[.slice none 0 0, .int .i64 p, .bool true] := (hb.set_ 2 _).set_ 0 _
  have K2 : Kp [R] w ((w.setCell ⟨R, 2, none⟩ (.bool true)).setCell ⟨R, 0, none⟩ (.slice none 0 0)) := (Kp.setCell ⟨R, 2, none⟩ _).to (Kp.setCell ⟨R, 0, none⟩ _) (fun _ h _ => h) (fun _ h _ => h)
  have htA : ∀ W : World, (Instr.typeAssert (.iface 95 (.agg #[.pointer (some ⟨R, 0, none⟩), .int .i64 er])) 20 95 true).run Tryd.prog W = .ok (.tuple #[.agg #[.pointer (some ⟨R, 0, none⟩), .int .i64 er], .bool true]) W := fun _ => by kernel_rfl
  have hpn : ∀ W : World, (binOp .neq 29 (.pointer (some ⟨R, 0, none⟩)) (.pointer (some ⟨R, 0, none⟩))).run Tryd.prog W = .ok (.bool false) W := fun W => run_neq_rptr W R
  clear hb
  refine callsD_of_wpS Tryd.func47 rfl fun c₀ cs hu => ?_
  simp only [Tryd.ntmps47, List.size_toArray, List.length_cons, List.length_nil, Nat.reduceAdd, Nat.reduceSub, Array.replicate_succ, Array.replicate_zero, List.push_toArray, List.append_toArray, List.nil_append, List.cons_append]
  apply wpS_seq
  apply wpS_of_wp
  go_wp2
  simp only [Exit.thenS]
  apply wpS_seq
  apply wpS_of_wp
  go_wp2
  simp only [Exit.thenS]
  apply wpS_seq
  apply wpS_region
  simp [wpOpsS, go_sem, recoverD, hu, Exit.thenS]
  generalize hw2 : (w.setCell ⟨R, 2, none⟩ (.bool true)).setCell ⟨R, 0, none⟩ (.slice none 0 0) = w2 at B2 K2 ⊢
  have b1 : Blk w2 v1 3 #[.int .i64 z0] := hb1.kp K2 (by simp [d1])
  have b2 : Blk w2 v2 32 #[.int .i64 z1] := hb2.kp K2 (by simp [d2])
  have hv2 : w2.cell? ⟨v0, 0, none⟩ = some (.pointer (some ⟨R, 0, none⟩)) := by rw [K2.cell (by simpa using hv0) (by simp [hne])]; exact hv
  have hz := K2.size
  have l0 : v0 < w2.heap.size := by omega
  have l1 := b1.lt
  have l2 := b2.lt
  have lR := B2.lt
  obtain ⟨w3, hw3⟩ : ∃ w3, w2.alloc (.cells #[.pointer (some ⟨R, 0, none⟩), .int .i64 er] 95) = w3 := ⟨_, rfl⟩
  have K3 : Kp [] w2 w3 := hw3 ▸ Kp.alloc _
  have b13 := b1.kp K3 (by simp)
  have b23 := b2.kp K3 (by simp)
  have bR3 := B2.kp K3 (by simp)
  have bN3 : Blk w3 w2.heap.size 95 #[.pointer (some ⟨R, 0, none⟩), .int .i64 er] := hw3 ▸ Blk.new _ _ _
  have cv3 : w3.cell? ⟨v0, 0, none⟩ = some (.pointer (some ⟨R, 0, none⟩)) := by rw [K3.cell (by simpa using l0) (by simp)]; exact hv2
  have cR3 : w3.cell? ⟨R, 1, none⟩ = some (.int .i64 p) := by rw [bR3.cell 1]; rfl
  have cN0 : w3.cell? ⟨w2.heap.size, 0, none⟩ = some (.pointer (some ⟨R, 0, none⟩)) := by rw [bN3.cell 0]; rfl
  have cN1 : w3.cell? ⟨w2.heap.size, 1, none⟩ = some (.int .i64 er) := by rw [bN3.cell 1]; rfl
  have c13 : w3.cell? ⟨v1, 0, none⟩ = some (.int .i64 z0) := by rw [b13.cell 0]; rfl
  have c23 : w3.cell? ⟨v2, 0, none⟩ = some (.int .i64 z1) := by rw [b23.cell 0]; rfl
  have f13 := b13.frozen 0
  have f23 := b23.frozen 0
  have n1 : ¬ v1 = w2.heap.size := by omega
  have n2 : ¬ v2 = w2.heap.size := by omega
  have K1 : Kp [R] w w3 := K2.to K3 (fun _ h _ => h) (fun _ h => by cases h)
  have HK := Lib.hid K1
  have HB13 := Lib.hid b13
  have HB23 := Lib.hid b23
  have HBR := Lib.hid bR3
  have hmem : ∀ x, x ∈ [R, v1, v2] ↔ x = R ∨ x = v1 ∨ x = v2 := by intro x; simp
  have HM := Lib.hid hmem
  clear K1 K2 K3 B2 b1 b2 b13 b23 bR3 bN3 hb1 hb2 hv hv1 hv2 c0 c2 f0 f2 hw2 hmem
  apply wpS_of_wp
  go_wp2
  go_region
  all_goals (
    refine ⟨rfl, _, rfl, _, results_none rfl _ _ _, rfl, rfl, ?_⟩
    have K1 := HK.out.to (Kp.setCell ⟨v1, 0, none⟩ (.int .i64 p)) (Z := [R, v1, v2]) (fun x hx _ => by simp at hx; simp [hx]) (fun x hx _ => by simp at hx; simp [hx])
    have K2 := K1.to (Kp.setCell ⟨v2, 0, none⟩ (.int .i64 er)) (Z := [R, v1, v2]) (fun x hx _ => hx) (fun x hx _ => by simp at hx; simp [hx])
    refine ⟨K2.trans Kp.drew, ((HBR.out.far (p := ⟨v1, 0, none⟩) (by simpa using d1.symm) _).far (p := ⟨v2, 0, none⟩) (by simpa using d2.symm) _).drew, ?_, ?_⟩
    · show World.cell? _ _ = _
      rw [World.cell?_drew, World.cell?_setCell_other _ _ _ _ (by simp [d5.symm]), World.cell?_setCell_same _ _ _ c13]
    · rw [World.cell?_drew, World.cell?_setCell_same _ _ _ (show World.cell? _ _ = some (.int .i64 z1) by rw [World.cell?_setCell_other _ _ _ _ (by simp [d5])]; exact c23)])
end Go.Proofs.YtbegingiedbldaaDoor
