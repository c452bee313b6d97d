/- The law StatMakes: the walk. -/
import Derived.Test.YtaojjjcaofhmcaaSt5
import Derived.Test.YtaojjjcaofhmcaaSt7
import Derived.Test.YtaojjjcaofhmcaaStill
namespace Go.Proofs.Ytaojjjcaofhmcaa
open Go.RowKit

theorem stat_eql (x0 x1 x2 x3 x4 x5 x6 x7 x8 x9 x10 : Int) (w : World) :
    (binOp .eql 36 (.agg #[.int .i64 x0, .int .i64 x1, .int .i64 x2, .int .i64 x3, .int .i32 x4, .int .i32 x5, .int .i32 x6, .int .i64 x7, .int .i32 x8, .int .i32 x9, .int .i64 x10]) (.agg #[.int .i64 x0, .int .i64 x1, .int .i64 x2, .int .i64 x3, .int .i32 x4, .int .i32 x5, .int .i32 x6, .int .i64 x7, .int .i32 x8, .int .i32 x9, .int .i64 x10])).run Try.prog w = .ok (.bool true) w := by
  simp [go_sem]

set_option maxRecDepth 100000 in
set_option maxHeartbeats 4000000 in
theorem makes_walk (p : ByteArray) (o cz mz pz az qz ct mt ve cr av : Int) (qh : Bool) (qc qb v k : Int)
    (ho : -9223372036854775808 ≤ o) (ho' : o ≤ 9223372036854775807) (hv1 : -2147483648 ≤ v) (hv2 : v ≤ 2147483647)
    (dA : Option Addr) (dn dc : Nat) (aA : Option Addr) (an ac : Nat) (hdnil : dA = none → dn = 0 ∧ dc = 0) (hanil : aA = none → an = 0 ∧ ac = 0)
    (l : List UInt8) (L : List (Int × ByteArray × ByteArray)) (w : World) (hdn : dn ≤ 140737488355328) (han : an * 40 ≤ 140737488355328)
    (hd : Reads w w.heap.size 1 dA dn (bcells l)) (ha : Reads w w.heap.size 3 aA an (aclCells L)) :
    Calls Try.prog 3 #[.agg #[.string p, .slice dA dn dc, .slice aA an ac, .int .i64 o, .int .i64 cz, .int .i64 mz, .int .i64 pz, .int .i64 az, .int .i64 qz, .int .i64 ct, .int .i64 mt, .int .i32 ve, .int .i32 cr, .int .i32 av, .bool qh, .int .i64 qc, .int .i64 qb], .int .i32 v, .int .i64 k] w fun e w' => e = .returned (.bool true) ∧ Below w.heap.size w w' := by
  have HD := Lib.hid hd
  have HA := Lib.hid ha
  have HN1 := Lib.hid hdnil
  have HN2 := Lib.hid hanil
  clear hd ha hdnil hanil
  have HO1 : Hid ((#[.string p, .slice dA dn dc, .slice aA an ac, .int .i64 o, .int .i64 cz, .int .i64 mz, .int .i64 pz, .int .i64 az, .int .i64 qz, .int .i64 ct, .int .i64 mt, .int .i32 ve, .int .i32 cr, .int .i32 av, .bool qh, .int .i64 qc, .int .i64 qb] : Array Value).all (·.oneCell') = true) := by unfold Hid; simp [Value.oneCell']
  go_enter Try.func3, Try.ntmps3
  go_wp2_with (first
    | (go_at_call 4
       refine (copied_any #[.string p, .slice dA dn dc, .slice aA an ac, .int .i64 o, .int .i64 cz, .int .i64 mz, .int .i64 pz, .int .i64 az, .int .i64 qz, .int .i64 ct, .int .i64 mt, .int .i32 ve, .int .i32 cr, .int .i32 av, .bool qh, .int .i64 qc, .int .i64 qb] rfl HO1.out dA dn dc aA an ac rfl rfl (bcells l) (aclCells L) w.heap.size _ (HD.out.below (by go_grown)) (HA.out.below (by go_grown)) (bcells_one l) (aclCells_one L) (by simp) hdn han).mono ?_
       rintro e w1 ⟨D1, k1, A1, m1, rfl, hown1, hown2, hb1⟩
       simp only [reNode, List.setIfInBounds_toArray, List.set_cons_succ, List.set_cons_zero]
       have kb3w1 : Blk w1 w.heap.size 27 _ := (Blk.new _ _ _).below hb1 (by simp)
       have kc3w1 := kb3w1.cell
       have hl3w1 := kb3w1.lt
       have hs1 : Below w.heap.size w w1 := Below.trans (by go_grown) (hb1.mono (by simp))
       have H7d := Lib.hid (Reads.of_own hown1)
       have H7a := Lib.hid (Reads.of_own hown2)
       have H7n := Lib.hid (own_nil hown1)
       have H7m := Lib.hid (own_nil hown2)
       clear hown1 hown2 hb1)
    | (refine wpList_load_row rfl 27 (.tmp 3) rfl w.heap.size rfl 27 _ _ _ (Blk.new _ _ _) Try.underlying27 rfl (by rw [node_size]; rfl) ?_)
    | (refine wpList_store_row rfl 27 (.tmp 7) (.tmp 15) rfl w1.heap.size #[.string p, .slice D1 dn k1, .slice A1 an m1, .int .i64 o, .int .i64 cz, .int .i64 mz, .int .i64 pz, .int .i64 az, .int .i64 qz, .int .i64 ct, .int .i64 mt, .int .i32 ve, .int .i32 cr, .int .i32 av, .bool qh, .int .i64 qc, .int .i64 qb] rfl rfl 27 _ (Blk.new _ _ _) (by rw [node_size]; rfl) rfl (by simp [Value.oneCell']) ?_
       generalize hww2 : World.setRow _ _ _ = w2
       have hsw2 : Below w1.heap.size w1 w2 := by rw [← hww2]; exact below_setRow' (by go_grown) (Nat.le_refl _) _
       have kb7w2 : Blk w2 w1.heap.size 27 #[.string p, .slice D1 dn k1, .slice A1 an m1, .int .i64 o, .int .i64 cz, .int .i64 mz, .int .i64 pz, .int .i64 az, .int .i64 qz, .int .i64 ct, .int .i64 mt, .int .i32 ve, .int .i32 cr, .int .i32 av, .bool qh, .int .i64 qc, .int .i64 qb] := by rw [← hww2]; exact cells_setRow (Blk.new _ _ _)
       have kc7w2 := kb7w2.cell
       have hl7w2 := kb7w2.lt
       have kb3w2 := kb3w1.below hsw2 kb3w1.lt
       have kc3w2 := kb3w2.cell
       have hl3w2 := kb3w2.lt
       clear kc3w1 hl3w1
       clear hww2)
    | (go_at_call 5
       refine (new_any p D1 dn k1 A1 an m1 o cz ct (bcells l) (aclCells L) w1.heap.size w2 (H7d.out.below hsw2) (H7a.out.below hsw2) (bcells_one l) (aclCells_one L) hsw2.size hdn han H7n.out H7m.out).mono ?_
       rintro e w3 ⟨D3, k3, A3, m3, rfl, hown1, hown2, hs3⟩
       have kb3w3 := kb3w2.below hs3 kb3w2.lt
       have kb7w3 := kb7w2.below hs3 kb7w2.lt
       have kc3w3 := kb3w3.cell
       have kc7w3 := kb7w3.cell
       have hl3w3 := kb3w3.lt
       have hl7w3 := kb7w3.lt
       clear kc3w2 kc7w2 hl3w2 hl7w2
       have H8d := Lib.hid (Reads.of_own hown1)
       have H8a := Lib.hid (Reads.of_own hown2)
       clear hown1 hown2)
    | (refine wpList_store_row rfl 27 (.tmp 8) (.tmp 28) rfl w3.heap.size #[.string p, .slice D3 dn k3, .slice A3 an m3, .int .i64 o, .int .i64 cz, .int .i64 cz, .int .i64 cz, .int .i64 0, .int .i64 0, .int .i64 ct, .int .i64 ct, .int .i32 0, .int .i32 0, .int .i32 0, .bool false, .int .i64 0, .int .i64 0] rfl rfl 27 _ (Blk.new _ _ _) (by rw [node_size]; rfl) rfl (by simp [Value.oneCell']) ?_
       generalize hww4 : World.setRow _ _ _ = w4
       have hsw4 : Below w3.heap.size w3 w4 := by rw [← hww4]; exact below_setRow' (by go_grown) (Nat.le_refl _) _
       have kb8w4 : Blk w4 w3.heap.size 27 #[.string p, .slice D3 dn k3, .slice A3 an m3, .int .i64 o, .int .i64 cz, .int .i64 cz, .int .i64 cz, .int .i64 0, .int .i64 0, .int .i64 ct, .int .i64 ct, .int .i32 0, .int .i32 0, .int .i32 0, .bool false, .int .i64 0, .int .i64 0] := by rw [← hww4]; exact cells_setRow (Blk.new _ _ _)
       have kc8w4 := kb8w4.cell
       have hl8w4 := kb8w4.lt
       have kb3w4 := kb3w3.below hsw4 kb3w3.lt
       have kc3w4 := kb3w4.cell
       have hl3w4 := kb3w4.lt
       clear kc3w3 hl3w3
       have kb7w4 := kb7w3.below hsw4 kb7w3.lt
       have kc7w4 := kb7w4.cell
       have hl7w4 := kb7w4.lt
       clear kc7w3 hl7w3
       clear hww4)
    | (go_at_call 6
       refine (refNew_any p dA dn dc aA an ac o cz ct (bcells l) (aclCells L) w.heap.size w4 (HD.out.below (hs1.trans (Below.trans (hsw2.mono hs1.size) (Below.trans (hs3.mono (Nat.le_trans hs1.size hsw2.size)) (hsw4.mono (Nat.le_trans (Nat.le_trans hs1.size hsw2.size) hs3.size)))))) (HA.out.below (hs1.trans (Below.trans (hsw2.mono hs1.size) (Below.trans (hs3.mono (Nat.le_trans hs1.size hsw2.size)) (hsw4.mono (Nat.le_trans (Nat.le_trans hs1.size hsw2.size) hs3.size)))))) (bcells_one l) (aclCells_one L) (Nat.le_trans (Nat.le_trans (Nat.le_trans hs1.size hsw2.size) hs3.size) hsw4.size) hdn han).mono ?_
       rintro e w5 ⟨D5, k5, A5, m5, rfl, hown1, hown2, hs5⟩
       have kb3w5 := kb3w4.below hs5 kb3w4.lt
       have kb7w5 := kb7w4.below hs5 kb7w4.lt
       have kb8w5 := kb8w4.below hs5 kb8w4.lt
       have kc3w5 := kb3w5.cell
       have kc7w5 := kb7w5.cell
       have kc8w5 := kb8w5.cell
       have hl3w5 := kb3w5.lt
       have hl7w5 := kb7w5.lt
       have hl8w5 := kb8w5.lt
       clear kc3w4 kc7w4 kc8w4 hl3w4 hl7w4 hl8w4
       have H9d := Lib.hid (Reads.of_own hown1)
       have H9a := Lib.hid (Reads.of_own hown2)
       clear hown1 hown2)
    | (refine wpList_store_row rfl 27 (.tmp 9) (.tmp 41) rfl w5.heap.size #[.string p, .slice D5 dn k5, .slice A5 an m5, .int .i64 o, .int .i64 cz, .int .i64 cz, .int .i64 cz, .int .i64 0, .int .i64 0, .int .i64 ct, .int .i64 ct, .int .i32 0, .int .i32 0, .int .i32 0, .bool false, .int .i64 0, .int .i64 0] rfl rfl 27 _ (Blk.new _ _ _) (by rw [node_size]; rfl) rfl (by simp [Value.oneCell']) ?_
       generalize hww6 : World.setRow _ _ _ = w6
       have hsw6 : Below w5.heap.size w5 w6 := by rw [← hww6]; exact below_setRow' (by go_grown) (Nat.le_refl _) _
       have kb9w6 : Blk w6 w5.heap.size 27 #[.string p, .slice D5 dn k5, .slice A5 an m5, .int .i64 o, .int .i64 cz, .int .i64 cz, .int .i64 cz, .int .i64 0, .int .i64 0, .int .i64 ct, .int .i64 ct, .int .i32 0, .int .i32 0, .int .i32 0, .bool false, .int .i64 0, .int .i64 0] := by rw [← hww6]; exact cells_setRow (Blk.new _ _ _)
       have kc9w6 := kb9w6.cell
       have hl9w6 := kb9w6.lt
       have kb3w6 := kb3w5.below hsw6 kb3w5.lt
       have kc3w6 := kb3w6.cell
       have hl3w6 := kb3w6.lt
       clear kc3w5 hl3w5
       have kb7w6 := kb7w5.below hsw6 kb7w5.lt
       have kc7w6 := kb7w6.cell
       have hl7w6 := kb7w6.lt
       clear kc7w5 hl7w5
       have kb8w6 := kb8w5.below hsw6 kb8w5.lt
       have kc8w6 := kb8w6.cell
       have hl8w6 := kb8w6.lt
       clear kc8w5 hl8w5
       clear hww6)
    | (go_at_call 7
       refine (life_any #[.string p, .slice D1 dn k1, .slice A1 an m1, .int .i64 o, .int .i64 cz, .int .i64 mz, .int .i64 pz, .int .i64 az, .int .i64 qz, .int .i64 ct, .int .i64 mt, .int .i32 ve, .int .i32 cr, .int .i32 av, .bool qh, .int .i64 qc, .int .i64 qb] o ho ho' rfl w6).mono ?_
       rintro e w7 ⟨rfl, hs7⟩
       have kb3w7 := kb3w6.below hs7 kb3w6.lt
       have kb7w7 := kb7w6.below hs7 kb7w6.lt
       have kb8w7 := kb8w6.below hs7 kb8w6.lt
       have kb9w7 := kb9w6.below hs7 kb9w6.lt
       have kc3w7 := kb3w7.cell
       have hl3w7 := kb3w7.lt
       have kc7w7 := kb7w7.cell
       have hl7w7 := kb7w7.lt
       have kc8w7 := kb8w7.cell
       have hl8w7 := kb8w7.lt
       have kc9w7 := kb9w7.cell
       have hl9w7 := kb9w7.lt
       clear kc3w6 hl3w6 kc7w6 hl7w6 kc8w6 hl8w6 kc9w6 hl9w6)
    | (go_at_call 8
       refine (refLife_any #[.string p, .slice dA dn dc, .slice aA an ac, .int .i64 o, .int .i64 cz, .int .i64 mz, .int .i64 pz, .int .i64 az, .int .i64 qz, .int .i64 ct, .int .i64 mt, .int .i32 ve, .int .i32 cr, .int .i32 av, .bool qh, .int .i64 qc, .int .i64 qb] o ho ho' rfl w7).mono ?_
       rintro e w8 ⟨rfl, hs8⟩
       have kb3w8 := kb3w7.below hs8 kb3w7.lt
       have kb7w8 := kb7w7.below hs8 kb7w7.lt
       have kb8w8 := kb8w7.below hs8 kb8w7.lt
       have kb9w8 := kb9w7.below hs8 kb9w7.lt
       have kc3w8 := kb3w8.cell
       have hl3w8 := kb3w8.lt
       have kc7w8 := kb7w8.cell
       have hl7w8 := kb7w8.lt
       have kc8w8 := kb8w8.cell
       have hl8w8 := kb8w8.lt
       have kc9w8 := kb9w8.cell
       have hl9w8 := kb9w8.lt
       clear kc3w7 hl3w7 kc7w7 hl7w7 kc8w7 hl8w7 kc9w7 hl9w7)
    | (refine wpList_load_row rfl 27 (.tmp 7) rfl w1.heap.size rfl 27 _ _ _ kb7w6 Try.underlying27 rfl (by rw [node_size]; rfl) ?_)
    | (refine wpList_load_row rfl 27 (.tmp 3) rfl w.heap.size rfl 27 _ _ _ kb3w7 Try.underlying27 rfl (by rw [node_size]; rfl) ?_))
  have z1 := hs1.size
  have z2 := hsw2.size
  have z3 := hs3.size
  have z4 := hsw4.size
  have z5 := hs5.size
  have z6 := hsw6.size
  have z7 := hs7.size
  have z8 := hs8.size
  have t7 : Below w6.heap.size w6 w8 := hs7.trans (hs8.mono z7)
  have t6 : Below w5.heap.size w5 w8 := hsw6.trans (t7.mono z6)
  have t5 : Below w4.heap.size w4 w8 := hs5.trans (t6.mono z5)
  have t4 : Below w3.heap.size w3 w8 := hsw4.trans (t5.mono z4)
  have t3 : Below w2.heap.size w2 w8 := hs3.trans (t4.mono z3)
  have t2 : Below w1.heap.size w1 w8 := hsw2.trans (t3.mono z2)
  have t1 : Below w.heap.size w w8 := hs1.trans (t2.mono z1)
  have R3d := Lib.hid ((HD.out.below t1).more t1.size)
  have R3a := Lib.hid ((HA.out.below t1).more t1.size)
  have R7d := Lib.hid ((H7d.out.below t2).more t2.size)
  have R7a := Lib.hid ((H7a.out.below t2).more t2.size)
  have R8d := Lib.hid ((H8d.out.below t4).more t4.size)
  have R8a := Lib.hid ((H8a.out.below t4).more t4.size)
  have R9d := Lib.hid ((H9d.out.below t6).more t6.size)
  have R9a := Lib.hid ((H9a.out.below t6).more t6.size)
  clear hs1 hsw2 hs3 hsw4 hs5 hsw6 hs7 hs8 z1 z2 z3 z4 z5 z6 z7 z8 t2 t3 t4 t5 t6 t7 HD HA H7d H7a H7n H7m H8d H8a H9d H9a HN1 HN2 HO1
  obtain ⟨n3, e3⟩ : ∃ c : Array Value, c = #[.string p, .slice dA dn dc, .slice aA an ac, .int .i64 o, .int .i64 cz, .int .i64 mz, .int .i64 pz, .int .i64 az, .int .i64 qz, .int .i64 ct, .int .i64 mt, .int .i32 ve, .int .i32 cr, .int .i32 av, .bool qh, .int .i64 qc, .int .i64 qb] := ⟨_, rfl⟩
  obtain ⟨n7, e7⟩ : ∃ c : Array Value, c = #[.string p, .slice D1 dn k1, .slice A1 an m1, .int .i64 o, .int .i64 cz, .int .i64 mz, .int .i64 pz, .int .i64 az, .int .i64 qz, .int .i64 ct, .int .i64 mt, .int .i32 ve, .int .i32 cr, .int .i32 av, .bool qh, .int .i64 qc, .int .i64 qb] := ⟨_, rfl⟩
  obtain ⟨n8, e8⟩ : ∃ c : Array Value, c = #[.string p, .slice D3 dn k3, .slice A3 an m3, .int .i64 o, .int .i64 cz, .int .i64 cz, .int .i64 cz, .int .i64 0, .int .i64 0, .int .i64 ct, .int .i64 ct, .int .i32 0, .int .i32 0, .int .i32 0, .bool false, .int .i64 0, .int .i64 0] := ⟨_, rfl⟩
  obtain ⟨n9, e9⟩ : ∃ c : Array Value, c = #[.string p, .slice D5 dn k5, .slice A5 an m5, .int .i64 o, .int .i64 cz, .int .i64 cz, .int .i64 cz, .int .i64 0, .int .i64 0, .int .i64 ct, .int .i64 ct, .int .i32 0, .int .i32 0, .int .i32 0, .bool false, .int .i64 0, .int .i64 0] := ⟨_, rfl⟩
  have q3 : ∀ W, Below w8.heap.size w8 W → Blk W w.heap.size 27 n3 := fun W hB0 => by rw [e3]; exact kb3w8.below hB0 hl3w8
  have q7 : ∀ W, Below w8.heap.size w8 W → Blk W w1.heap.size 27 n7 := fun W hB0 => by rw [e7]; exact kb7w8.below hB0 hl7w8
  have q8 : ∀ W, Below w8.heap.size w8 W → Blk W w3.heap.size 27 n8 := fun W hB0 => by rw [e8]; exact kb8w8.below hB0 hl8w8
  have q9 : ∀ W, Below w8.heap.size w8 W → Blk W w5.heap.size 27 n9 := fun W hB0 => by rw [e9]; exact kb9w8.below hB0 hl9w8
  have qs : ∀ c : Array Value, c.size = 17 → (Try.prog.info? 27).map (·.size) = some c.size := fun c h => by rw [node_size, h]
  have z3 : (Try.prog.info? 27).map (·.size) = some n3.size := by rw [e3, node_size]; rfl
  have z7 : (Try.prog.info? 27).map (·.size) = some n7.size := by rw [e7, node_size]; rfl
  have z8 : (Try.prog.info? 27).map (·.size) = some n8.size := by rw [e8, node_size]; rfl
  have z9 : (Try.prog.info? 27).map (·.size) = some n9.size := by rw [e9, node_size]; rfl
  obtain ⟨sc, esc⟩ : ∃ c : Array Value, c = #[.int .i64 cz, .int .i64 mz, .int .i64 ct, .int .i64 mt, .int .i32 ve, .int .i32 (wrap32 (2 * cr - k)), .int .i32 av, .int .i64 o, .int .i32 (wrap32 dn), .int .i32 (wrap32 k), .int .i64 pz] := ⟨_, rfl⟩
  have se' : ∀ W, (binOp .eql 36 (.agg sc) (.agg sc)).run Try.prog W = .ok (.bool true) W := fun W => by rw [esc]; exact stat_eql _ _ _ _ _ _ _ _ _ _ _ W
  have s8' : ∀ W, Below w8.heap.size w8 W → Calls Try.prog 9 #[.agg n8, .agg n9] W fun e w'' => e = .returned (.bool true) ∧ Below w8.heap.size w8 w'' := fun W hB0 => to_class hB0 (by rw [e8, e9]; exact refSame_true _ _ p o cz cz cz 0 0 ct ct 0 0 0 false 0 0 rfl rfl rfl rfl rfl rfl rfl rfl rfl rfl rfl rfl rfl rfl rfl rfl rfl rfl rfl rfl rfl rfl rfl rfl rfl rfl rfl rfl rfl rfl D3 dn k3 A3 an m3 rfl rfl D5 k5 A5 m5 rfl rfl l L w8.heap.size W hB0.size (by omega) (R8d.out.below hB0) (R8a.out.below hB0) (R9d.out.below hB0) (R9a.out.below hB0))
  have s7' : ∀ W, Below w8.heap.size w8 W → Calls Try.prog 9 #[.agg n7, .agg n3] W fun e w'' => e = .returned (.bool true) ∧ Below w8.heap.size w8 w'' := fun W hB0 => to_class hB0 (by rw [e7, e3]; exact refSame_true _ _ p o cz mz pz az qz ct mt ve cr av qh qc qb rfl rfl rfl rfl rfl rfl rfl rfl rfl rfl rfl rfl rfl rfl rfl rfl rfl rfl rfl rfl rfl rfl rfl rfl rfl rfl rfl rfl rfl rfl D1 dn k1 A1 an m1 rfl rfl dA dc aA ac rfl rfl l L w8.heap.size W hB0.size (by omega) (R7d.out.below hB0) (R7a.out.below hB0) (R3d.out.below hB0) (R3a.out.below hB0))
  have x1' : ∀ W, Below w8.heap.size w8 W → Calls Try.prog 10 #[.int .i32 v] W fun e w'' => e = .returned (.int .i32 (nextOf v)) ∧ Below w8.heap.size w8 w'' := fun W hB0 => to_class_same hB0 (next_any v hv1 hv2 W)
  have x2' : ∀ W, Below w8.heap.size w8 W → Calls Try.prog 11 #[.int .i32 v] W fun e w'' => e = .returned (.int .i32 (nextOf v)) ∧ Below w8.heap.size w8 w'' := fun W hB0 => to_class_same hB0 (refNext_any v hv1 hv2 W)
  have l1' : ∀ W, Below w8.heap.size w8 W → Calls Try.prog 12 #[.agg n7] W fun e w'' => e = .returned (.int .i64 (max5 cz mz pz az qz)) ∧ Below w8.heap.size w8 w'' := fun W hB0 => to_class hB0 (by rw [e7]; exact last_any _ W cz mz pz az qz rfl rfl rfl rfl rfl)
  have l2' : ∀ W, Below w8.heap.size w8 W → Calls Try.prog 13 #[.agg n3] W fun e w'' => e = .returned (.int .i64 (max5 cz mz pz az qz)) ∧ Below w8.heap.size w8 w'' := fun W hB0 => to_class hB0 (by rw [e3]; exact refLast_any _ W cz mz pz az qz rfl rfl rfl rfl rfl)
  have o1' : ∀ W, Below w8.heap.size w8 W → Calls Try.prog 14 #[.agg n7, .int .i64 k] W fun e w'' => e = .returned (.agg sc) ∧ Below w8.heap.size w8 w'' := fun W hB0 => to_class hB0 (by rw [e7, esc]; exact of_any _ W cz mz pz ct mt ve cr av o k D1 dn k1 rfl rfl rfl rfl rfl rfl rfl rfl rfl rfl)
  have o2' : ∀ W, Below w8.heap.size w8 W → Calls Try.prog 15 #[.agg n3, .int .i64 k] W fun e w'' => e = .returned (.agg sc) ∧ Below w8.heap.size w8 w'' := fun W hB0 => to_class hB0 (by rw [e3, esc]; exact refOf_any _ W cz mz pz ct mt ve cr av o k dA dn dc rfl rfl rfl rfl rfl rfl rfl rfl rfl rfl)
  have e1' : ∀ W, Below w8.heap.size w8 W → Calls Try.prog 16 #[.agg n7] W fun e w'' => e = .returned (.bool (ephB o)) ∧ Below w8.heap.size w8 w'' := fun W hB0 => to_class hB0 (by rw [e7]; exact eph_any _ o ho ho' rfl W rfl)
  have e2' : ∀ W, Below w8.heap.size w8 W → Calls Try.prog 17 #[.agg n3] W fun e w'' => e = .returned (.bool (ephB o)) ∧ Below w8.heap.size w8 w'' := fun W hB0 => to_class hB0 (by rw [e3]; exact refEph_any _ o ho ho' rfl W rfl)
  have S8 := Lib.hid s8'
  have SE := Lib.hid se'
  have S7 := Lib.hid s7'
  have X1 := Lib.hid x1'
  have X2 := Lib.hid x2'
  have L1 := Lib.hid l1'
  have L2 := Lib.hid l2'
  have O1 := Lib.hid o1'
  have O2 := Lib.hid o2'
  have E1 := Lib.hid e1'
  have E2 := Lib.hid e2'
  have Q3 := Lib.hid q3
  have Z3 := Lib.hid z3
  have Q7 := Lib.hid q7
  have Z7 := Lib.hid z7
  have Q8 := Lib.hid q8
  have Z8 := Lib.hid z8
  have Q9 := Lib.hid q9
  have Z9 := Lib.hid z9
  have T1 := Lib.hid t1
  clear esc se' s8' s7' x1' x2' l1' l2' o1' o2' e1' e2' q3 z3 e3 kb3w8 kc3w8 hl3w8 q7 z7 e7 kb7w8 kc7w8 hl7w8 q8 z8 e8 kb8w8 kc8w8 hl8w8 q9 z9 e9 kb9w8 kc9w8 hl9w8 qs R3d R3a R7d R7a R8d R8a R9d R9a t1
  refine wp_region_past (by as_aux_lemma => kernel_rfl) (by as_aux_lemma => kernel_rfl) ?_
  repeat (first
    | go_big_quiet_skip
    | (go_big_quiet_want
       first
         | (refine quiet_load_blk 27 (.tmp 3) rfl w.heap.size rfl 27 n3 _ Q3.out Try.underlying27 rfl Z3.out ?_; simp only [Act.put, List.setIfInBounds_toArray, List.set_cons_zero, List.set_cons_succ])
         | (refine quiet_load_blk 27 (.tmp 7) rfl w1.heap.size rfl 27 n7 _ Q7.out Try.underlying27 rfl Z7.out ?_; simp only [Act.put, List.setIfInBounds_toArray, List.set_cons_zero, List.set_cons_succ])
         | (refine quiet_load_blk 27 (.tmp 8) rfl w3.heap.size rfl 27 n8 _ Q8.out Try.underlying27 rfl Z8.out ?_; simp only [Act.put, List.setIfInBounds_toArray, List.set_cons_zero, List.set_cons_succ])
         | (refine quiet_load_blk 27 (.tmp 9) rfl w5.heap.size rfl 27 n9 _ Q9.out Try.underlying27 rfl Z9.out ?_; simp only [Act.put, List.setIfInBounds_toArray, List.set_cons_zero, List.set_cons_succ])
         | (refine quiet_call 9 _ _ rfl (#[.agg n8, .agg n9]) rfl Try.func9 (by as_aux_lemma => kernel_rfl) (by as_aux_lemma => kernel_rfl) (.bool true) S8.out ?_; simp only [Act.put, List.setIfInBounds_toArray, List.set_cons_zero, List.set_cons_succ])
         | (refine quiet_call 9 _ _ rfl (#[.agg n7, .agg n3]) rfl Try.func9 (by as_aux_lemma => kernel_rfl) (by as_aux_lemma => kernel_rfl) (.bool true) S7.out ?_; simp only [Act.put, List.setIfInBounds_toArray, List.set_cons_zero, List.set_cons_succ])
         | (refine quiet_call 10 _ _ rfl (#[.int .i32 v]) rfl Try.func10 (by as_aux_lemma => kernel_rfl) (by as_aux_lemma => kernel_rfl) (.int .i32 (nextOf v)) X1.out ?_; simp only [Act.put, List.setIfInBounds_toArray, List.set_cons_zero, List.set_cons_succ])
         | (refine quiet_call 11 _ _ rfl (#[.int .i32 v]) rfl Try.func11 (by as_aux_lemma => kernel_rfl) (by as_aux_lemma => kernel_rfl) (.int .i32 (nextOf v)) X2.out ?_; simp only [Act.put, List.setIfInBounds_toArray, List.set_cons_zero, List.set_cons_succ])
         | (refine quiet_call 12 _ _ rfl (#[.agg n7]) rfl Try.func12 (by as_aux_lemma => kernel_rfl) (by as_aux_lemma => kernel_rfl) (.int .i64 (max5 cz mz pz az qz)) L1.out ?_; simp only [Act.put, List.setIfInBounds_toArray, List.set_cons_zero, List.set_cons_succ])
         | (refine quiet_call 13 _ _ rfl (#[.agg n3]) rfl Try.func13 (by as_aux_lemma => kernel_rfl) (by as_aux_lemma => kernel_rfl) (.int .i64 (max5 cz mz pz az qz)) L2.out ?_; simp only [Act.put, List.setIfInBounds_toArray, List.set_cons_zero, List.set_cons_succ])
         | (refine quiet_call 14 _ _ rfl (#[.agg n7, .int .i64 k]) rfl Try.func14 (by as_aux_lemma => kernel_rfl) (by as_aux_lemma => kernel_rfl) (.agg sc) O1.out ?_; simp only [Act.put, List.setIfInBounds_toArray, List.set_cons_zero, List.set_cons_succ])
         | (refine quiet_call 15 _ _ rfl (#[.agg n3, .int .i64 k]) rfl Try.func15 (by as_aux_lemma => kernel_rfl) (by as_aux_lemma => kernel_rfl) (.agg sc) O2.out ?_; simp only [Act.put, List.setIfInBounds_toArray, List.set_cons_zero, List.set_cons_succ])
         | (refine quiet_call 16 _ _ rfl (#[.agg n7]) rfl Try.func16 (by as_aux_lemma => kernel_rfl) (by as_aux_lemma => kernel_rfl) (.bool (ephB o)) E1.out ?_; simp only [Act.put, List.setIfInBounds_toArray, List.set_cons_zero, List.set_cons_succ])
         | (refine quiet_call 17 _ _ rfl (#[.agg n3]) rfl Try.func17 (by as_aux_lemma => kernel_rfl) (by as_aux_lemma => kernel_rfl) (.bool (ephB o)) E2.out ?_; simp only [Act.put, List.setIfInBounds_toArray, List.set_cons_zero, List.set_cons_succ])
         | (refine quiet_eql_agg 36 _ _ _ rfl sc sc rfl rfl (by as_aux_lemma => kernel_rfl) true SE.out ?_; simp only [Act.put, List.setIfInBounds_toArray, List.set_cons_zero, List.set_cons_succ])
         | go_big_quiet_op
       go_big_quiet_on))
  refine wpQuiet_nil ?_
  intro nq
  go_wp2
  go_ret
  exact ⟨rfl, T1.out.trans (nq.prop.mono T1.out.size)⟩
end Go.Proofs.Ytaojjjcaofhmcaa
