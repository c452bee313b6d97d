/- Two nodes whose fields read alike are the same by the reference. -/
import Derived.Test.YtaojjjcaofhmcaaSt6
namespace Go.Proofs.Ytaojjjcaofhmcaa
open Go.RowKit

set_option maxRecDepth 100000 in
set_option maxHeartbeats 2000000 in
theorem refSame_true (cs cs' : Array Value) (p : ByteArray) (o cz mz pz az qz ct mt ve cr av : Int) (qh : Bool) (qc qb : Int) (r0 : cs[0]? = some (.string p)) (r3 : cs[3]? = some (.int .i64 o)) (r4 : cs[4]? = some (.int .i64 cz)) (r5 : cs[5]? = some (.int .i64 mz)) (r6 : cs[6]? = some (.int .i64 pz)) (r7 : cs[7]? = some (.int .i64 az)) (r8 : cs[8]? = some (.int .i64 qz)) (r9 : cs[9]? = some (.int .i64 ct)) (r10 : cs[10]? = some (.int .i64 mt)) (r11 : cs[11]? = some (.int .i32 ve)) (r12 : cs[12]? = some (.int .i32 cr)) (r13 : cs[13]? = some (.int .i32 av)) (r14 : cs[14]? = some (.bool qh)) (r15 : cs[15]? = some (.int .i64 qc)) (r16 : cs[16]? = some (.int .i64 qb)) (s0 : cs'[0]? = some (.string p)) (s3 : cs'[3]? = some (.int .i64 o)) (s4 : cs'[4]? = some (.int .i64 cz)) (s5 : cs'[5]? = some (.int .i64 mz)) (s6 : cs'[6]? = some (.int .i64 pz)) (s7 : cs'[7]? = some (.int .i64 az)) (s8 : cs'[8]? = some (.int .i64 qz)) (s9 : cs'[9]? = some (.int .i64 ct)) (s10 : cs'[10]? = some (.int .i64 mt)) (s11 : cs'[11]? = some (.int .i32 ve)) (s12 : cs'[12]? = some (.int .i32 cr)) (s13 : cs'[13]? = some (.int .i32 av)) (s14 : cs'[14]? = some (.bool qh)) (s15 : cs'[15]? = some (.int .i64 qc)) (s16 : cs'[16]? = some (.int .i64 qb))
    (dA : Option Addr) (dn dc : Nat) (aA : Option Addr) (an ac : Nat) (r1 : cs[1]? = some (.slice dA dn dc)) (r2 : cs[2]? = some (.slice aA an ac))
    (dA' : Option Addr) (dc' : Nat) (aA' : Option Addr) (ac' : Nat) (s1 : cs'[1]? = some (.slice dA' dn dc')) (s2 : cs'[2]? = some (.slice aA' an ac'))
    (l : List UInt8) (L : List (Int × ByteArray × ByteArray)) (B : Nat) (w : World) (hBw : B ≤ w.heap.size) (han : an ≤ 9223372036854775807)
    (hd : Reads w B 1 dA dn (bcells l)) (ha : Reads w B 3 aA an (aclCells L)) (hd' : Reads w B 1 dA' dn (bcells l)) (ha' : Reads w B 3 aA' an (aclCells L)) :
    Calls Try.prog 9 #[.agg cs, .agg cs'] w fun e w' => e = .returned (.bool true) ∧ Below w.heap.size w w' := by
  have hb2 : Below w.heap.size w ((w.alloc (.cells cs 27)).alloc (.cells cs' 27)) := by go_grown
  have hcv := run_string_of_bytes (P := Try.prog) Try.underlying22 Try.underlying5 (c := dc) (hd.below (hb2.mono hBw)) 9 Try.underlying9
  have hcv' := run_string_of_bytes (P := Try.prog) Try.underlying22 Try.underlying5 (c := dc') (hd'.below (hb2.mono hBw)) 9 Try.underlying9
  have HA := fun (W : World) (h : Below w.heap.size w W) => acls_same aA aA' an ac ac' L B W han (Nat.le_trans hBw h.size) (ha.below (h.mono hBw)) (ha'.below (h.mono hBw))
  have HAA := Lib.hid HA
  clear HA hd ha hd' ha'
  go_enter Try.func9, Try.ntmps9
  go_wp2_with (go_at_call 20
               refine (HAA.out _ hb2).mono ?_
               rintro e w1 ⟨rfl, hb1⟩
               have k0 : Blk w1 w.heap.size 27 _ := ((Blk.new _ _ _).alloc _).below hb1 (by simp; omega)
               have k1 : Blk w1 (w.heap.size + 1) 27 _ := (Blk.new' (by simp)).below hb1 (by simp)
               have k0c := k0.cell
               have k1c := k1.cell
               have hb3 := hb2.trans (hb1.mono (by simp; omega)))
  go_ways
  go_ret
  exact ⟨rfl, hb3⟩
end Go.Proofs.Ytaojjjcaofhmcaa
