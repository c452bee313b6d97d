/- unicode/utf8.word at a slice of bytes: the number that the first eight bytes spell. (After the kit's own proof at a string.) -/
import Derived.Test.YtbegingiedbldaaDoorJk
import Derived.Lib.ValidAsc
import Derived.Lib.EndianBits
import Derived.Lib.Endian
import Derived.Deep.QuietTactic
import Derived.BigQuiet
import Derived.WalkSmall
namespace Go.Proofs.YtbegingiedbldaaDoor
open Go.RowKit

theorem get_plain {w : World} {b off : Nat} {l : List UInt8} (hc : ∀ j u, (bcells l)[j]? = some u → w.cell? ⟨b, off + j, none⟩ = some u) (k : Nat) (hk : k < l.length) : w.cell? ⟨b, off + k, none⟩ = some (.int .u8 ((l.getD k 0).toNat : Int)) := by
  refine hc k _ ?_
  rw [bcells_get, List.getElem?_eq_getElem hk]
  simp [List.getD_eq_getElem?_getD, List.getElem?_eq_getElem hk]

theorem take8_list (l : List UInt8) (h : 8 ≤ l.length) : l.take 8 = [l.getD 0 0, l.getD 1 0, l.getD 2 0, l.getD 3 0, l.getD 4 0, l.getD 5 0, l.getD 6 0, l.getD 7 0] := by
  match l, h with
  | a0 :: a1 :: a2 :: a3 :: a4 :: a5 :: a6 :: a7 :: r, _ => simp

set_option maxHeartbeats 8000000 in
set_option maxRecDepth 100000 in
theorem word_any (A : Option Addr) (n c B : Nat) (l : List UInt8) (w : World) (hr : Reads w B 1 A n (bcells l)) (hn : 8 ≤ n) :
    Calls Tryd.prog 75 #[.slice A n c] w fun e w' => e = .returned (.int .u64 (Lib.leNat (l.take 8))) ∧ ∃ q, w' = w.drewN q := by
  have hl : l.length = n := by have := hr.1; rw [bcells_length] at this; omega
  obtain ⟨b, off, rfl, _, hc⟩ := hr.plain (by omega) (by decide)
  have T8 := take8_list l (by omega)
  have c0 := get_plain hc 0 (by omega)
  have c1 := get_plain hc 1 (by omega)
  have c2 := get_plain hc 2 (by omega)
  have c3 := get_plain hc 3 (by omega)
  have c4 := get_plain hc 4 (by omega)
  have c5 := get_plain hc 5 (by omega)
  have c6 := get_plain hc 6 (by omega)
  have c7 := get_plain hc 7 (by omega)
  simp only [Nat.add_zero] at c0
  clear hc hr
  generalize l.getD 0 0 = x0 at T8 c0
  have h0 : x0.toNat < 256 := x0.toNat_lt
  generalize l.getD 1 0 = x1 at T8 c1
  have h1 : x1.toNat < 256 := x1.toNat_lt
  generalize l.getD 2 0 = x2 at T8 c2
  have h2 : x2.toNat < 256 := x2.toNat_lt
  generalize l.getD 3 0 = x3 at T8 c3
  have h3 : x3.toNat < 256 := x3.toNat_lt
  generalize l.getD 4 0 = x4 at T8 c4
  have h4 : x4.toNat < 256 := x4.toNat_lt
  generalize l.getD 5 0 = x5 at T8 c5
  have h5 : x5.toNat < 256 := x5.toNat_lt
  generalize l.getD 6 0 = x6 at T8 c6
  have h6 : x6.toNat < 256 := x6.toNat_lt
  generalize l.getD 7 0 = x7 at T8 c7
  have h7 : x7.toNat < 256 := x7.toNat_lt
  have hv : ((Lib.leNat (l.take 8) : Nat) : Int) = (x0.toNat : Int) + (x1.toNat : Int) * 256 + (x2.toNat : Int) * 65536 + (x3.toNat : Int) * 16777216 + (x4.toNat : Int) * 4294967296 + (x5.toNat : Int) * 1099511627776 + (x6.toNat : Int) * 281474976710656 + (x7.toNat : Int) * 72057594037927936 := by
    rw [T8]
    simp only [Lib.leNat]
    push_cast
    omega
  have HV := Lib.hid hv
  clear hv T8
  have q0 : (0 : Int) < (n : Int) := by omega
  have p0 : 0 < n := by omega
  have q1 : (1 : Int) < (n : Int) := by omega
  have p1 : 1 < n := by omega
  have q2 : (2 : Int) < (n : Int) := by omega
  have p2 : 2 < n := by omega
  have q3 : (3 : Int) < (n : Int) := by omega
  have p3 : 3 < n := by omega
  have q4 : (4 : Int) < (n : Int) := by omega
  have p4 : 4 < n := by omega
  have q5 : (5 : Int) < (n : Int) := by omega
  have p5 : 5 < n := by omega
  have q6 : (6 : Int) < (n : Int) := by omega
  have p6 : 6 < n := by omega
  have q7 : (7 : Int) < (n : Int) := by omega
  have p7 : 7 < n := by omega
  clear hl
  go_enter Tryd.func75, Tryd.ntmps75
  go_wp2
  go_quiet (fail)
  go_wp2
  go_ret
  refine ⟨?_, _, rfl⟩
  simp (disch := omega) only [u64_wrap_id, u64_or8, u64_or16, u64_or24, u64_or32, u64_or40, u64_or48, u64_or56]
  rw [HV.out]
  rfl
end Go.Proofs.YtbegingiedbldaaDoor
