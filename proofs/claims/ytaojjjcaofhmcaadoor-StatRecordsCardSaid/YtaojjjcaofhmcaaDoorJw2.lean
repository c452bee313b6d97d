/- The writer: numbers. -/
import Derived.Test.YtaojjjcaofhmcaaDoorJw1
namespace Go.Proofs.YtaojjjcaofhmcaaDoor
open Go.RowKit

theorem reads_lit (w : World) (t : TypeId) (xs : List Value) : Reads (w.alloc (.cells xs.toArray t)) (w.heap.size + 1) 1 (some ⟨w.heap.size, 0, none⟩) xs.length xs :=
  ⟨by simp, fun _ => ⟨_, rfl, Nat.lt_succ_self _, fun j u hu => by
    have h := (Blk.new w t xs.toArray).cell j
    rw [Go.WideShapes.add_plain, Nat.zero_add, h]
    simpa using hu⟩⟩

theorem byte_cell (n j : Nat) : bcells [UInt8.ofNat (n / 256 ^ j)] = [.int .u8 ((n : Int) / 2 ^ (8 * j) % 256)] := by
  have e : (UInt8.ofNat (n / 256 ^ j)).toNat = n / 2 ^ (8 * j) % 256 := by
    rw [UInt8.toNat_ofNat', show (256 : Nat) = 2 ^ 8 from rfl, ← Nat.pow_mul]
  simp only [bcells, List.map_cons, List.map_nil, e]
  congr 2

set_option maxRecDepth 100000 in
set_option maxHeartbeats 400000 in
theorem wnumber_any (base g : Nat) (v : Value) (l : List UInt8) (n k : Nat) (w : World) (h : Wr w base g v l) (hn : n < 18446744073709551616) (hk : k ≤ 8) (hbase : base ≤ w.heap.size) (hsz : l.length + 8 ≤ 140737488355328) :
    Calls Tryd.prog 82 #[.pointer (some ⟨g, 0, none⟩), .int .u64 n, .int .i64 k] w fun e w' => e = .returned (.tuple #[]) ∧ ∃ v', Wrote base g v v' l (beBytes n k) w w' := by
  have H0 := Lib.hid h
  clear h
  go_enter Tryd.func82, Tryd.ntmps82
  go_wp2
  go_loopw [6] (fun i wr => ∃ (j : Nat) (d : List UInt8) (v1 : Value), j ≤ k ∧ i = .int .i64 ((j : Int) - 1) ∧ Hid (d ++ beBytes n j = beBytes n k) ∧ Wrote base g v v1 l d w wr) (fun i _ => (intOf i + 1).toNat)
  case atStart => exact ⟨k, [], v, Nat.le_refl _, rfl, rfl, Wrote.start H0.out⟩
  case round =>
    obtain ⟨j, d, v1, hj, rfl, HD, hW⟩ := hrel
    by_cases hlt : 0 < j
    · obtain ⟨j, rfl⟩ : ∃ j', j = j' + 1 := ⟨j - 1, by omega⟩
      have hl : (l ++ d).length + 1 ≤ 140737488355328 := by
        have h1 := congrArg List.length HD.out
        rw [List.length_append, beBytes_length, beBytes_length] at h1
        rw [List.length_append]; omega
      have hsz1 := hW.size
      have HW := Lib.hid hW
      have HC : Hid (bcells [UInt8.ofNat (n / 256 ^ j)] = [.int .u8 ((n : Int) / 2 ^ (8 * j) % 256)]) := byte_cell n j
      clear hW
      go_wp2_with (go_at_call 88; refine (put_any base g v1 (l ++ d) [UInt8.ofNat (n / 256 ^ j)] _ 1 1 (wr.heap.size + 1) _ (HW.out.1.later (by go_grown)) (by rw [HC.out]; exact reads_lit wr 5 [_]) (by simp; omega) (by simpa using hl)).mono ?_; rintro e w2 ⟨rfl, v2, hp⟩; have HP := Lib.hid (HW.out.cat (by go_grown) hp); clear hp)
      go_roundw
      case rel => exact ⟨j, d ++ [UInt8.ofNat (n / 256 ^ j)], v2, by omega, by go_num, by show _ = _; rw [← HD.out]; simp [beBytes], HP.out⟩
      case measure => simp [intOf]
    · obtain rfl : j = 0 := by omega
      have HW := Lib.hid hW
      clear hW
      go_wp2
      go_end0
      have e := HD.out
      simp only [beBytes, List.append_nil] at e
      exact ⟨rfl, v1, e ▸ HW.out⟩
end Go.Proofs.YtaojjjcaofhmcaaDoor
