/- The reader: bytes as a number. -/
import Derived.Test.YtbegingiedbldaaDoorJr2
import Derived.Laws.BitsAllLaws
namespace Go.Proofs.YtbegingiedbldaaDoor
open Go.RowKit

theorem shl8_or (a b : Nat) (ha : a < 72057594037927936) (hb : b < 256) : bits BinOp.or IntKind.u64 (IntKind.u64.wrap ((a : Int) * 256)) (IntKind.u64.wrap (b : Int)) = ((a * 256 + b : Nat) : Int) := by
  rw [IntKind.wrap_u64, IntKind.wrap_u64]
  have e1 : (a : Int) * 256 % 18446744073709551616 = ((a * 256 : Nat) : Int) := by omega
  have e2 : (b : Int) % 18446744073709551616 = (b : Int) := by omega
  rw [e1, e2, u64_or_nat _ _ (by omega) (by omega)]
  have h := Nat.shiftLeft_add_eq_or_of_lt (i := 8) (b := b) (by omega) a
  rw [Nat.shiftLeft_eq] at h
  rw [← h]

set_option maxRecDepth 100000 in
set_option maxHeartbeats 400000 in
theorem rnumber_any (A : Option Addr) (n c B : Nat) (l : List UInt8) (w : World) (hr : Reads w B 1 A n (bcells l)) (hn : n ≤ 8) :
    Calls Tryd.prog 55 #[.slice A n c] w fun e w' => e = .returned (.int .u64 (beNum l)) ∧ w = w' := by
  have hl : l.length = n := by have := hr.1; rw [bcells_length] at this; omega
  subst hl
  have HR := Lib.hid hr
  clear hr
  go_enter Tryd.func55, Tryd.ntmps55
  go_wp2
  go_loop [3, 8] (fun m i => ∃ k : Nat, k ≤ l.length ∧ i = .int .i64 k ∧ m = .int .u64 (beNum (l.take k))) (fun _ i => l.length - (intOf i).toNat)
  case atStart => exact ⟨0, Nat.zero_le _, rfl, rfl⟩
  case round =>
    obtain ⟨k, hk, rfl, rfl⟩ := hrel
    by_cases hlt : k < l.length
    · obtain ⟨ad, u, rfl, _, hu, hcell⟩ := HR.out.at_ hlt
      have hget : u = .int .u8 (l[k].toNat : Int) := by
        simp only [bcells_get, List.getElem?_eq_getElem hlt, Option.map_some, Option.some.injEq] at hu
        exact hu.symm
      subst hget
      clear hu
      have HE : Hid (bits BinOp.or IntKind.u64 (IntKind.u64.wrap (↑(beNum (List.take k l)) * 256)) (IntKind.u64.wrap ↑l[k].toNat) = ((beNum (l.take (k + 1)) : Nat) : Int)) := by
        show _ = _
        rw [List.take_succ_eq_append_getElem hlt, beNum_snoc]
        refine shl8_or _ _ ?_ l[k].toNat_lt
        have h1 := beNum_lt (l.take k)
        have h2 : (l.take k).length ≤ 7 := by rw [List.length_take]; omega
        have h3 : 256 ^ (l.take k).length ≤ 256 ^ 7 := Nat.pow_le_pow_right (by decide) h2
        have h4 : (256 : Nat) ^ 7 = 72057594037927936 := by decide
        omega
      go_wp2
      go_round
      case rel => exact ⟨k + 1, by omega, by go_num, by rw [HE.out]⟩
      case measure => simp [intOf]; omega
    · have hkl : k = l.length := by omega
      have HK := Lib.hid hkl
      clear hkl
      go_wp2
      go_ret
      exact ⟨congrArg (fun q : List UInt8 => Ending.returned (.int .u64 (beNum q : Int))) (by rw [HK.out, List.take_of_length_le (Nat.le_refl _)]), rfl⟩
end Go.Proofs.YtbegingiedbldaaDoor
