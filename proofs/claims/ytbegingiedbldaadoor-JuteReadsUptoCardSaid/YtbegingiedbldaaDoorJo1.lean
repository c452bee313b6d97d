/- Readers whose time is over, or that are none; writers that are none. -/
import Derived.Test.YtbegingiedbldaaDoorJq6
namespace Go.Proofs.YtbegingiedbldaaDoor
open Go.RowKit

/-- a reader that reads no more -/
def Off (rp : Value) (w : World) : Prop := Calls Tryd.prog 52 #[rp] w fun e w' => e = .returned (.bool true) ∧ w = w'

set_option maxRecDepth 100000 in
theorem off_nil (w : World) : Off (.pointer none) w := by
  unfold Off
  go_enter Tryd.func52, Tryd.ntmps52
  go_wp2
  go_ret
  exact ⟨rfl, rfl⟩
set_option maxRecDepth 100000 in
theorem off_over (R : Nat) (w : World) (hc : w.cell? ⟨R, 2, none⟩ = some (.bool true)) : Off (.pointer (some ⟨R, 0, none⟩)) w := by
  unfold Off
  go_enter Tryd.func52, Tryd.ntmps52
  go_wp2
  go_ret
  exact ⟨rfl, rfl⟩

set_option maxRecDepth 100000 in
set_option maxHeartbeats 400000 in
theorem oBool (rp : Value) (w : World) (h : Off rp w) : Calls Tryd.prog 20 #[rp] w fun e w' => e = .returned (.bool false) ∧ w = w' := by
  have H := Lib.hid h
  clear h
  go_enter Tryd.func20, Tryd.ntmps20
  go_wp2_with (go_at_call 52; refine (H.out).mono ?_; rintro e w2 ⟨rfl, rfl⟩)
  go_ret
  exact ⟨rfl, rfl⟩
set_option maxRecDepth 100000 in
set_option maxHeartbeats 400000 in
theorem oByte (rp : Value) (w : World) (h : Off rp w) : Calls Tryd.prog 21 #[rp] w fun e w' => e = .returned (.int .u8 0) ∧ w = w' := by
  have H := Lib.hid h
  clear h
  go_enter Tryd.func21, Tryd.ntmps21
  go_wp2_with (go_at_call 52; refine (H.out).mono ?_; rintro e w2 ⟨rfl, rfl⟩)
  go_ret
  exact ⟨rfl, rfl⟩
set_option maxRecDepth 100000 in
set_option maxHeartbeats 400000 in
theorem oInt (rp : Value) (w : World) (h : Off rp w) : Calls Tryd.prog 22 #[rp] w fun e w' => e = .returned (.int .i32 0) ∧ w = w' := by
  have H := Lib.hid h
  clear h
  go_enter Tryd.func22, Tryd.ntmps22
  go_wp2_with (go_at_call 52; refine (H.out).mono ?_; rintro e w2 ⟨rfl, rfl⟩)
  go_ret
  exact ⟨rfl, rfl⟩
set_option maxRecDepth 100000 in
set_option maxHeartbeats 400000 in
theorem oLong (rp : Value) (w : World) (h : Off rp w) : Calls Tryd.prog 23 #[rp] w fun e w' => e = .returned (.int .i64 0) ∧ w = w' := by
  have H := Lib.hid h
  clear h
  go_enter Tryd.func23, Tryd.ntmps23
  go_wp2_with (go_at_call 52; refine (H.out).mono ?_; rintro e w2 ⟨rfl, rfl⟩)
  go_ret
  exact ⟨rfl, rfl⟩
set_option maxRecDepth 100000 in
set_option maxHeartbeats 400000 in
theorem oLeft (rp : Value) (w : World) (h : Off rp w) : Calls Tryd.prog 27 #[rp] w fun e w' => e = .returned (.int .i64 0) ∧ w = w' := by
  have H := Lib.hid h
  clear h
  go_enter Tryd.func27, Tryd.ntmps27
  go_wp2_with (go_at_call 52; refine (H.out).mono ?_; rintro e w2 ⟨rfl, rfl⟩)
  go_ret
  exact ⟨rfl, rfl⟩
set_option maxRecDepth 100000 in
set_option maxHeartbeats 400000 in
theorem oBuffer (rp : Value) (m : Int) (w : World) (h : Off rp w) : Calls Tryd.prog 24 #[rp, .int .i64 m] w fun e w' => e = .returned (.slice none 0 0) ∧ w = w' := by
  have H := Lib.hid h
  clear h
  go_enter Tryd.func24, Tryd.ntmps24
  go_wp2_with (go_at_call 52; refine (H.out).mono ?_; rintro e w2 ⟨rfl, rfl⟩)
  go_ret
  exact ⟨rfl, rfl⟩
set_option maxRecDepth 100000 in
set_option maxHeartbeats 400000 in
theorem oText (rp : Value) (m : Int) (w : World) (h : Off rp w) : Calls Tryd.prog 25 #[rp, .int .i64 m] w fun e w' => e = .returned (.string ⟨#[]⟩) ∧ w = w' := by
  have H := Lib.hid h
  clear h
  go_enter Tryd.func25, Tryd.ntmps25
  go_wp2_with (go_at_call 52; refine (H.out).mono ?_; rintro e w2 ⟨rfl, rfl⟩)
  go_ret
  exact ⟨rfl, rfl⟩
set_option maxRecDepth 100000 in
set_option maxHeartbeats 400000 in
theorem oCount (rp : Value) (m k : Int) (w : World) (h : Off rp w) : Calls Tryd.prog 26 #[rp, .int .i64 m, .int .i64 k] w fun e w' => e = .returned (.int .i64 0) ∧ w = w' := by
  have H := Lib.hid h
  clear h
  go_enter Tryd.func26, Tryd.ntmps26
  go_wp2_with (go_at_call 52; refine (H.out).mono ?_; rintro e w2 ⟨rfl, rfl⟩)
  go_ret
  exact ⟨rfl, rfl⟩
set_option maxRecDepth 100000 in
set_option maxHeartbeats 400000 in
theorem oFail (rp : Value) (z : Int) (w : World) (h : Off rp w) : Calls Tryd.prog 42 #[rp, .int .i64 z] w fun e w' => e = .returned (.tuple #[]) ∧ w = w' := by
  have H := Lib.hid h
  clear h
  go_enter Tryd.func42, Tryd.ntmps42
  go_wp2_with (go_at_call 52; refine (H.out).mono ?_; rintro e w2 ⟨rfl, rfl⟩)
  go_end0
  exact ⟨rfl, rfl⟩
set_option maxRecDepth 100000 in
set_option maxHeartbeats 400000 in
theorem oGet (m k : Int) (F : Value) (w : World) : Calls Tryd.prog 43 #[.pointer none, .int .i64 m, .int .i64 k, F] w fun e w' => (∃ A c, e = .returned (.slice A 0 c)) ∧ Below w.heap.size w w' := by
  have hmk := strs_make0
  go_enter Tryd.func43, Tryd.ntmps43
  go_wp2_with (go_at_call 26; refine (oCount _ _ _ _ (off_nil _)).mono ?_; rintro e w2 ⟨rfl, rfl⟩)
  go_loopw [9, 16] (fun v i wr => Value.slice (some ⟨w.heap.size, 0, none⟩) 0 0 = v ∧ i = .int .i64 0 ∧ w.alloc (.cells #[] 9) = wr) (fun _ _ _ => 0)
  case atStart => exact ⟨rfl, rfl, rfl⟩
  case round =>
    obtain ⟨rfl, rfl, rfl⟩ := hrel
    go_wp2
    go_ret
    exact ⟨⟨_, _, rfl⟩, (Below.refl _ _).alloc (Nat.le_refl _) _⟩

set_option maxRecDepth 100000 in
set_option maxHeartbeats 400000 in
theorem nPut (A : Option Addr) (n c : Nat) (w : World) : Calls Tryd.prog 60 #[.pointer none, .slice A n c] w fun e w' => e = .returned (.tuple #[]) ∧ w = w' := by
  go_enter Tryd.func60, Tryd.ntmps60
  go_wp2
  go_end0
  exact ⟨rfl, rfl⟩
set_option maxRecDepth 100000 in
set_option maxHeartbeats 400000 in
theorem nNumber (n k : Nat) (hn : n < 18446744073709551616) (hk : k ≤ 8) (w : World) : Calls Tryd.prog 63 #[.pointer none, .int .u64 n, .int .i64 k] w fun e w' => e = .returned (.tuple #[]) ∧ Below w.heap.size w w' := by
  go_enter Tryd.func63, Tryd.ntmps63
  go_wp2
  go_loopw [6] (fun i wr => ∃ j : Nat, j ≤ k ∧ i = .int .i64 ((j : Int) - 1) ∧ Below w.heap.size w wr) (fun i _ => (intOf i + 1).toNat)
  case atStart => exact ⟨k, Nat.le_refl _, rfl, Below.refl _ _⟩
  case round =>
    obtain ⟨j, hj, rfl, hb⟩ := hrel
    have HB := Lib.hid hb
    have hz := hb.size
    clear hb
    by_cases hlt : 0 < j
    · obtain ⟨j, rfl⟩ : ∃ j', j = j' + 1 := ⟨j - 1, by omega⟩
      go_wp2_with (go_at_call 60; refine (nPut _ _ _ _).mono ?_; rintro e w2 ⟨rfl, rfl⟩)
      go_roundw
      case rel => exact ⟨j, by omega, by go_num, HB.out.alloc hz _⟩
      case measure => simp [intOf]
    · obtain rfl : j = 0 := by omega
      go_wp2
      go_end0
      exact ⟨rfl, HB.out⟩

set_option maxRecDepth 100000 in
set_option maxHeartbeats 400000 in
theorem nBool (w : World) : Calls Tryd.prog 35 #[.pointer none, .bool true] w fun e w' => e = .returned (.tuple #[]) ∧ Below w.heap.size w w' := by
  go_enter Tryd.func35, Tryd.ntmps35
  go_wp2_with (go_at_call 60; refine (nPut _ _ _ _).mono ?_; rintro e w2 ⟨rfl, rfl⟩)
  refine bodyPost_ret (results_none rfl _ _ _) rfl ?_
  exact ⟨rfl, (Below.refl _ _).alloc (Nat.le_refl _) _⟩
set_option maxRecDepth 100000 in
set_option maxHeartbeats 400000 in
theorem nByte (z : Int) (w : World) : Calls Tryd.prog 29 #[.pointer none, .int .u8 z] w fun e w' => e = .returned (.tuple #[]) ∧ Below w.heap.size w w' := by
  go_enter Tryd.func29, Tryd.ntmps29
  go_wp2_with (go_at_call 60; refine (nPut _ _ _ _).mono ?_; rintro e w2 ⟨rfl, rfl⟩)
  go_end0
  exact ⟨rfl, (Below.refl _ _).alloc (Nat.le_refl _) _⟩
theorem nNum4 (z : Int) (h0 : 0 ≤ z) (h1 : z < 18446744073709551616) (w : World) : Calls Tryd.prog 63 #[.pointer none, .int .u64 z, .int .i64 4] w fun e w' => e = .returned (.tuple #[]) ∧ Below w.heap.size w w' := by
  obtain ⟨n, rfl⟩ := Int.eq_ofNat_of_zero_le h0
  exact nNumber n 4 (by omega) (by omega) w
theorem nNum8 (z : Int) (h0 : 0 ≤ z) (h1 : z < 18446744073709551616) (w : World) : Calls Tryd.prog 63 #[.pointer none, .int .u64 z, .int .i64 8] w fun e w' => e = .returned (.tuple #[]) ∧ Below w.heap.size w w' := by
  obtain ⟨n, rfl⟩ := Int.eq_ofNat_of_zero_le h0
  exact nNumber n 8 (by omega) (by omega) w
set_option maxRecDepth 100000 in
set_option maxHeartbeats 400000 in
theorem nInt (z : Int) (w : World) : Calls Tryd.prog 36 #[.pointer none, .int .i32 z] w fun e w' => e = .returned (.tuple #[]) ∧ Below w.heap.size w w' := by
  go_enter Tryd.func36, Tryd.ntmps36
  go_wp2_with (go_at_call 63; refine (nNum4 _ (by omega) (by omega) _).mono ?_; rintro e w2 ⟨rfl, hb⟩)
  go_end0
  exact ⟨rfl, hb⟩
set_option maxRecDepth 100000 in
set_option maxHeartbeats 400000 in
theorem nLong (z : Int) (w : World) : Calls Tryd.prog 37 #[.pointer none, .int .i64 z] w fun e w' => e = .returned (.tuple #[]) ∧ Below w.heap.size w w' := by
  go_enter Tryd.func37, Tryd.ntmps37
  go_wp2_with (go_at_call 63; refine (nNum8 _ (u64_wrap_bd z).1 (u64_wrap_bd z).2 _).mono ?_; rintro e w2 ⟨rfl, hb⟩)
  go_end0
  exact ⟨rfl, hb⟩
set_option maxRecDepth 100000 in
set_option maxHeartbeats 400000 in
theorem nCount (z : Int) (w : World) : Calls Tryd.prog 39 #[.pointer none, .int .i64 z] w fun e w' => e = .returned (.tuple #[]) ∧ Below w.heap.size w w' := by
  go_enter Tryd.func39, Tryd.ntmps39
  go_wp2_with (go_at_call 36; refine (nInt _ _).mono ?_; rintro e w2 ⟨rfl, hb⟩)
  go_end0
  exact ⟨rfl, hb⟩
set_option maxRecDepth 100000 in
set_option maxHeartbeats 400000 in
theorem nBuffer (A : Option Addr) (n c : Nat) (w : World) : Calls Tryd.prog 28 #[.pointer none, .slice A n c] w fun e w' => e = .returned (.tuple #[]) ∧ Below w.heap.size w w' := by
  go_enter Tryd.func28, Tryd.ntmps28
  go_wp2_with (first
    | (go_at_call 39; refine (nCount _ _).mono ?_; rintro e w1 ⟨rfl, hb⟩; have HB := Lib.hid hb; clear hb)
    | (go_at_call 60; refine (nPut _ _ _ _).mono ?_; rintro e w2 ⟨rfl, rfl⟩))
  go_end0
  exact ⟨rfl, HB.out⟩
set_option maxRecDepth 100000 in
set_option maxHeartbeats 400000 in
theorem nText (s : ByteArray) (w : World) : Calls Tryd.prog 38 #[.pointer none, .string s] w fun e w' => e = .returned (.tuple #[]) ∧ Below w.heap.size w w' := by
  obtain ⟨c, w1, hrun, _, hb, _⟩ := conv_bytes w s
  have HB := Lib.hid hb
  clear hb
  go_enter Tryd.func38, Tryd.ntmps38
  go_wp2_with (go_at_call 28; refine (nBuffer _ _ _ _).mono ?_; rintro e w2 ⟨rfl, hb2⟩; have HB2 := Lib.hid hb2; clear hb2)
  go_end0
  exact ⟨rfl, HB.out.trans (HB2.out.mono HB.out.size)⟩
set_option maxRecDepth 100000 in
set_option maxHeartbeats 400000 in
theorem nPutText (s : ByteArray) (w : World) : Calls Tryd.prog 41 #[.pointer none, .string s] w fun e w' => e = .returned (.tuple #[]) ∧ Below w.heap.size w w' := by
  go_enter Tryd.func41, Tryd.ntmps41
  go_wp2_with (go_at_call 38; refine (nText s w).mono ?_; rintro e w2 ⟨rfl, hb2⟩)
  go_end0
  exact ⟨rfl, hb2⟩
set_option maxRecDepth 100000 in
set_option maxHeartbeats 400000 in
theorem nList (A : Option Addr) (n c B : Nat) (L : List ByteArray) (w : World) (hr : Reads w B 1 A n (scells L)) (hB : B ≤ w.heap.size) (hn : n ≤ 9223372036854775807) : Calls Tryd.prog 40 #[.pointer none, .slice A n c, .func (.func 41) #[] #[]] w fun e w' => e = .returned (.tuple #[]) ∧ Below w.heap.size w w' := by
  have hl : L.length = n := by have := hr.1; rw [scells_length] at this; omega
  subst hl
  have HR := Lib.hid hr
  clear hr
  have hnf := putfn_ne
  go_enter Tryd.func40, Tryd.ntmps40
  go_wp2_with (go_at_call 39; refine (nCount _ _).mono ?_; rintro e w1 ⟨rfl, hb⟩; have HB1 := Lib.hid hb; clear hb)
  go_loopw [16] (fun i wr => ∃ k : Nat, k ≤ L.length ∧ i = .int .i64 k ∧ Below w.heap.size w wr) (fun i _ => L.length - (intOf i).toNat)
  case atStart => exact ⟨0, Nat.zero_le _, rfl, HB1.out⟩
  case round =>
    clear HB1
    obtain ⟨k, hk, rfl, hb⟩ := hrel
    have HB := Lib.hid hb
    have hz := hb.size
    clear hb
    by_cases hlt : k < L.length
    · obtain ⟨ad, u, e, _, hu, hcell⟩ := (HR.out.below (HB.out.mono hB)).at_ hlt
      subst e
      have hget : u = .string (L[k]) := by
        simp only [scells, List.getElem?_map, List.getElem?_eq_getElem hlt, Option.map_some, Option.some.injEq] at hu
        exact hu.symm
      subst hget
      clear hu
      go_wp2_with (go_at_call 41; refine (nPutText L[k] wr).mono ?_; rintro e w2 ⟨rfl, hb2⟩; have HB2 : Hid (Below w.heap.size w w2) := HB.out.trans (hb2.mono hz); clear hb2)
      go_roundw
      case rel => exact ⟨k + 1, by omega, by go_num, HB2.out⟩
      case measure => simp [intOf]; omega
    · go_wp2
      go_end0
      exact ⟨rfl, HB.out⟩
set_option maxRecDepth 100000 in
theorem nBytes (w : World) : Calls Tryd.prog 30 #[.pointer none] w fun e w' => e = .returned (.slice none 0 0) ∧ w = w' := by
  go_enter Tryd.func30, Tryd.ntmps30
  go_wp2
  go_ret
  exact ⟨rfl, rfl⟩
set_option maxRecDepth 100000 in
theorem nLen (w : World) : Calls Tryd.prog 32 #[.pointer none] w fun e w' => e = .returned (.int .i64 0) ∧ w = w' := by
  go_enter Tryd.func32, Tryd.ntmps32
  go_wp2
  go_ret
  exact ⟨rfl, rfl⟩

theorem putfn_nil (w : World) : (binOp .eql 80 .nilFunc .nilFunc).run Tryd.prog w = .ok (.bool true) w := by kernel_rfl
theorem do_nil (w : World) : (binOp .eql 35 .nilFunc .nilFunc).run Tryd.prog w = .ok (.bool true) w := by kernel_rfl
set_option maxRecDepth 100000 in
set_option maxHeartbeats 400000 in
theorem wListNil_any (base g : Nat) (v : Value) (l : List UInt8) (A : Option Addr) (n c : Nat) (w : World) (h : Wr w base g v l) (hbase : base ≤ w.heap.size) (hsz : l.length + 8 ≤ 140737488355328) :
    Calls Tryd.prog 40 #[.pointer (some ⟨g, 0, none⟩), .slice A n c, .nilFunc] w fun e w' => e = .returned (.tuple #[]) ∧ ∃ v', Wrote base g v v' l (bInt n) w w' := by
  have H0 := Lib.hid h
  clear h
  have hnf := putfn_nil
  go_enter Tryd.func40, Tryd.ntmps40
  go_wp2_with (go_at_call 39; refine (wCount_any base g v l _ _ H0.out hbase (by omega)).mono ?_; rintro e w1 ⟨rfl, v1, hp⟩; have HP := Lib.hid hp; clear hp)
  refine bodyPost_ret (results_none rfl _ _ _) rfl ?_
  exact ⟨rfl, v1, HP.out⟩
set_option maxRecDepth 100000 in
set_option maxHeartbeats 400000 in
theorem readNil_any (A : Option Addr) (n c : Nat) (w : World) : Calls Tryd.prog 11 #[.slice A n c, .nilFunc] w fun e w' => e = .returned (.tuple #[.int .i64 0, .int .i64 2]) ∧ Below w.heap.size w w' := by
  have hnf := do_nil
  go_enter_defers Tryd.func11, Tryd.ntmps11
  go_wp2
  exact ⟨_, by simp [results, Tryd.results11, go_sem], rfl, ((Below.refl _ _).alloc (Nat.le_refl _) _).alloc (by simp) _⟩
set_option maxRecDepth 100000 in
set_option maxHeartbeats 400000 in
theorem allNil_any (A : Option Addr) (n c : Nat) (w : World) : Calls Tryd.prog 18 #[.slice A n c, .nilFunc] w fun e w' => e = .returned (.tuple #[.int .i64 0, .int .i64 2]) ∧ Below w.heap.size w w' := by
  go_enter Tryd.func18, Tryd.ntmps18
  go_wp2_with (go_at_call 11; refine (readNil_any A n c w).mono ?_; rintro e w1 ⟨rfl, hb⟩)
  go_ret2
  exact ⟨rfl, hb⟩
end Go.Proofs.YtbegingiedbldaaDoor
