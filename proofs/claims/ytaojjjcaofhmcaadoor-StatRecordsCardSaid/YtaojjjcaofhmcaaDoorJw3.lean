/- The writer: what has a number's or a length's form. -/
import Derived.Test.YtaojjjcaofhmcaaDoorJw2
namespace Go.Proofs.YtaojjjcaofhmcaaDoor
open Go.RowKit

def u32N (z : Int) : Nat := (z % 4294967296).toNat
def u64N (z : Int) : Nat := (IntKind.u64.wrap z).toNat
theorem u64_wrap_bd (z : Int) : 0 ≤ IntKind.u64.wrap z ∧ IntKind.u64.wrap z < 18446744073709551616 := by rw [IntKind.wrap_u64]; omega
theorem u32N_cast (z : Int) : ((u32N z : Nat) : Int) = z % 4294967296 := by unfold u32N; omega
theorem u64N_cast (z : Int) : ((u64N z : Nat) : Int) = z % 18446744073709551616 := by unfold u64N; rw [IntKind.wrap_u64]; omega
theorem u32N_lt (z : Int) : u32N z < 18446744073709551616 := by unfold u32N; omega
theorem u64N_lt (z : Int) : u64N z < 18446744073709551616 := by unfold u64N; rw [IntKind.wrap_u64]; omega
def bInt (z : Int) : List UInt8 := beBytes (u32N z) 4
def bLong (z : Int) : List UInt8 := beBytes (u64N z) 8
def bBool (b : Bool) : List UInt8 := [if b then 1 else 0]
def bByte (z : Int) : List UInt8 := [UInt8.ofNat z.toNat]
theorem bInt_len (z : Int) : (bInt z).length = 4 := beBytes_length _ _
theorem bLong_len (z : Int) : (bLong z).length = 8 := beBytes_length _ _
def bBuf (l : List UInt8) : List UInt8 := bInt l.length ++ l
theorem bBuf_len (l : List UInt8) : (bBuf l).length = 4 + l.length := by simp [bBuf, bInt_len]

theorem bInt_wrap (z : Int) : bInt (wrap32 (IntKind.u64.wrap z % 4294967296)) = bInt z := by
  have e : u32N (wrap32 (IntKind.u64.wrap z % 4294967296)) = u32N z := by
    unfold u32N wrap32
    rw [IntKind.wrap_u64]
    omega
  unfold bInt
  rw [e]

theorem bByte_cell (z : Int) (h0 : 0 ≤ z) (h1 : z < 256) : bcells (bByte z) = [.int .u8 z] := by
  have e : (UInt8.ofNat z.toNat).toNat = z.toNat := by rw [UInt8.toNat_ofNat']; omega
  simp only [bByte, bcells, List.map_cons, List.map_nil, e]
  congr 2
  omega

set_option maxRecDepth 100000 in
set_option maxHeartbeats 400000 in
theorem wBool_any (base g : Nat) (v : Value) (l : List UInt8) (b : Bool) (w : World) (h : Wr w base g v l) (hbase : base ≤ w.heap.size) (hsz : l.length + 8 ≤ 140737488355328) :
    Calls Tryd.prog 50 #[.pointer (some ⟨g, 0, none⟩), .bool b] w fun e w' => e = .returned (.tuple #[]) ∧ ∃ v', Wrote base g v v' l (bBool b) w w' := by
  have H0 := Lib.hid h
  clear h
  cases b
  · go_enter Tryd.func50, Tryd.ntmps50
    go_wp2_with (go_at_call 88; refine (put_any base g v l (bBool false) _ 1 1 (w.heap.size + 1) _ (H0.out.later (by go_grown)) (reads_lit w 5 [_]) (by simp; omega) (by simp [bBool]; omega)).mono ?_; rintro e w2 ⟨rfl, v2, hp⟩; have HP := Lib.hid (hp.from (w := w) (by go_grown)); clear hp)
    go_end0
    exact ⟨rfl, v2, HP.out⟩
  · go_enter Tryd.func50, Tryd.ntmps50
    go_wp2_with (go_at_call 88; refine (put_any base g v l (bBool true) _ 1 1 (w.heap.size + 1) _ (H0.out.later (by go_grown)) (reads_lit w 5 [_]) (by simp; omega) (by simp [bBool]; omega)).mono ?_; rintro e w2 ⟨rfl, v2, hp⟩; have HP := Lib.hid (hp.from (w := w) (by go_grown)); clear hp)
    refine bodyPost_ret (results_none rfl _ _ _) rfl ?_
    exact ⟨rfl, v2, HP.out⟩

theorem wnumber4 (base g : Nat) (v : Value) (l : List UInt8) (z : Int) (h0 : 0 ≤ z) (h1 : z < 18446744073709551616) (w : World) (h : Wr w base g v l) (hbase : base ≤ w.heap.size) (hsz : l.length + 8 ≤ 140737488355328) :
    Calls Tryd.prog 82 #[.pointer (some ⟨g, 0, none⟩), .int .u64 z, .int .i64 4] w fun e w' => e = .returned (.tuple #[]) ∧ ∃ v', Wrote base g v v' l (beBytes z.toNat 4) w w' := by
  obtain ⟨n, rfl⟩ := Int.eq_ofNat_of_zero_le h0
  exact wnumber_any base g v l n 4 w h (by omega) (by omega) hbase hsz
theorem wnumber8 (base g : Nat) (v : Value) (l : List UInt8) (z : Int) (h0 : 0 ≤ z) (h1 : z < 18446744073709551616) (w : World) (h : Wr w base g v l) (hbase : base ≤ w.heap.size) (hsz : l.length + 8 ≤ 140737488355328) :
    Calls Tryd.prog 82 #[.pointer (some ⟨g, 0, none⟩), .int .u64 z, .int .i64 8] w fun e w' => e = .returned (.tuple #[]) ∧ ∃ v', Wrote base g v v' l (beBytes z.toNat 8) w w' := by
  obtain ⟨n, rfl⟩ := Int.eq_ofNat_of_zero_le h0
  exact wnumber_any base g v l n 8 w h (by omega) (by omega) hbase hsz

set_option maxRecDepth 100000 in
set_option maxHeartbeats 400000 in
theorem wInt_any (base g : Nat) (v : Value) (l : List UInt8) (z : Int) (w : World) (h : Wr w base g v l) (hbase : base ≤ w.heap.size) (hsz : l.length + 8 ≤ 140737488355328) :
    Calls Tryd.prog 33 #[.pointer (some ⟨g, 0, none⟩), .int .i32 z] w fun e w' => e = .returned (.tuple #[]) ∧ ∃ v', Wrote base g v v' l (bInt z) w w' := by
  have H0 := Lib.hid h
  clear h
  go_enter Tryd.func33, Tryd.ntmps33
  go_wp2_with (go_at_call 82; refine (wnumber4 base g v l _ (by omega) (by omega) _ H0.out hbase hsz).mono ?_; rintro e w2 ⟨rfl, v2, hp⟩; have HP := Lib.hid hp; clear hp)
  go_end0
  exact ⟨rfl, v2, HP.out⟩

set_option maxRecDepth 100000 in
set_option maxHeartbeats 400000 in
theorem wLong_any (base g : Nat) (v : Value) (l : List UInt8) (z : Int) (w : World) (h : Wr w base g v l) (hbase : base ≤ w.heap.size) (hsz : l.length + 8 ≤ 140737488355328) :
    Calls Tryd.prog 32 #[.pointer (some ⟨g, 0, none⟩), .int .i64 z] w fun e w' => e = .returned (.tuple #[]) ∧ ∃ v', Wrote base g v v' l (bLong z) w w' := by
  have H0 := Lib.hid h
  clear h
  go_enter Tryd.func32, Tryd.ntmps32
  go_wp2_with (go_at_call 82; refine (wnumber8 base g v l _ (u64_wrap_bd z).1 (u64_wrap_bd z).2 _ H0.out hbase hsz).mono ?_; rintro e w2 ⟨rfl, v2, hp⟩; have HP := Lib.hid hp; clear hp)
  go_end0
  exact ⟨rfl, v2, HP.out⟩

set_option maxRecDepth 100000 in
set_option maxHeartbeats 400000 in
theorem wCount_any (base g : Nat) (v : Value) (l : List UInt8) (z : Int) (w : World) (h : Wr w base g v l) (hbase : base ≤ w.heap.size) (hsz : l.length + 8 ≤ 140737488355328) :
    Calls Tryd.prog 87 #[.pointer (some ⟨g, 0, none⟩), .int .i64 z] w fun e w' => e = .returned (.tuple #[]) ∧ ∃ v', Wrote base g v v' l (bInt z) w w' := by
  have HE := Lib.hid (bInt_wrap z)
  have H0 := Lib.hid h
  clear h
  go_enter Tryd.func87, Tryd.ntmps87
  go_wp2_with (go_at_call 33; refine (wInt_any base g v l _ _ H0.out hbase hsz).mono ?_; rintro e w2 ⟨rfl, v2, hp⟩; have HP := Lib.hid (HE.out ▸ hp); clear hp)
  go_end0
  exact ⟨rfl, v2, HP.out⟩

end Go.Proofs.YtaojjjcaofhmcaaDoor
