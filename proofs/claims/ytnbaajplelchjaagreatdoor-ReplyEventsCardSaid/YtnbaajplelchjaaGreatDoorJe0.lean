/- The document's bytes of numbers and texts: the walks. -/
import Derived.Test.YtnbaajplelchjaaGreatDoorJw
import Derived.Lib.AppendStr
set_option linter.unusedVariables false
set_option linter.unusedSimpArgs false
namespace Go.Proofs.YtnbaajplelchjaaGreatDoor
open Go.RowKit

/-- a row of its own of the bytes l -/
def Rb (w : World) (base : Nat) (v : Value) (l : List UInt8) : Prop := w.ownsRow base 5 1 v l.length (bcells l)
theorem Rb.later {w w' : World} {base : Nat} {v : Value} {l : List UInt8} (h : Rb w base v l) (hb : Below w.heap.size w w') : Rb w' base v l := own_kp h (Kp.of_below (X := []) hb) (fun _ h => by cases h)
theorem Rb.nil (w : World) (base : Nat) : Rb w base (.slice none 0 0) [] := World.ownsRow_nil _ _ _ _
/-- the blocks of any other type than bytes are as they were -/
def Keeps (w w' : World) : Prop := ∀ g t cs, t ≠ 5 → Blk w g t cs → Blk w' g t cs
theorem Keeps.refl (w : World) : Keeps w w := fun _ _ _ _ h => h
theorem Keeps.trans {w w1 w2 : World} (h : Keeps w w1) (h2 : Keeps w1 w2) : Keeps w w2 := fun g t cs ht hb => h2 g t cs ht (h g t cs ht hb)
theorem Keeps.alloc {w w' : World} (h : Keeps w w') (o : Obj) : Keeps w (w'.alloc o) := fun g t cs ht hb => (h g t cs ht hb).alloc o
theorem Keeps.grown {w w1 w2 : World} {base n : Nat} {v : Value} {xs : List Value} (h : Keeps w w1) (hv : w1.ownsRow base 5 1 v n xs) (hg : w1.grownBy w2 v.ownBlock) : Keeps w w2 := fun g t cs ht hb =>
  (h g t cs ht hb).grown hg (fun e => own_blk_ne hv (h g t cs ht hb) ht.symm e.symm)
theorem str_cells (s : ByteArray) : Go.Lib.strCells s = bcells s.data.toList := by simp [Go.Lib.strCells, bcells]

set_option maxRecDepth 100000 in
set_option maxHeartbeats 400000 in
theorem refPut_any (base : Nat) (v : Value) (l : List UInt8) (n k : Nat) (w : World) (h : Rb w base v l) (hn : n < 18446744073709551616) (hk : k ≤ 8) (hbase : base ≤ w.heap.size) (hsz : l.length + 8 ≤ 140737488355328) :
    Calls Tryz.prog 38 #[v, .int .u64 n, .int .i64 k] w fun e w' => ∃ v', e = .returned v' ∧ Rb w' base v' (l ++ beBytes n k) ∧ Below base w w' ∧ Keeps w w' := by
  obtain ⟨i0, hi0, hz0, hz1, hz2⟩ := info_parts u8_info
  have H0 := Lib.hid h
  clear h
  go_enter Tryz.func38, Tryz.ntmps38
  go_wp2
  go_loopw [0, 7] (fun u i wr => ∃ (j : Nat) (d : List UInt8) (v1 : Value), j ≤ k ∧ u = v1 ∧ i = .int .i64 ((j : Int) - 1) ∧ Hid (d ++ beBytes n j = beBytes n k) ∧ Rb wr base v1 (l ++ d) ∧ Below base w wr ∧ Keeps w wr) (fun _ i _ => (intOf i + 1).toNat)
  case atStart => exact ⟨k, [], v, Nat.le_refl _, rfl, rfl, rfl, by simpa using H0.out, Below.refl _ _, Keeps.refl _⟩
  case round =>
    obtain ⟨j, d, v1, hj, rfl, rfl, HD, hR, hB, hK⟩ := hrel
    have HK := Lib.hid hK
    have HR := Lib.hid hR
    have HB := Lib.hid hB
    have hbw := Nat.le_trans hbase hB.size
    clear hR hB hK
    by_cases hlt : 0 < j
    · obtain ⟨j, rfl⟩ : ∃ j', j = j' + 1 := ⟨j - 1, by omega⟩
      have hl : (l ++ d).length + 1 ≤ 140737488355328 := by
        have h1 := congrArg List.length HD.out
        rw [List.length_append, beBytes_length, beBytes_length] at h1
        rw [List.length_append]; omega
      have HC : Hid (bcells [UInt8.ofNat (n / 256 ^ j)] = [.int .u8 ((n : Int) / 2 ^ (8 * j) % 256)]) := byte_cell n j
      go_wp2_with (at_builtin
                   refine wpList_append_any _ rfl (.tmp 14) (.tmp 21) _ rfl base 5 i0 _ 1 1 Tryz.underlying25 hi0 hz0 hz1 hz2 rfl (by decide) _ (l ++ d).length (bcells (l ++ d)) rfl (World.ownsRow.alloc HR.out _) (wr.heap.size + 1) (some ⟨wr.heap.size, 0, none⟩) 1 1 (bcells [UInt8.ofNat (n / 256 ^ j)]) rfl (by rw [HC.out]; exact reads_lit wr 5 [_]) (bcells_one _) (by simp only [maxLen]; omega) (by omega) (by simp; omega) ?_
                   intro v2 w2 ho2 hg2 hat2
                   have HO2 : Hid (Rb w2 base v2 (l ++ (d ++ [UInt8.ofNat (n / 256 ^ j)]))) := (by unfold Hid Rb; rw [← List.append_assoc, bcells_append, show (l ++ d ++ [UInt8.ofNat (n / 256 ^ j)]).length = (l ++ d).length + 1 by (rw [List.length_append]; rfl)]; exact ho2)
                   have HB2 : Hid (Below base w w2) := HB.out.trans (((Below.refl _ _).alloc hbw _).grown hg2 (by simp; omega) (fun x hx => (HR.out.lt x hx).1))
                   have HK2 : Hid (Keeps w w2) := (HK.out.alloc _).grown (World.ownsRow.alloc HR.out _) hg2
                   clear ho2 hg2 hat2)
      go_roundw
      case rel => exact ⟨j, d ++ [UInt8.ofNat (n / 256 ^ j)], v2, by omega, rfl, by go_num, by show _ = _; rw [← HD.out]; simp [beBytes], HO2.out, HB2.out, HK2.out⟩
      case measure => simp [intOf]
    · obtain rfl : j = 0 := by omega
      go_wp2
      go_ret
      have e := HD.out
      simp only [beBytes, List.append_nil] at e
      exact ⟨_, rfl, e ▸ HR.out, HB.out, HK.out⟩

set_option maxRecDepth 100000 in
set_option maxHeartbeats 400000 in
theorem refText_any (base : Nat) (v : Value) (l : List UInt8) (s : ByteArray) (w : World) (h : Rb w base v l) (hbase : base ≤ w.heap.size) (hsz : l.length + s.size + 8 ≤ 140737488355328) :
    Calls Tryz.prog 63 #[v, .string s] w fun e w' => ∃ v', e = .returned v' ∧ Rb w' base v' (l ++ bBuf s.data.toList) ∧ Below base w w' ∧ Keeps w w' := by
  obtain ⟨i0, hi0, hz0, hz1, hz2⟩ := info_parts u8_info
  have H0 := Lib.hid h
  have HU : Hid (beBytes ((s.size : Int) % 4294967296).toNat 4 = bInt s.data.toList.length) := by unfold Hid bInt u32N; rw [bsize_eq]
  clear h
  go_enter Tryz.func63, Tryz.ntmps63
  go_wp2_with (first
    | (go_at_call 38
       have hrd := refPut_any base v l ((s.size : Int) % 4294967296).toNat 4 w H0.out (by omega) (by omega) hbase (by omega)
       rw [HU.out] at hrd
       refine hrd.mono ?_
       clear hrd
       rintro e w1 ⟨v1, rfl, hr1, hb1, hk1⟩
       have HK1 := Lib.hid hk1
       have HR1 := Lib.hid hr1
       have HB1 := Lib.hid hb1
       clear hr1 hb1 hk1)
    | (at_builtin
       refine Lib.wpList_append_own_string _ rfl (.tmp 11) (.tmp 12) _ _ rfl base 5 i0 Tryz.underlying25 Tryz.underlying9 hi0 hz0 hz1 hz2 v1 (l ++ bInt s.data.toList.length).length (bcells (l ++ bInt s.data.toList.length)) rfl HR1.out s rfl (by simp only [maxLen, List.length_append, bInt_len]; omega) (by simp only [List.length_append, bInt_len]; omega) (Nat.le_trans hbase HB1.out.size) ?_
       intro v2 w2 ho2 hg2 hnn2
       have HO2 : Hid (Rb w2 base v2 (l ++ bBuf s.data.toList)) := (by
         unfold Hid Rb bBuf
         rw [← List.append_assoc, bcells_append, show (l ++ bInt s.data.toList.length ++ s.data.toList).length = (l ++ bInt s.data.toList.length).length + s.size by (rw [List.length_append, bsize_eq]), ← str_cells s]
         exact ho2)
       have HB2 : Hid (Below base w w2) := HB1.out.grown hg2 (Nat.le_trans hbase HB1.out.size) (fun x hx => (HR1.out.lt x hx).1)
       have HK2 : Hid (Keeps w w2) := HK1.out.grown HR1.out hg2
       clear ho2 hg2 hnn2))
  go_ret
  exact ⟨_, rfl, HO2.out, HB2.out, HK2.out⟩

theorem u8_mod (a b : Nat) (h : a % 256 = b % 256) : UInt8.ofNat a = UInt8.ofNat b := by
  apply UInt8.toNat_inj.1
  rw [UInt8.toNat_ofNat', UInt8.toNat_ofNat']
  exact h
theorem be4_mod (a b : Nat) (h : a % 4294967296 = b % 4294967296) : beBytes a 4 = beBytes b 4 := by
  simp only [beBytes]
  rw [u8_mod (a / 256 ^ 3) (b / 256 ^ 3) (by omega), u8_mod (a / 256 ^ 2) (b / 256 ^ 2) (by omega), u8_mod (a / 256 ^ 1) (b / 256 ^ 1) (by omega), u8_mod (a / 256 ^ 0) (b / 256 ^ 0) (by omega)]
theorem refPut4 (base : Nat) (v : Value) (l : List UInt8) (y z : Int) (w : World) (h0 : 0 ≤ y) (h1 : y < 18446744073709551616) (hy : y % 4294967296 = z % 4294967296) (h : Rb w base v l) (hbase : base ≤ w.heap.size) (hsz : l.length + 8 ≤ 140737488355328) :
    Calls Tryz.prog 38 #[v, .int .u64 y, .int .i64 4] w fun e w' => ∃ v', e = .returned v' ∧ Rb w' base v' (l ++ bInt z) ∧ Below base w w' ∧ Keeps w w' := by
  have h := refPut_any base v l y.toNat 4 w h (by omega) (by omega) hbase hsz
  rw [Int.toNat_of_nonneg h0] at h
  rwa [show bInt z = beBytes y.toNat 4 from be4_mod _ _ (by have := u32N_cast z; omega)]
theorem refPut8 (base : Nat) (v : Value) (l : List UInt8) (z : Int) (w : World) (h : Rb w base v l) (hbase : base ≤ w.heap.size) (hsz : l.length + 8 ≤ 140737488355328) :
    Calls Tryz.prog 38 #[v, .int .u64 (IntKind.u64.wrap z), .int .i64 8] w fun e w' => ∃ v', e = .returned v' ∧ Rb w' base v' (l ++ bLong z) ∧ Below base w w' ∧ Keeps w w' := by
  have hb := u64_wrap_bd z
  have h := refPut_any base v l (IntKind.u64.wrap z).toNat 8 w h (by omega) (by omega) hbase hsz
  rw [Int.toNat_of_nonneg hb.1] at h
  exact h
end Go.Proofs.YtnbaajplelchjaaGreatDoor
