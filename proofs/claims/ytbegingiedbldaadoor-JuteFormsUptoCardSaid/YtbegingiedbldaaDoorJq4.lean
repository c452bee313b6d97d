/- What is the same: bytes, what was read. -/
import Derived.Test.YtbegingiedbldaaDoorJq1
namespace Go.Proofs.YtbegingiedbldaaDoor
open Go.RowKit

theorem reads_byte {w : World} {B n k : Nat} {A : Option Addr} {l : List UInt8} (h : Reads w B 1 A n (bcells l)) (hk : k < l.length) : ∃ ad, A = some ad ∧ w.cell? (ad.add k) = some (.int .u8 (l[k].toNat : Int)) := by
  have hl : l.length = n := by have := h.1; rw [bcells_length] at this; omega
  obtain ⟨ad, u, e, _, hu, hc⟩ := h.at_ (k := k) (by omega)
  rw [bcells_get, List.getElem?_eq_getElem hk] at hu
  simp at hu
  subst hu
  exact ⟨ad, e, hc⟩
theorem reads_int {w : World} {B n k : Nat} {A : Option Addr} {l : List Int} (h : Reads w B 1 A n (icells l)) (hk : k < l.length) : ∃ ad, A = some ad ∧ w.cell? (ad.add k) = some (.int .i64 l[k]) := by
  have hl : l.length = n := by have := h.1; rw [icells_length] at this; omega
  obtain ⟨ad, u, e, _, hu, hc⟩ := h.at_ (k := k) (by omega)
  simp only [icells, List.getElem?_map, List.getElem?_eq_getElem hk, Option.map_some, Option.some.injEq] at hu
  subst hu
  exact ⟨ad, e, hc⟩
theorem reads_str {w : World} {B n k : Nat} {A : Option Addr} {l : List ByteArray} (h : Reads w B 1 A n (scells l)) (hk : k < l.length) : ∃ ad, A = some ad ∧ w.cell? (ad.add k) = some (.string l[k]) := by
  have hl : l.length = n := by have := h.1; rw [scells_length] at this; omega
  obtain ⟨ad, u, e, _, hu, hc⟩ := h.at_ (k := k) (by omega)
  simp only [scells, List.getElem?_map, List.getElem?_eq_getElem hk, Option.map_some, Option.some.injEq] at hu
  subst hu
  exact ⟨ad, e, hc⟩

set_option maxRecDepth 100000 in
set_option maxHeartbeats 400000 in
theorem sameBytes_true (A A' : Option Addr) (n c c' B B' : Nat) (l : List UInt8) (w : World) (h : Reads w B 1 A n (bcells l)) (h' : Reads w B' 1 A' n (bcells l)) (hn : n ≤ 9223372036854775807) :
    Calls Tryd.prog 16 #[.slice A n c, .slice A' n c'] w fun e w' => e = .returned (.bool true) ∧ ∃ m, w' = w.drewN m := by
  have hl : l.length = n := by have := h.1; rw [bcells_length] at this; omega
  subst hl
  have H := Lib.hid h
  have H' := Lib.hid h'
  clear h h'
  go_enter Tryd.func16, Tryd.ntmps16
  go_wp2
  go_loopw [5] (fun i wr => ∃ k m : Nat, k ≤ l.length ∧ i = .int .i64 k ∧ wr = w.drewN m) (fun i _ => l.length - (intOf i).toNat)
  case atStart => exact ⟨0, 0, Nat.zero_le _, rfl, rfl⟩
  case round =>
    obtain ⟨k, m, hk, rfl, rfl⟩ := hrel
    by_cases hlt : k < l.length
    · obtain ⟨ad, rfl, hc⟩ := reads_byte H.out hlt
      obtain ⟨ad', rfl, hc'⟩ := reads_byte H'.out hlt
      have hi : (k : Int) < (l.length : Int) := by omega
      have h0 : (0 : Int) ≤ (k : Int) := by omega
      go_wp2
      go_quiet (fail)
      go_wp2
      go_roundw
      case rel => exact ⟨k + 1, _, by omega, by go_num, rfl⟩
      case measure => simp [intOf]; omega
    · go_wp2
      go_ret
      exact ⟨rfl, _, rfl⟩

set_option maxRecDepth 100000 in
set_option maxHeartbeats 400000 in
theorem same_true (N : List Int) (T : List ByteArray) (aN aN' aT aT' : Option Addr) (cN cN' cT cT' B : Nat) (w : World) (hB : B ≤ w.heap.size)
    (h1 : Reads w B 1 aN N.length (icells N)) (h2 : Reads w B 1 aN' N.length (icells N)) (h3 : Reads w B 1 aT T.length (scells T)) (h4 : Reads w B 1 aT' T.length (scells T)) (hn : N.length ≤ 9223372036854775807) (ht : T.length ≤ 9223372036854775807) :
    Calls Tryd.prog 15 #[.agg #[.slice aN N.length cN, .slice aT T.length cT], .agg #[.slice aN' N.length cN', .slice aT' T.length cT']] w fun e w' => e = .returned (.bool true) ∧ Below w.heap.size w w' := by
  obtain ⟨w0, hw0⟩ : ∃ w0, (w.alloc (.cells #[.slice aN N.length cN, .slice aT T.length cT] 28)).alloc (.cells #[.slice aN' N.length cN', .slice aT' T.length cT'] 28) = w0 := ⟨_, rfl⟩
  have hb0 : Below w.heap.size w w0 := by rw [← hw0]; exact ((Below.refl _ _).alloc (Nat.le_refl _) _).alloc (by simp) _
  have b1 : Blk w0 w.heap.size 28 #[.slice aN N.length cN, .slice aT T.length cT] := by rw [← hw0]; exact (Blk.new' rfl).alloc _
  have b2 : Blk w0 (w.heap.size + 1) 28 #[.slice aN' N.length cN', .slice aT' T.length cT'] := by rw [← hw0]; exact Blk.new' (by simp)
  have c1 : w0.cell? ⟨w.heap.size, 0, none⟩ = some (.slice aN N.length cN) := by rw [b1.cell 0]; rfl
  have c2 : w0.cell? ⟨w.heap.size, 1, none⟩ = some (.slice aT T.length cT) := by rw [b1.cell 1]; rfl
  have c3 : w0.cell? ⟨w.heap.size + 1, 0, none⟩ = some (.slice aN' N.length cN') := by rw [b2.cell 0]; rfl
  have c4 : w0.cell? ⟨w.heap.size + 1, 1, none⟩ = some (.slice aT' T.length cT') := by rw [b2.cell 1]; rfl
  have H1 := Lib.hid ((h1.below (hb0.mono hB)))
  have H2 := Lib.hid ((h2.below (hb0.mono hB)))
  have H3 := Lib.hid ((h3.below (hb0.mono hB)))
  have H4 := Lib.hid ((h4.below (hb0.mono hB)))
  have HB0 := Lib.hid hb0
  clear h1 h2 h3 h4 hb0 b1 b2
  go_enter Tryd.func15, Tryd.ntmps15
  go_wp2
  go_loopw [5] (fun i wr => ∃ k m : Nat, k ≤ N.length ∧ i = .int .i64 k ∧ wr = w0.drewN m) (fun i _ => N.length - (intOf i).toNat)
  case atStart => exact ⟨0, 0, Nat.zero_le _, rfl, rfl⟩
  case round =>
    obtain ⟨k, m, hk, rfl, rfl⟩ := hrel
    by_cases hlt : k < N.length
    · obtain ⟨ad, rfl, hc⟩ := reads_int H1.out hlt
      obtain ⟨ad', rfl, hc'⟩ := reads_int H2.out hlt
      have hi : (k : Int) < (N.length : Int) := by omega
      have h0 : (0 : Int) ≤ (k : Int) := by omega
      go_wp2
      go_quiet (fail)
      go_wp2
      go_roundw
      case rel => exact ⟨k + 1, _, by omega, by go_num, rfl⟩
      case measure => simp [intOf]; omega
    · go_wp2
      go_loopw [6] (fun i wr => ∃ k m : Nat, k ≤ T.length ∧ i = .int .i64 k ∧ wr = w0.drewN m) (fun i _ => T.length - (intOf i).toNat)
      case atStart => exact ⟨0, _, Nat.zero_le _, rfl, rfl⟩
      case round =>
        obtain ⟨j, m', hj, rfl, rfl⟩ := hrel
        by_cases hlt2 : j < T.length
        · obtain ⟨ad, rfl, hc⟩ := reads_str H3.out hlt2
          obtain ⟨ad', rfl, hc'⟩ := reads_str H4.out hlt2
          have hi : (j : Int) < (T.length : Int) := by omega
          have h0 : (0 : Int) ≤ (j : Int) := by omega
          go_wp2
          go_quiet (fail)
          go_wp2
          go_roundw
          case rel => exact ⟨j + 1, _, by omega, by go_num, rfl⟩
          case measure => simp [intOf]; omega
        · go_wp2
          go_ret
          exact ⟨rfl, below_drewN' HB0.out _⟩
end Go.Proofs.YtbegingiedbldaaDoor
