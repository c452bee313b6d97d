/- StatRecords: the text of a Stat: the program's walk. -/
import Derived.Test.YtaojjjcaofhmcaaDoorSb2
import Derived.Lib.ItoaLen
set_option linter.unusedVariables false
set_option linter.unusedSimpArgs false
namespace Go.Proofs.YtaojjjcaofhmcaaDoor
open Go.RowKit

theorem strCells_eq (s : ByteArray) : Lib.strCells s = Lib.byteCells s.data.toList := by simp [Lib.strCells, Lib.byteCells]
theorem hexS_len (u : Nat) (h : u < 18446744073709551616) : (hexS u).length ≤ 16 := by
  have : ∀ k u, u < 16 ^ (k + 1) → (hexS u).length ≤ k + 1 := by
    intro k
    induction k with
    | zero => intro u hu; rw [hexS_small (by simpa using hu)]; simp
    | succ k ih =>
      intro u hu
      by_cases h : u < 16
      · rw [hexS_small h]; simp
      · rw [hexS_big h]
        have := ih (u / 16) (Nat.div_lt_of_lt_mul (by rw [Nat.pow_succ, Nat.mul_comm] at hu; exact hu))
        simp; omega
  exact this 15 u (by simpa using h)
/-- a builder that holds the bytes l, in block b, and the tables -/
structure Bd (B b : Nat) (l : List UInt8) (w : World) : Prop where
  at_ : Lib.IsBuilderF 82 5 b b (Lib.byteCells l) w
  env : EnvN B w
  lt : B ≤ b
  b : b ≤ w.heap.size

theorem bld_old {T e : TypeId} {B b : Nat} {bs : List Value} {w w' : World} (h : Lib.IsBuilderF T e B b bs w) (hb : Below w.heap.size w w') : Lib.IsBuilderF T e B b bs w' := by
  have k : ∀ p, Lib.BuilderAtF T e B b p bs w → Lib.BuilderAtF T e B b p bs w' := fun p h => by
    have hlt := h.lt
    obtain ⟨hB, v, hbk, hown, hne⟩ := h
    exact ⟨hB, v, (hb.block b hlt).trans hbk, hown.kept (row := none) ⟨hb.os, hb.tape, hb.output, hb.size, fun k hk _ => hb.block k hk⟩ (by cases hv : v.ownBlock <;> simp), hne⟩
  exact h.imp (k _) (k _)
theorem Bd.len {B b : Nat} {l m : List UInt8} {w : World} (h : Bd B b l w) (e : l = m) : Bd B b m w := e ▸ h
theorem cat_size (s t q r : ByteArray) : (s ++ t ++ q ++ r).size = s.size + t.size + q.size + r.size := by simp [ByteArray.size_append]
theorem cells_len (l : List UInt8) : (Lib.byteCells l).length = l.length := by simp [Lib.byteCells]
theorem cat_list (s t q r : ByteArray) : (s ++ t ++ q ++ r).data.toList = s.data.toList ++ t.data.toList ++ q.data.toList ++ r.data.toList := by simp [ByteArray.data_append]
theorem u64N_nat (z : Int) : ((u64N z : Nat) : Int) = IntKind.u64.wrap z := by unfold u64N; have := u64_wrap_bd z; omega

set_option maxRecDepth 100000 in
set_option maxHeartbeats 2000000 in
theorem hexLine_any (B b : Nat) (l : List UInt8) (s : ByteArray) (x : Int) (w : World) (h : Bd B b l w) (hl : l.length ≤ 4096) (hs : s.size ≤ 64) :
    Calls Tryd.prog 36 #[.string s, .int .i64 x, .pointer (some ⟨b, 0, none⟩)] w fun e w' => e = .returned (.tuple #[]) ∧ Bd B b (l ++ s.data.toList ++ [32, 61, 32, 48, 120] ++ hexS (u64N x) ++ [10]) w' ∧ Below b w w' := by
  have HH := Lib.hid h
  have hL := hexS_len (u64N x) (u64N_lt x)
  obtain ⟨q, hq⟩ : ∃ q : ByteArray, q = ⟨(hexS (u64N x)).toArray⟩ := ⟨_, rfl⟩
  have hqs : q.size ≤ 16 := by rw [hq]; simpa [ByteArray.size] using hL
  have hqd : q.data.toList = hexS (u64N x) := by rw [hq]
  have hrd := hex_any (u64N x) (u64N_lt x) B w h.env (Nat.le_trans h.lt h.b)
  rw [← hq, u64N_nat] at hrd
  have HR := Lib.hid hrd
  have HQ := Lib.hid hqd
  clear h hrd hq hqd hL
  go_enter Tryd.func36, Tryd.ntmps36
  go_wp2_with (first
    | (go_at_call 38; refine HR.out.mono ?_; rintro e w2 ⟨rfl, hb⟩; have HB := Lib.hid hb; clear hb)
    | (go_at_call 37
       refine (writeString_any b b (Lib.byteCells l) _ w2 (bld_old HH.out.at_ HB.out) (by rw [cat_size, cells_len]; show _ + (_ + 5 + _ + 1) ≤ _; omega) (Nat.le_trans HH.out.b HB.out.size)).mono ?_
       rintro e w3 ⟨rfl, hw, hb3⟩
       have HW := Lib.hid hw
       have HB3 := Lib.hid hb3
       clear hw hb3))
  go_end0
  have hb3 := HB3.out
  have hbd := (HB.out.mono HH.out.b).trans hb3
  refine ⟨rfl, ⟨?_, HH.out.env.below hbd HH.out.lt, HH.out.lt, Nat.le_trans HH.out.b hbd.size⟩, hbd⟩
  have hw := HW.out
  rw [strCells_eq, cat_list, HQ.out, ← Lib.byteCells_append] at hw
  refine .inr ?_
  simpa using hw

set_option maxRecDepth 100000 in
set_option maxHeartbeats 2000000 in
theorem decLine_any (B b : Nat) (l : List UInt8) (s : ByteArray) (x : Int) (w : World) (h : Bd B b l w) (hl : l.length ≤ 4096) (hs : s.size ≤ 64) (h0 : -9223372036854775808 ≤ x) (h1 : x ≤ 9223372036854775807) :
    Calls Tryd.prog 39 #[.string s, .int .i64 x, .pointer (some ⟨b, 0, none⟩)] w fun e w' => e = .returned (.tuple #[]) ∧ Bd B b (l ++ s.data.toList ++ [32, 61, 32] ++ Lib.itoa x ++ [10]) w' ∧ Below b w w' := by
  have HH := Lib.hid h
  have hL := Lib.itoa_length_le x h0 h1
  obtain ⟨q, hq⟩ : ∃ q : ByteArray, q = ⟨(Lib.itoa x).toArray⟩ := ⟨_, rfl⟩
  have hqs : q.size ≤ 21 := by rw [hq]; simpa [ByteArray.size] using hL
  have hqd : q.data.toList = Lib.itoa x := by rw [hq]
  have hrd := dec_any x h0 h1 B w h.env
  rw [← hq] at hrd
  have HR := Lib.hid hrd
  have HQ := Lib.hid hqd
  clear h hrd hq hqd hL
  go_enter Tryd.func39, Tryd.ntmps39
  go_wp2_with (first
    | (go_at_call 40; refine HR.out.mono ?_; rintro e w2 ⟨rfl, hb⟩; have HB := Lib.hid hb; clear hb)
    | (go_at_call 37
       refine (writeString_any b b (Lib.byteCells l) _ w2 (bld_old HH.out.at_ HB.out) (by rw [cat_size, cells_len]; show _ + (_ + 3 + _ + 1) ≤ _; omega) (Nat.le_trans HH.out.b HB.out.size)).mono ?_
       rintro e w3 ⟨rfl, hw, hb3⟩
       have HW := Lib.hid hw
       have HB3 := Lib.hid hb3
       clear hw hb3))
  go_end0
  have hb3 := HB3.out
  have hbd := (HB.out.mono HH.out.b).trans hb3
  refine ⟨rfl, ⟨?_, HH.out.env.below hbd HH.out.lt, HH.out.lt, Nat.le_trans HH.out.b hbd.size⟩, hbd⟩
  have hw := HW.out
  rw [strCells_eq, cat_list, HQ.out, ← Lib.byteCells_append] at hw
  refine .inr ?_
  simpa using hw
end Go.Proofs.YtaojjjcaofhmcaaDoor
