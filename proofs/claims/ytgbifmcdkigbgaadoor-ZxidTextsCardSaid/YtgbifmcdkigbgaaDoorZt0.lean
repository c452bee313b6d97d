/- strconv.FormatUint at base 16 (out of sr/XSb2, so/XSo1 by gen_t0.py). -/
import Derived.Test.YtgbifmcdkigbgaaDoorJw
import Derived.Lib.ConvBytes
import Derived.Lib.LaidTab
import Derived.Stop.LaidErr
import Derived.Lib.ItoaMem
import Derived.Laws.IdiomStrings
set_option linter.unusedVariables false
set_option linter.unusedSimpArgs false
namespace Go.Proofs.YtgbifmcdkigbgaaDoor
open Go.RowKit

theorem lit_cell {w : World} {g : Nat} {t : TypeId} {cs : Array Value} (h : Blk w g t cs) {u : Value} (j : Nat) (hu : cs[j]? = some u) : w.cell? ⟨g, j, none⟩ = some u := (h.cell j).trans hu
/-- the digits' constant -/
def hexC (d : Nat) : UInt8 := "0123456789abcdefghijklmnopqrstuvwxyz".toUTF8.data.toList.getD d 0
/-- a number's digits at base 16 -/
def hexS (u : Nat) : List UInt8 := if u < 16 then [hexC u] else hexS (u / 16) ++ [hexC (u % 16)]
decreasing_by omega
theorem hex_lit : ∀ r : Fin 36, (⟨#[48, 49, 50, 51, 52, 53, 54, 55, 56, 57, 97, 98, 99, 100, 101, 102, 103, 104, 105, 106, 107, 108, 109, 110, 111, 112, 113, 114, 115, 116, 117, 118, 119, 120, 121, 122]⟩ : ByteArray)[r.val]'(r.isLt) = hexC r.val := by decide +kernel
theorem hex_at (r : Nat) (h : r < 36) : (⟨#[48, 49, 50, 51, 52, 53, 54, 55, 56, 57, 97, 98, 99, 100, 101, 102, 103, 104, 105, 106, 107, 108, 109, 110, 111, 112, 113, 114, 115, 116, 117, 118, 119, 120, 121, 122]⟩ : ByteArray)[r]'h = hexC r := hex_lit ⟨r, h⟩
theorem and_u64 (a b : Nat) (ha : a < 18446744073709551616) (hb : b < 18446744073709551616) : bits BinOp.and IntKind.u64 (a : Int) (b : Int) = ((a &&& b : Nat) : Int) := by
  have hx : a &&& b < 2 ^ 64 := Nat.and_lt_two_pow _ (by omega)
  have h1 : (BitVec.ofInt 64 (a : Int)).toNat = a := by
    rw [BitVec.ofInt_natCast, BitVec.toNat_ofNat]; exact Nat.mod_eq_of_lt (by omega)
  have h2 : (BitVec.ofInt 64 (b : Int)).toNat = b := by
    rw [BitVec.ofInt_natCast, BitVec.toNat_ofNat]; exact Nat.mod_eq_of_lt (by omega)
  show IntKind.u64.wrap ((BitVec.ofInt 64 (a : Int) &&& BitVec.ofInt 64 (b : Int)).toNat : Int) = _
  rw [BitVec.toNat_and, h1, h2, IntKind.wrap_u64]
  omega
theorem drop_set (cs : Array Value) (i : Nat) (h : i < cs.size) (x : Value) : (cs.setIfInBounds i x).toList.drop i = x :: cs.toList.drop (i + 1) := by
  rw [List.drop_eq_getElem_cons (by simpa using h)]
  simp [List.drop_set]
theorem hexS_small {u : Nat} (h : u < 16) : hexS u = [hexC u] := by rw [hexS, if_pos h]
theorem hexS_big {u : Nat} (h : ¬ u < 16) : hexS u = hexS (u / 16) ++ [hexC (u % 16)] := by rw [hexS, if_neg h]

/-- the library's tables, as they are laid, in blocks below B -/
structure EnvN (B : Nat) (W : World) : Prop where
  tab : Lib.TabIs Tryd.prog W "internal/strconv.uint64pow10" .u64 Lib.pow10Tab
  db : W.cell? ⟨4, 15, none⟩ = some (.int .u8 4)
  g1 : 4 < B
  g2 : 2 < B
theorem EnvN.below {B B' : Nat} {W W' : World} (h : EnvN B W) (hb : Below B' W W') (hB : B ≤ B') : EnvN B W' := by
  refine ⟨?_, (hb.cell (p := ⟨4, 15, none⟩) (Nat.lt_of_lt_of_le h.g1 hB)).trans h.db, h.g1, h.g2⟩
  have ht := h.tab
  have hg : Tryd.prog.globalNamed "internal/strconv.uint64pow10" = some 2 := by kernel_rfl
  unfold Lib.TabIs World.var? at *
  simp only [hg, Option.bind_some] at ht ⊢
  rw [hb.block _ (Nat.lt_of_lt_of_le h.g2 hB)]
  exact ht

set_option maxRecDepth 100000 in
theorem isPow_any (w : World) : Calls Tryd.prog 43 #[.int .i64 16] w fun e w' => e = .returned (.bool true) ∧ w' = w := by
  go_enter Tryd.func43, Tryd.ntmps43
  go_wp2
  go_ret
  exact ⟨rfl, rfl⟩

set_option maxRecDepth 100000 in
theorem tz64_any (B : Nat) (w : World) (hE : EnvN B w) : Calls Tryd.prog 47 #[.int .u64 16] w fun e w' => e = .returned (.int .i64 4) ∧ w' = w := by
  have hc := hE.db
  go_enter Tryd.func47, Tryd.ntmps47
  have hk : IntKind.u64.wrap (bits BinOp.and IntKind.u64 16 (IntKind.u64.wrap (-16)) * 285870213051353865) / 288230376151711744 = 15 := by kernel_rfl
  go_wp2
  go_ret
  exact ⟨rfl, rfl⟩

set_option maxRecDepth 100000 in
theorem tz_any (B : Nat) (w : World) (hE : EnvN B w) : Calls Tryd.prog 44 #[.int .u64 16] w fun e w' => e = .returned (.int .i64 4) ∧ w' = w := by
  go_enter Tryd.func44, Tryd.ntmps44
  go_wp2_with (go_at_call 47; refine (tz64_any B w hE).mono ?_; rintro e w2 ⟨rfl, rfl⟩)
  go_ret
  exact ⟨rfl, rfl⟩

set_option maxRecDepth 100000 in
set_option maxHeartbeats 2000000 in
theorem formatBits16 (u : Nat) (hu : u < 18446744073709551616) (B : Nat) (w : World) (hE : EnvN B w) (hB : B ≤ w.heap.size) :
    Calls Tryd.prog 35 #[.slice none 0 0, .int .u64 u, .int .i64 16, .bool false, .bool false] w fun e w' => e = .returned (.tuple #[.slice none 0 0, .string ⟨(hexS u).toArray⟩]) ∧ Below w.heap.size w w' := by
  obtain ⟨Z, hZ⟩ : ∃ Z : Array Value, Z = Array.replicate 65 (.int .u8 0) := ⟨_, rfl⟩
  have hzv : ∀ W, (zeroValue 72).run Tryd.prog W = .ok (.agg Z) W := fun W => by rw [hZ]; kernel_rfl
  obtain ⟨w1, hw1⟩ : ∃ w1, w.alloc (.cells Z 72) = w1 := ⟨_, rfl⟩
  have HB1 : Hid (Below w.heap.size w w1) := by unfold Hid; rw [← hw1]; exact (Below.refl _ _).alloc (Nat.le_refl _) _
  have HC1 : Hid (Blk w1 w.heap.size 72 (Array.replicate 65 (.int .u8 0))) := by unfold Hid; rw [← hw1, ← hZ]; exact Blk.new _ _ _
  clear hZ
  have HE : Hid (EnvN B w1) := hE.below HB1.out hB
  clear hE
  go_enter Tryd.func35, Tryd.ntmps35
  go_wp2_with (first
    | (go_at_call 43; refine (isPow_any _).mono ?_; rintro e w2 ⟨rfl, rfl⟩)
    | (go_at_call 44; refine (tz_any B _ HE.out).mono ?_; rintro e w2 ⟨rfl, rfl⟩))
  rename World => w1
  go_loopw [1, 13] (fun u' i wr => ∃ (m k : Nat) (d : List UInt8) (cs : Array Value), k ≤ 15 ∧ m < 16 ^ (16 - k) ∧ u' = .int .u64 m ∧ i = .int .i64 (65 - k : Int) ∧ d.length = k ∧ Hid (hexS m ++ d = hexS u) ∧ Blk wr w.heap.size 72 cs ∧ cs.size = 65 ∧ cs.toList.drop (65 - k) = bcells d ∧ Below w.heap.size w wr) (fun u' _ _ => (intOf u').toNat)
  case atStart => exact ⟨u, 0, [], _, by omega, by omega, rfl, rfl, rfl, by unfold Hid; simp, HC1.out, by simp, by simp [bcells], HB1.out⟩
  case round =>
    obtain ⟨m, k, d, cs, hk, hm, rfl, rfl, hd, HX, hC, hcs, hdr, hB⟩ := hrel
    have hm64 : m < 18446744073709551616 := Nat.lt_of_lt_of_le hm (Nat.le_trans (Nat.pow_le_pow_right (by decide) (by omega)) (by decide : 16 ^ 16 ≤ 18446744073709551616))
    by_cases hlt : m < 16
    · obtain ⟨v0, hv0⟩ : ∃ v, wr.cell? ⟨w.heap.size, 65 - k - 1, none⟩ = some v := ⟨_, lit_cell hC (65 - k - 1) (Array.getElem?_eq_getElem (by omega))⟩
      have hfr := hC.frozen (65 - k - 1)
      have hal : Tryd.prog.arrayLen 72 = 65 := by kernel_rfl
      have hsl : ∀ W, (Instr.sliceAt 72 (.pointer (some ⟨w.heap.size, 0, none⟩)) (some (.int .i64 (65 - k - 1 : Int))) none none).run Tryd.prog W = .ok (.slice (some ⟨w.heap.size, 65 - k - 1, none⟩) (k + 1) (k + 1)) W := fun W => by
        rw [run_sliceAt_array_l W 72 ⟨w.heap.size, 0, none⟩ (by simp [Program.arrayLen, Program.elem, Tryd.underlying72]) .i64 (65 - k - 1 : Int) (by omega) (by rw [hal]; omega)]
        go_simp
        omega
      have HB := Lib.hid hB
      have HDR := Lib.hid hdr
      clear hB hdr
      have hx2 : hexC m :: d = hexS u := by rw [← HX.out, hexS_small hlt]; rfl
      have HX2 := Lib.hid hx2
      clear hx2 HX
      go_wp2
      rw [hex_at m (by omega)]
      have hC2 := hC.set_ (65 - k - 1) (.int .u8 ((hexC m).toNat : Int))
      have hdr2 : (cs.setIfInBounds (65 - k - 1) (.int .u8 ((hexC m).toNat : Int))).toList.drop (65 - k - 1) = bcells (hexC m :: d) := by
        rw [drop_set _ _ (by omega), show 65 - k - 1 + 1 = 65 - k by omega, HDR.out]
        rfl
      have hcv := run_convert_bytes_back (P := Tryd.prog) (wr.setCell ⟨w.heap.size, 65 - k - 1, none⟩ (.int .u8 ((hexC m).toNat : Int))) 52 9 5 ⟨w.heap.size, 65 - k - 1, none⟩ (k + 1) (hexC m :: d) Tryd.underlying52 Tryd.underlying5 Tryd.underlying9 (fun j hj => by
        have h1 := congrArg (·[j]?) hdr2
        simp only [List.getElem?_drop, bcells, List.getElem?_map, List.getElem?_eq_getElem hj, Option.map_some] at h1
        rw [Lib.add_plain, hC2.cell, ← Array.getElem?_toList]
        exact h1)
      rw [List.length_cons, hd] at hcv
      have HB2 : Hid (Below w.heap.size w (wr.setCell ⟨w.heap.size, 65 - k - 1, none⟩ (.int .u8 ((hexC m).toNat : Int)))) := HB.out.setCell (p := ⟨w.heap.size, _, none⟩) (Nat.le_refl _) _
      rw [hcv, HX2.out]
      simp only [Result.andThen]
      rw [Oper.upon_value]
      clear hcv hdr2 hC2
      go_wp2
      go_ret2
      exact ⟨rfl, HB2.out⟩
    · have hk14 : k ≤ 14 := by
        rcases Nat.lt_or_ge k 15 with h | h
        · omega
        · obtain rfl : k = 15 := by omega
          simp at hm; omega
      have hcell : ∃ v, wr.cell? ⟨w.heap.size, 65 - k - 1, none⟩ = some v := ⟨_, lit_cell hC (65 - k - 1) (Array.getElem?_eq_getElem (by omega))⟩
      obtain ⟨v0, hv0⟩ := hcell
      have hfr := hC.frozen (65 - k - 1)
      have hand : bits BinOp.and IntKind.u64 m 15 = ((m % 16 : Nat) : Int) := by
        rw [show ((15 : Int)) = ((15 : Nat) : Int) from rfl, and_u64 m 15 hm64 (by decide), show (15 : Nat) = 2 ^ 4 - 1 from rfl, Nat.and_two_pow_sub_one_eq_mod]
      have hb : hexS m = hexS (m / 16) ++ [hexC (m % 16)] := hexS_big hlt
      have hm2 : m / 16 < 16 ^ (16 - (k + 1)) := by
        refine Nat.div_lt_of_lt_mul ?_
        rw [show 16 - k = (16 - (k + 1)) + 1 by omega, Nat.pow_succ, Nat.mul_comm] at hm
        exact hm
      have hx2 : Hid (hexS (m / 16) ++ hexC (m % 16) :: d = hexS u) := by
        unfold Hid; rw [← HX.out, hb, List.append_assoc]; rfl
      have HM2 := Lib.hid hm2
      have HDR := Lib.hid hdr
      clear hm2 hdr hb HX
      go_wp2
      rw [hex_at (m % 16) (by omega)]
      refine ⟨⟨m / 16, k + 1, hexC (m % 16) :: d, _, by omega, HM2.out, by go_num, by go_num, by simp [hd], hx2, hC.set_ _ _, by simp [hcs], ?_, hB.setCell (p := ⟨w.heap.size, _, none⟩) (Nat.le_refl _) _⟩, by simp [intOf]; omega⟩
      rw [show 65 - (k + 1) = 65 - k - 1 by omega, drop_set _ _ (by omega), show 65 - k - 1 + 1 = 65 - k by omega, HDR.out]
      rfl

set_option maxRecDepth 100000 in
theorem formatUint16 (u : Nat) (hu : u < 18446744073709551616) (B : Nat) (w : World) (hE : EnvN B w) (hB : B ≤ w.heap.size) :
    Calls Tryd.prog 21 #[.int .u64 u, .int .i64 16] w fun e w' => e = .returned (.string ⟨(hexS u).toArray⟩) ∧ Below w.heap.size w w' := by
  go_enter Tryd.func21, Tryd.ntmps21
  go_wp2_with (go_at_call 35; refine (formatBits16 u hu B w hE hB).mono ?_; rintro e w2 ⟨rfl, hb⟩; have HB := Lib.hid hb; clear hb)
  go_ret
  exact ⟨rfl, HB.out⟩

set_option maxRecDepth 100000 in
theorem hex_any (u : Nat) (hu : u < 18446744073709551616) (B : Nat) (w : World) (hE : EnvN B w) (hB : B ≤ w.heap.size) :
    Calls Tryd.prog 12 #[.int .u64 u, .int .i64 16] w fun e w' => e = .returned (.string ⟨(hexS u).toArray⟩) ∧ Below w.heap.size w w' := by
  go_enter Tryd.func12, Tryd.ntmps12
  go_wp2_with (go_at_call 21; refine (formatUint16 u hu B w hE hB).mono ?_; rintro e w2 ⟨rfl, hb⟩; have HB := Lib.hid hb; clear hb)
  go_ret
  exact ⟨rfl, HB.out⟩

theorem hexC_inj : ∀ a b : Fin 16, hexC a.val = hexC b.val → a = b := by decide +kernel
theorem hexC_nl : ∀ a : Fin 16, hexC a.val ≠ 10 := by decide +kernel
theorem hexS_pos (u : Nat) : 1 ≤ (hexS u).length := by
  rw [hexS]
  split
  · simp
  · simp
theorem hexC_eq {a b : Nat} (ha : a < 16) (hb : b < 16) (h : hexC a = hexC b) : a = b := by
  have := hexC_inj ⟨a, ha⟩ ⟨b, hb⟩ h
  exact congrArg Fin.val this
theorem hexS_inj : ∀ u v : Nat, hexS u = hexS v → u = v := by
  intro u
  induction u using Nat.strongRecOn with
  | ind u ih =>
    intro v h
    by_cases hu : u < 16
    · by_cases hv : v < 16
      · rw [hexS_small hu, hexS_small hv] at h
        injection h with h _
        exact hexC_eq hu hv h
      · exfalso
        rw [hexS_small hu, hexS_big hv] at h
        have h1 := congrArg List.length h
        have h2 := hexS_pos (v / 16)
        rw [List.length_append] at h1
        simp only [List.length_cons, List.length_nil] at h1
        omega
    · by_cases hv : v < 16
      · exfalso
        rw [hexS_big hu, hexS_small hv] at h
        have h1 := congrArg List.length h
        have h2 := hexS_pos (u / 16)
        rw [List.length_append] at h1
        simp only [List.length_cons, List.length_nil] at h1
        omega
      · rw [hexS_big hu, hexS_big hv] at h
        obtain ⟨h1, h2⟩ := List.append_inj' h rfl
        injection h2 with h2 _
        have e1 := ih (u / 16) (by omega) (v / 16) h1
        have e2 := hexC_eq (Nat.mod_lt u (by decide)) (Nat.mod_lt v (by decide)) h2
        omega
end Go.Proofs.YtgbifmcdkigbgaaDoor
