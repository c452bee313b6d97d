/- The law ZxidTexts: the walk; the arguments as they were read. -/
import Derived.Test.YtgbifmcdkigbgaaDoorZt5
import Derived.Test.YtgbifmcdkigbgaaDoorZx1
import Derived.Test.YtgbifmcdkigbgaaDoorRows
import Derived.Stop.LaidErr
import Derived.LaidLaws
import Derived.LaidSub
import Derived.MakeChecks
import Derived.SizedLaws
import Derived.OpenShut
set_option linter.unusedVariables false
set_option linter.unusedSimpArgs false
namespace Go.Proofs.YtgbifmcdkigbgaaDoor
open Go.RowKit

set_option maxRecDepth 100000 in
theorem no20_any (e : Int) (w : World) : Calls Tryd.prog 8 #[.int .i64 e] w fun r w' => r = .returned (.int .i64 e) ∧ w' = w := by
  go_enter Tryd.func8, Tryd.ntmps8
  go_wp2
  go_ret
  exact ⟨rfl, rfl⟩
theorem parseZ_text (z : Int) (h1 : -9223372036854775808 ≤ z) (h2 : z ≤ 9223372036854775807) : parseZ (zText (u64M z)) = if z < 0 then (0, 200) else (z, 0) := by
  have hc := u64M_cast z
  rw [IntKind.wrap_u64] at hc
  by_cases h : z < 0
  · rw [if_pos h]
    refine parseZ_no fun n hn e => ?_
    have := zText_one e
    omega
  · rw [if_neg h]
    have hn : (u64M z : Int) = z := by omega
    rw [parseZ_yes (n := u64M z) (by omega) rfl, hn]

set_option maxRecDepth 100000 in
set_option maxHeartbeats 2000000 in
theorem texts_law (z : Int) (h1 : -9223372036854775808 ≤ z) (h2 : z ≤ 9223372036854775807) (s : ByteArray) (hs : s.size ≤ 281474976710656) (w : World) (hE : EnvZ w) :
    Calls Tryd.prog 3 #[.int .i64 z, .string s] w fun e w' => e = .returned (.bool true) ∧ Below w.heap.size w w' := by
  obtain ⟨tz, htz⟩ : ∃ x : ByteArray, x = ⟨(zText (u64M z)).toArray⟩ := ⟨_, rfl⟩
  have hts : tz.size ≤ 281474976710656 := by
    have e : (16 : Nat) ^ (15 + 1) = 18446744073709551616 := by decide
    have := hexS_len16 15 (u64M z) (by rw [e]; exact u64M_lt z)
    rw [htz, Lib.size_eq]
    show (zText (u64M z)).length ≤ _
    unfold zText
    simp only [List.length_cons]
    omega
  have htl : tz.data.toList = zText (u64M z) := by rw [htz]
  obtain ⟨a, ha⟩ : ∃ a, a = (parseZ s.data.toList).1 := ⟨_, rfl⟩
  obtain ⟨f, hf⟩ : ∃ f, f = (parseZ s.data.toList).2 := ⟨_, rfl⟩
  have P1 : Hid (∀ W, Below w.heap.size w W → Calls Tryd.prog 4 #[.string s] W fun e w' => e = .returned (.tuple #[.int .i64 a, .int .i64 f]) ∧ Below W.heap.size W w') := fun W h => by rw [ha, hf]; exact parse_any s hs W (hE.below h)
  have P2 : Hid (∀ W, Below w.heap.size w W → Calls Tryd.prog 5 #[.string s] W fun e w' => e = .returned (.tuple #[.int .i64 a, .int .i64 f]) ∧ Below W.heap.size W w') := fun W h => by rw [ha, hf]; exact rparse_any s hs W (hE.below h).en
  have T1 : Hid (∀ W, Below w.heap.size w W → Calls Tryd.prog 6 #[.int .i64 z] W fun e w' => e = .returned (.string tz) ∧ Below W.heap.size W w') := fun W h => by rw [htz]; exact text_anyZ z W (hE.below h).en
  have T2 : Hid (∀ W, Below w.heap.size w W → Calls Tryd.prog 7 #[.int .i64 z] W fun e w' => e = .returned (.string tz) ∧ Below W.heap.size W w') := fun W h => by rw [htz]; exact rtext_anyZ z W (hE.below h).en
  have hpz := parseZ_text z h1 h2
  have P3 : Hid (∀ W, Below w.heap.size w W → Calls Tryd.prog 4 #[.string tz] W fun e w' => e = .returned (.tuple #[.int .i64 (if z < 0 then 0 else z), .int .i64 (if z < 0 then 200 else 0)]) ∧ Below W.heap.size W w') := fun W h => by
    have h3 := parse_any tz hts W (hE.below h)
    rw [htl, hpz] at h3
    by_cases hz : z < 0
    · simp only [if_pos hz] at h3 ⊢
      exact h3
    · simp only [if_neg hz] at h3 ⊢
      exact h3
  have HB0 : Hid (Below w.heap.size w w) := Below.refl _ _
  clear htz hts htl ha hf hpz hE hs
  by_cases hz : z < 0
  · simp only [if_pos hz] at P3
    go_enter Tryd.func3, Tryd.ntmps3
    go_wp2_with (first
      | (go_at_call 4
         refine (P3.out _ HB6.out).mono ?_
         rintro e w7 ⟨rfl, hb⟩
         have HB7 := Lib.hid (HB6.out.trans (hb.mono HB6.out.size))
         clear hb)
      | (go_at_call 6
         refine (T1.out _ HB5.out).mono ?_
         rintro e w6 ⟨rfl, hb⟩
         have HB6 := Lib.hid (HB5.out.trans (hb.mono HB5.out.size))
         clear hb)
      | (go_at_call 9
         refine (live_any _).mono ?_
         rintro e w5 ⟨rfl, hb⟩
         have HB5 := Lib.hid (HB4.out.trans (hb.mono HB4.out.size))
         clear hb)
      | (go_at_call 8
         refine (no20_any _ _).mono ?_
         rintro e wn ⟨rfl, rfl⟩)
      | (go_at_call 7
         refine (T2.out _ HB3.out).mono ?_
         rintro e w4 ⟨rfl, hb⟩
         have HB4 := Lib.hid (HB3.out.trans (hb.mono HB3.out.size))
         clear hb)
      | (go_at_call 6
         refine (T1.out _ HB2.out).mono ?_
         rintro e w3 ⟨rfl, hb⟩
         have HB3 := Lib.hid (HB2.out.trans (hb.mono HB2.out.size))
         clear hb)
      | (go_at_call 5
         refine (P2.out _ HB1.out).mono ?_
         rintro e w2 ⟨rfl, hb⟩
         have HB2 := Lib.hid (HB1.out.trans (hb.mono HB1.out.size))
         clear hb)
      | (go_at_call 4
         refine (P1.out _ HB0.out).mono ?_
         rintro e w1 ⟨rfl, hb⟩
         have HB1 := Lib.hid (HB0.out.trans (hb.mono HB0.out.size))
         clear hb))
    go_ret
    exact ⟨rfl, HB7.out⟩
  · simp only [if_neg hz] at P3
    go_enter Tryd.func3, Tryd.ntmps3
    go_wp2_with (first
      | (go_at_call 4
         refine (P3.out _ HB6.out).mono ?_
         rintro e w7 ⟨rfl, hb⟩
         have HB7 := Lib.hid (HB6.out.trans (hb.mono HB6.out.size))
         clear hb)
      | (go_at_call 6
         refine (T1.out _ HB5.out).mono ?_
         rintro e w6 ⟨rfl, hb⟩
         have HB6 := Lib.hid (HB5.out.trans (hb.mono HB5.out.size))
         clear hb)
      | (go_at_call 9
         refine (live_any _).mono ?_
         rintro e w5 ⟨rfl, hb⟩
         have HB5 := Lib.hid (HB4.out.trans (hb.mono HB4.out.size))
         clear hb)
      | (go_at_call 8
         refine (no20_any _ _).mono ?_
         rintro e wn ⟨rfl, rfl⟩)
      | (go_at_call 7
         refine (T2.out _ HB3.out).mono ?_
         rintro e w4 ⟨rfl, hb⟩
         have HB4 := Lib.hid (HB3.out.trans (hb.mono HB3.out.size))
         clear hb)
      | (go_at_call 6
         refine (T1.out _ HB2.out).mono ?_
         rintro e w3 ⟨rfl, hb⟩
         have HB3 := Lib.hid (HB2.out.trans (hb.mono HB2.out.size))
         clear hb)
      | (go_at_call 5
         refine (P2.out _ HB1.out).mono ?_
         rintro e w2 ⟨rfl, hb⟩
         have HB2 := Lib.hid (HB1.out.trans (hb.mono HB1.out.size))
         clear hb)
      | (go_at_call 4
         refine (P1.out _ HB0.out).mono ?_
         rintro e w1 ⟨rfl, hb⟩
         have HB1 := Lib.hid (HB0.out.trans (hb.mono HB0.out.size))
         clear hb))
    go_ret
    exact ⟨rfl, HB7.out⟩

theorem err_star : "*" ++ "errors.errorString" = "*errors.errorString" := by decide
theorem err_row (u : TypeId) (h : Tryd.prog.typeName? 3 u = some "*errors.errorString") : u = 76 :=
  typeName_ptr_named (nm := "errors.errorString") (by rw [err_star]; kernel_rfl) (by kernel_rfl) (by decide) u (by rw [err_star]; exact h)
def dbTabZ : List Int := [0, 1, 56, 2, 57, 49, 28, 3, 61, 58, 42, 50, 38, 29, 17, 4, 62, 47, 59, 36, 45, 43, 51, 22, 53, 39, 33, 30, 24, 18, 12, 5, 63, 55, 48, 27, 60, 41, 37, 16, 46, 35, 44, 21, 52, 32, 23, 11, 54, 26, 40, 15, 34, 20, 31, 10, 25, 14, 19, 9, 13, 8, 7, 6]
theorem cell_ltZ {w : World} {p : Addr} {v : Value} (h : w.cell? p = some v) : p.block < w.heap.size := block_lt_of_cell h
theorem envZ_of {l : List (String × DataW Unit)} {W : World} (hl : laidMetH Tryd.prog l W)
    (e1 : l.filter (fun x => x.1 == "internal/strconv.uint64pow10") = [("internal/strconv.uint64pow10", Rows.laid_internal_strconv_uint64pow10)])
    (e2 : l.filter (fun x => x.1 == "strconv.ErrSyntax") = [("strconv.ErrSyntax", Rows.laid_strconv_ErrSyntax)])
    (e3 : l.filter (fun x => x.1 == "strconv.ErrRange") = [("strconv.ErrRange", Rows.laid_strconv_ErrRange)])
    (e4 : l.filter (fun x => x.1 == "math/bits.deBruijn64tab") = [("math/bits.deBruijn64tab", Rows.laid_math_bits_deBruijn64tab)]) : EnvZ W := by
  have h1 := hl.filter (fun x => x.1 == "internal/strconv.uint64pow10")
  have h2 := hl.filter (fun x => x.1 == "strconv.ErrSyntax")
  have h3 := hl.filter (fun x => x.1 == "strconv.ErrRange")
  have h4 := hl.filter (fun x => x.1 == "math/bits.deBruijn64tab")
  rw [e1] at h1
  rw [e2] at h2
  rw [e3] at h3
  rw [e4] at h4
  rw [MakeChecks.laidMetH_plain _ _ _ (by kernel_rfl)] at h1 h4
  have f1 : (Rows.laid_internal_strconv_uint64pow10 : DataW Unit) = Lib.tabData .u64 Lib.pow10Tab := by kernel_rfl
  have f4 : (Rows.laid_math_bits_deBruijn64tab : DataW Unit) = Lib.tabData .u8 dbTabZ := by kernel_rfl
  rw [f1] at h1
  rw [f4] at h4
  have t3 := Lib.tabIs_of_head (g := 2) (t := 70) (e := 31) (n := 20) (by kernel_rfl) (by kernel_rfl) Tryd.underlying70 Tryd.underlying31 (by kernel_rfl) (by kernel_rfl) h1
  have t2 := Lib.tabIs_of_head (g := 4) (t := 82) (e := 5) (n := 64) (by kernel_rfl) (by kernel_rfl) Tryd.underlying82 Tryd.underlying5 (by kernel_rfl) (by kernel_rfl) h4
  have hd := Lib.TabIs.cell t2 (g := 4) (by kernel_rfl) 15 (by decide)
  have hp10 := Lib.TabIs.cell t3 (g := 2) (by kernel_rfl) 0 (by decide)
  have g2 : Tryd.prog.globalNamed "strconv.ErrSyntax" = some 0 := by kernel_rfl
  have g3 : Tryd.prog.globalNamed "strconv.ErrRange" = some 1 := by kernel_rfl
  obtain ⟨a2, s2, hv2, _⟩ := laid_sentinel (r := []) h2 g2 (by kernel_rfl) Tryd.underlying33 err_row Tryd.underlying76 Tryd.underlying78 rfl rfl Tryd.underlying9 (by kernel_rfl) (by kernel_rfl)
  obtain ⟨a3, s3, hv3, _⟩ := laid_sentinel (r := []) h3 g3 (by kernel_rfl) Tryd.underlying33 err_row Tryd.underlying76 Tryd.underlying78 rfl rfl Tryd.underlying9 (by kernel_rfl) (by kernel_rfl)
  have hc2 : W.cell? ⟨0, 0, none⟩ = some (.iface 76 (.pointer (some a2))) := by simpa using World.var?_cell g2 hv2 0
  have hc3 : W.cell? ⟨1, 0, none⟩ = some (.iface 76 (.pointer (some a3))) := by simpa using World.var?_cell g3 hv3 0
  exact ⟨⟨t3, hd, cell_ltZ hd, cell_ltZ hp10⟩, ⟨_, hc2, .inr ⟨_, _, rfl⟩⟩, ⟨_, hc3, .inr ⟨_, _, rfl⟩⟩, cell_ltZ hc2, cell_ltZ hc3⟩

theorem zxidTexts_walk {H : Type} (z : Int) (hz : (Lit.int .i64 z).wf = true) (s : ByteArray) (_ : s.size ≤ maxLen) (W : World) (hsz : (DataW.weightsEach Tryd.prog ([2, 9] : List TypeId) ([DataW.lit (.int .i64 z), DataW.lit (.string s.data.toList)] : List (DataW H))).all (· ≤ reachBytes) = true) (hsh : W.ShapedOpen Tryd.prog)
    (hlaid : laidMetH Tryd.prog Rows.zxidTextsRow.laid W) :
    Calls Tryd.prog 3 #[.int .i64 z, .string s] W fun e w' => e = .returned (.bool true) ∧ Below W.heap.size W w' := by
  have h := sized_string (j := 1) hsz rfl rfl
  rw [← Lib.size_eq] at h
  unfold reachBytes at h
  have hb := bounds_i64 hz
  exact texts_law z hb.1 hb.2 s (by omega) W (envZ_of hlaid rfl rfl rfl rfl)
end Go.Proofs.YtgbifmcdkigbgaaDoor
