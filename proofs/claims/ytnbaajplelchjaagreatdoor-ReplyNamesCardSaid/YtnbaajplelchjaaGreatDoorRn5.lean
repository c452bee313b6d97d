/- The law ReplyNames: its walk; the arguments as they were read. -/
import Derived.Test.YtnbaajplelchjaaGreatDoorRn4
import Derived.Test.YtnbaajplelchjaaGreatDoorLv5
import Derived.Test.YtnbaajplelchjaaGreatDoorRows
import Derived.Stop.LaidErr
import Derived.LaidLaws
import Derived.LaidSub
import Derived.MakeChecks
import Derived.SizedLaws
import Derived.OpenShut
set_option linter.unusedVariables false
set_option linter.unusedSimpArgs false
namespace Go.Proofs.YtnbaajplelchjaaGreatDoor
open Go.RowKit

set_option maxRecDepth 100000 in
set_option maxHeartbeats 8000000 in
theorem names_law (c : Int) (c0 : -2147483648 ≤ c) (c1 : c ≤ 2147483647) (s : ByteArray) (hs : s.size ≤ 281474976710656) (w : World) (hE : EnvR w) : Calls Tryz.prog 7 #[.int .i32 c, .string s] w fun e w' => e = .returned (.bool true) ∧ Below w.heap.size w w' := by
  have HB0 : Hid (Below w.heap.size w w) := Below.refl _ _
  obtain ⟨tx, htx⟩ : ∃ x : ByteArray, x = ⟨(codeName c).toArray⟩ := ⟨_, rfl⟩
  have hts : tx.size ≤ 281474976710656 := by
    rw [Lib.size_eq, htx]
    show (codeName c).length ≤ _
    have := codeName_len c c0 c1
    omega
  have H1 : Hid (∀ W, Below w.heap.size w W → Calls Tryz.prog 27 #[.string s] W fun e w' => REnd s e ∧ Below W.heap.size W w') := fun W h => read_anyR s hs W (hE.below h)
  have H2 : Hid (∀ W, Below w.heap.size w W → Calls Tryz.prog 28 #[.string s] W fun e w' => REnd s e ∧ Below W.heap.size W w') := fun W h => refRead_anyR s hs W (hE.below h)
  have H3 : Hid (∀ W, Below w.heap.size w W → Calls Tryz.prog 29 #[.int .i32 c] W fun e w' => e = .returned (.string tx) ∧ Below W.heap.size W w') := fun W h => by rw [htx]; exact name_any c c0 c1 W (hE.below h)
  have H4 : Hid (∀ W, Below w.heap.size w W → Calls Tryz.prog 30 #[.int .i32 c] W fun e w' => e = .returned (.string tx) ∧ Below W.heap.size W w') := fun W h => by rw [htx]; exact refName_any c c0 c1 W (hE.below h)
  have H5 : Hid (∀ W, Below w.heap.size w W → Calls Tryz.prog 27 #[.string tx] W fun e w' => e = .returned (.tuple #[.int .i32 c, .bool true]) ∧ Below W.heap.size W w') := fun W h => (read_anyR tx hts W (hE.below h)).mono fun e w' ⟨⟨r, h1, h2⟩, hb⟩ => by
    have e1 : tx.data.toList = codeName c := by rw [htx]
    rw [e1] at h1
    obtain rfl := Spec.one h1 (Spec.yes c0 c1)
    exact ⟨h2, hb⟩
  have H6 : Hid (∀ W, Below w.heap.size w W → Calls Tryz.prog 16 #[] W fun e w' => e = .returned (.bool true) ∧ Below W.heap.size W w') := fun W h => live_any W (hE.below h).u8
  clear htx hts hE
  go_enter Tryz.func7, Tryz.ntmps7
  go_wp2_with (first
    | (go_at_call 16
       refine (H6.out _ HB6.out).mono ?_
       rintro e w7 ⟨rfl, hb⟩
       have HB7 := Lib.hid (HB6.out.trans (hb.mono HB6.out.size))
       clear hb)
    | (go_at_call 30
       refine (H4.out _ HB5.out).mono ?_
       rintro e w6 ⟨rfl, hb⟩
       have HB6 := Lib.hid (HB5.out.trans (hb.mono HB5.out.size))
       clear hb)
    | (go_at_call 29
       refine (H3.out _ HB4.out).mono ?_
       rintro e w5 ⟨rfl, hb⟩
       have HB5 := Lib.hid (HB4.out.trans (hb.mono HB4.out.size))
       clear hb)
    | (go_at_call 27
       refine (H5.out _ HB3.out).mono ?_
       rintro e w4 ⟨rfl, hb⟩
       have HB4 := Lib.hid (HB3.out.trans (hb.mono HB3.out.size))
       clear hb)
    | (go_at_call 29
       refine (H3.out _ HB2.out).mono ?_
       rintro e w3 ⟨rfl, hb⟩
       have HB3 := Lib.hid (HB2.out.trans (hb.mono HB2.out.size))
       clear hb)
    | (go_at_call 28
       refine (H2.out _ HB1.out).mono ?_
       rintro e w2 ⟨⟨r', hr', rfl⟩, hb⟩
       obtain rfl := Spec.one HR1.out hr'
       have HB2 := Lib.hid (HB1.out.trans (hb.mono HB1.out.size))
       clear hb hr')
    | (go_at_call 27
       refine (H1.out _ HB0.out).mono ?_
       rintro e w1 ⟨⟨r, hr, rfl⟩, hb⟩
       have HR1 := Lib.hid hr
       have HB1 := Lib.hid (HB0.out.trans (hb.mono HB0.out.size))
       clear hb hr))
  go_ret
  exact ⟨rfl, HB7.out⟩

theorem err_star : "*" ++ "errors.errorString" = "*errors.errorString" := by decide
theorem err_row (u : TypeId) (h : Tryz.prog.typeName? 3 u = some "*errors.errorString") : u = 224 :=
  typeName_ptr_named (nm := "errors.errorString") (by rw [err_star]; kernel_rfl) (by kernel_rfl) (by decide) u (by rw [err_star]; exact h)
theorem cell_ltR {w : World} {p : Addr} {v : Value} (h : w.cell? p = some v) : p.block < w.heap.size := block_lt_of_cell h
theorem envR_of {l : List (String × DataW Unit)} {W : World} (hl : laidMetH Tryz.prog l W)
    (e1 : l.filter (fun x => x.1 == "internal/strconv.uint64pow10") = [("internal/strconv.uint64pow10", Rows.laid_internal_strconv_uint64pow10)])
    (e2 : l.filter (fun x => x.1 == "strconv.ErrSyntax") = [("strconv.ErrSyntax", Rows.laid_strconv_ErrSyntax)])
    (e3 : l.filter (fun x => x.1 == "strconv.ErrRange") = [("strconv.ErrRange", Rows.laid_strconv_ErrRange)])
    (e4 : l.filter (fun x => x.1 == "unicode/utf8.first" || x.1 == "unicode/utf8.acceptRanges") = [("unicode/utf8.acceptRanges", Rows.laid_unicode_utf8_acceptRanges), ("unicode/utf8.first", Rows.laid_unicode_utf8_first)]) : EnvR W := by
  have h1 := hl.filter (fun x => x.1 == "internal/strconv.uint64pow10")
  have h2 := hl.filter (fun x => x.1 == "strconv.ErrSyntax")
  have h3 := hl.filter (fun x => x.1 == "strconv.ErrRange")
  have h4 := hl.filter (fun x => x.1 == "unicode/utf8.first" || x.1 == "unicode/utf8.acceptRanges")
  rw [e1] at h1
  rw [e2] at h2
  rw [e3] at h3
  rw [e4] at h4
  have hu : Env W := env_of h4 (by kernel_rfl) (by simp) (by simp)
  rw [MakeChecks.laidMetH_plain _ _ _ (by kernel_rfl)] at h1
  have f1 : (Rows.laid_internal_strconv_uint64pow10 : DataW Unit) = Lib.tabData .u64 Lib.pow10Tab := by kernel_rfl
  rw [f1] at h1
  have t3 := Lib.tabIs_of_head (g := 4) (t := 228) (e := 81) (n := 20) (by kernel_rfl) (by kernel_rfl) Tryz.underlying228 Tryz.underlying81 (by kernel_rfl) (by kernel_rfl) h1
  have hp10 := Lib.TabIs.cell t3 (g := 4) (by kernel_rfl) 0 (by decide)
  have g2 : Tryz.prog.globalNamed "strconv.ErrSyntax" = some 2 := by kernel_rfl
  have g3 : Tryz.prog.globalNamed "strconv.ErrRange" = some 3 := by kernel_rfl
  obtain ⟨a2, s2, hv2, _⟩ := laid_sentinel (r := []) h2 g2 (by kernel_rfl) Tryz.underlying119 err_row Tryz.underlying224 Tryz.underlying226 rfl rfl Tryz.underlying9 (by kernel_rfl) (by kernel_rfl)
  obtain ⟨a3, s3, hv3, _⟩ := laid_sentinel (r := []) h3 g3 (by kernel_rfl) Tryz.underlying119 err_row Tryz.underlying224 Tryz.underlying226 rfl rfl Tryz.underlying9 (by kernel_rfl) (by kernel_rfl)
  have hc2 : W.cell? ⟨2, 0, none⟩ = some (.iface 224 (.pointer (some a2))) := by simpa using World.var?_cell g2 hv2 0
  have hc3 : W.cell? ⟨3, 0, none⟩ = some (.iface 224 (.pointer (some a3))) := by simpa using World.var?_cell g3 hv3 0
  exact ⟨hu, t3, ⟨_, hc2, .inr ⟨_, _, rfl⟩⟩, ⟨_, hc3, .inr ⟨_, _, rfl⟩⟩, cell_ltR hp10, cell_ltR hc2, cell_ltR hc3⟩

theorem replyNames_walk {H : Type} (c : Int) (hc : (Lit.int .i32 c).wf = true) (s : ByteArray) (_ : s.size ≤ maxLen) (W : World) (hsz : (DataW.weightsEach Tryz.prog ([22, 9] : List TypeId) ([DataW.lit (.int .i32 c), DataW.lit (.string s.data.toList)] : List (DataW H))).all (· ≤ reachBytes) = true) (hsh : W.ShapedOpen Tryz.prog)
    (hlaid : laidMetH Tryz.prog Rows.replyNamesRow.laid W) :
    Calls Tryz.prog 7 #[.int .i32 c, .string s] W fun e w' => e = .returned (.bool true) ∧ Below W.heap.size W w' := by
  have h := sized_string (j := 1) hsz rfl rfl
  rw [← Lib.size_eq] at h
  unfold reachBytes at h
  have hb := bounds_i32 hc
  exact names_law c hb.1 hb.2 s (by omega) W (envR_of hlaid rfl rfl rfl rfl)
end Go.Proofs.YtnbaajplelchjaaGreatDoor
