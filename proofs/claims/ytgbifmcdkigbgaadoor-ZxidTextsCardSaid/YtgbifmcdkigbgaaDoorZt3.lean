/- strconv.ParseUint at base 16; the program's Text and Parse; the document's Text. -/
import Derived.Test.YtgbifmcdkigbgaaDoorZt2
import Derived.Test.YtgbifmcdkigbgaaDoorShelf
import Derived.Lib.AtoiErrMem
set_option linter.unusedVariables false
set_option linter.unusedSimpArgs false
namespace Go.Proofs.YtgbifmcdkigbgaaDoor
open Go.RowKit

/-- the library's variables -/
structure EnvZ (W : World) : Prop where
  en : EnvN W.heap.size W
  es : ∃ ev, W.cell? ⟨0, 0, none⟩ = some ev ∧ (ev = .nilIface ∨ ∃ te pe, ev = .iface te pe)
  er : ∃ ev, W.cell? ⟨1, 0, none⟩ = some ev ∧ (ev = .nilIface ∨ ∃ te pe, ev = .iface te pe)
  gs : 0 < W.heap.size
  gr : 1 < W.heap.size
theorem EnvN.mono' {B B' : Nat} {W : World} (h : EnvN B W) (hB : B ≤ B') : EnvN B' W := ⟨h.tab, h.db, Nat.lt_of_lt_of_le h.g1 hB, Nat.lt_of_lt_of_le h.g2 hB⟩
theorem EnvZ.below {W W' : World} (h : EnvZ W) (hb : Below W.heap.size W W') : EnvZ W' :=
  ⟨(h.en.below hb (Nat.le_refl _)).mono' hb.size, by obtain ⟨ev, h1, h2⟩ := h.es; exact ⟨ev, (hb.cell (p := ⟨0, 0, none⟩) h.gs).trans h1, h2⟩,
   by obtain ⟨ev, h1, h2⟩ := h.er; exact ⟨ev, (hb.cell (p := ⟨1, 0, none⟩) h.gr).trans h1, h2⟩, Nat.lt_of_lt_of_le h.gs hb.size, Nat.lt_of_lt_of_le h.gr hb.size⟩
theorem toErr_any (fn s : ByteArray) (k : Int) (hk : k = 1 ∨ k = 2) (w : World) (hlim : s.size ≤ 281474976710656) (hE : EnvZ w) :
    Calls Tryd.prog 19 #[.string fn, .string s, .int .i64 16, .int .i64 63, .iface 50 (.int .i64 k)] w fun e w' => ∃ te pe, e = .returned (.iface te pe) ∧ Below w.heap.size w w' := by
  rcases hk with rfl | rfl
  · obtain ⟨ev, h1, h2⟩ := hE.er
    exact (Tryd.strconv_toError_range fn s 16 63 ev w hlim h1 h2).mono fun e w' ⟨N, he, _, _, hb⟩ => ⟨_, _, he, hb⟩
  · obtain ⟨ev, h1, h2⟩ := hE.es
    exact (Tryd.strconv_toError_syntax fn s 16 63 ev w hlim h1 h2).mono fun e w' ⟨N, he, _, _, hb⟩ => ⟨_, _, he, hb⟩
/-- a text as a number -/
def pu16 (l : List UInt8) : Option Nat := if l = [] then none else hx16 0 l
theorem inner16 (t : ByteArray) (hmax : t.size ≤ 281474976710656) (w : World) :
    Calls Tryd.prog 18 #[.string t, .int .i64 16, .int .i64 63] w fun e w' => PEnd (pu16 t.data.toList) e ∧ Below w.heap.size w w' := by
  by_cases h0 : t.size = 0
  · have ht : t = ⟨#[]⟩ := by
      cases t with
      | mk d => congr 1; exact Array.eq_empty_of_size_eq_zero h0
    subst ht
    exact (Tryd.internal_strconv_ParseUint_empty 16 63 w).mono fun e w' ⟨he, hw⟩ => ⟨⟨0, 2, .inr rfl, he⟩, hw ▸ Below.refl _ _⟩
  · have hp : pu16 t.data.toList = hx16 0 t.data.toList := by
      unfold pu16
      rw [if_neg]
      intro e
      apply h0
      rw [Lib.size_eq, e]
      rfl
    rw [hp]
    exact (parse16 t h0 (by omega) w).mono fun e w' ⟨he, hw⟩ => ⟨he, by rw [hw]; exact Lib.bytesWorld_below w _ t⟩
/-- how the public reading ends -/
def UEnd (o : Option Nat) (e : Ending) : Prop := match o with
  | some n => e = .returned (.tuple #[.int .u64 n, .nilIface])
  | none => ∃ v te pe, e = .returned (.tuple #[.int .u64 v, .iface te pe])
set_option maxRecDepth 100000 in
theorem puint16 (t : ByteArray) (hmax : t.size ≤ 281474976710656) (w : World) (hE : EnvZ w) :
    Calls Tryd.prog 10 #[.string t, .int .i64 16, .int .i64 63] w fun e w' => UEnd (pu16 t.data.toList) e ∧ Below w.heap.size w w' := by
  have HP := inner16 t hmax w
  have HT : Hid (∀ W fn k, (k = 1 ∨ k = 2) → Below w.heap.size w W → Calls Tryd.prog 19 #[.string fn, .string t, .int .i64 16, .int .i64 63, .iface 50 (.int .i64 k)] W fun e w' => ∃ te pe, e = .returned (.iface te pe) ∧ Below W.heap.size W w') := fun W fn k hk hb => toErr_any fn t k hk W hmax (hE.below hb)
  clear hE hmax
  rcases hpu : pu16 t.data.toList with _ | n
  all_goals rw [hpu] at HP
  all_goals clear hpu
  · have HP2 : Hid (Calls Tryd.prog 18 #[.string t, .int .i64 16, .int .i64 63] w fun e w' => PEnd none e ∧ Below w.heap.size w w') := HP
    clear HP
    go_enter Tryd.func10, Tryd.ntmps10
    go_wp2_with (first
      | (go_at_call 18
         refine HP2.out.mono ?_
         clear HP2
         rintro e w1 ⟨⟨v, k, hk, rfl⟩, hb1⟩
         have HK := Lib.hid hk
         have HB1 := Lib.hid hb1
         clear hk hb1)
      | (go_at_call 19
         refine (HT.out _ _ _ HK.out HB1.out).mono ?_
         clear HT
         rintro e w2 ⟨te, pe, rfl, hb2⟩
         have HB2 := Lib.hid (HB1.out.trans (hb2.mono HB1.out.size))
         clear hb2))
    go_ret2
    exact ⟨⟨_, _, _, rfl⟩, HB2.out⟩
  · have HP2 : Hid (Calls Tryd.prog 18 #[.string t, .int .i64 16, .int .i64 63] w fun e w' => PEnd (some n) e ∧ Below w.heap.size w w') := HP
    clear HP HT
    go_enter Tryd.func10, Tryd.ntmps10
    go_wp2_with (go_at_call 18
                 refine HP2.out.mono ?_
                 clear HP2
                 rintro e w1 ⟨rfl, hb1⟩
                 have HB1 := Lib.hid hb1
                 clear hb1)
    go_ret2
    exact ⟨rfl, HB1.out⟩

theorem hex_pre (l : List UInt8) : (⟨#[48, 120]⟩ : ByteArray) ++ ⟨l.toArray⟩ = ⟨(48 :: 120 :: l).toArray⟩ := by
  apply ByteArray.ext
  simp
def u64M (z : Int) : Nat := (IntKind.u64.wrap z).toNat
theorem u64M_cast (z : Int) : IntKind.u64.wrap z = ((u64M z : Nat) : Int) := by
  unfold u64M
  rw [IntKind.wrap_u64]
  omega
theorem u64M_lt (z : Int) : u64M z < 18446744073709551616 := by unfold u64M; rw [IntKind.wrap_u64]; omega
theorem text_anyZ (z : Int) (w : World) (hE : EnvN w.heap.size w) : Calls Tryd.prog 6 #[.int .i64 z] w fun e w' => e = .returned (.string ⟨(zText (u64M z)).toArray⟩) ∧ Below w.heap.size w w' := by
  have hc := u64M_cast z
  obtain ⟨hx, hhx⟩ : ∃ x : ByteArray, x = ⟨(hexS (u64M z)).toArray⟩ := ⟨_, rfl⟩
  have hs : hx.size ≤ 16 := by
    rw [hhx, Lib.size_eq]
    have e : (16 : Nat) ^ (15 + 1) = 18446744073709551616 := by decide
    exact hexS_len16 15 _ (by rw [e]; exact u64M_lt z)
  have HX : Hid (Calls Tryd.prog 12 #[.int .u64 (u64M z : Int), .int .i64 16] w fun e w' => e = .returned (.string hx) ∧ Below w.heap.size w w') := by rw [hhx]; exact (hex_any (u64M z) (u64M_lt z) w.heap.size w hE (Nat.le_refl _))
  have HH := Lib.hid hhx
  clear hhx
  go_enter Tryd.func6, Tryd.ntmps6
  go_wp2_with (go_at_call 12; refine HX.out.mono ?_; rintro e w2 ⟨rfl, hb⟩; have HB := Lib.hid hb; clear hb)
  go_ret
  have e : ((⟨#[48, 120]⟩ : ByteArray) ++ ⟨#[]⟩ ++ hx) = ⟨(zText (u64M z)).toArray⟩ := by rw [HH.out]; apply ByteArray.ext; simp [zText]
  exact ⟨congrArg (fun x => Ending.returned (.string x)) e, HB.out⟩
theorem hexR_any (z : Int) (w : World) (hE : EnvN w.heap.size w) : Calls Tryd.prog 13 #[.int .i64 z] w fun e w' => e = .returned (.string ⟨(hexS (u64M z)).toArray⟩) ∧ Below w.heap.size w w' := by
  have hc := u64M_cast z
  have HX := Lib.hid (hex_any (u64M z) (u64M_lt z) w.heap.size w hE (Nat.le_refl _))
  go_enter Tryd.func13, Tryd.ntmps13
  go_wp2_with (go_at_call 12; refine HX.out.mono ?_; rintro e w2 ⟨rfl, hb⟩; have HB := Lib.hid hb; clear hb)
  go_ret
  exact ⟨rfl, HB.out⟩
theorem rtext_anyZ (z : Int) (w : World) (hE : EnvN w.heap.size w) : Calls Tryd.prog 7 #[.int .i64 z] w fun e w' => e = .returned (.string ⟨(zText (u64M z)).toArray⟩) ∧ Below w.heap.size w w' := by
  obtain ⟨hx, hhx⟩ : ∃ x : ByteArray, x = ⟨(hexS (u64M z)).toArray⟩ := ⟨_, rfl⟩
  have hs : hx.size ≤ 16 := by
    rw [hhx, Lib.size_eq]
    have e : (16 : Nat) ^ (15 + 1) = 18446744073709551616 := by decide
    exact hexS_len16 15 _ (by rw [e]; exact u64M_lt z)
  have HX : Hid (Calls Tryd.prog 13 #[.int .i64 z] w fun e w' => e = .returned (.string hx) ∧ Below w.heap.size w w') := by rw [hhx]; exact (hexR_any z w hE)
  have HH := Lib.hid hhx
  clear hhx
  go_enter Tryd.func7, Tryd.ntmps7
  go_wp2_with (go_at_call 13; refine HX.out.mono ?_; rintro e w2 ⟨rfl, hb⟩; have HB := Lib.hid hb; clear hb)
  go_ret
  have e : ((⟨#[48, 120]⟩ : ByteArray) ++ ⟨#[]⟩ ++ hx) = ⟨(zText (u64M z)).toArray⟩ := by rw [HH.out]; apply ByteArray.ext; simp [zText]
  exact ⟨congrArg (fun x => Ending.returned (.string x)) e, HB.out⟩
end Go.Proofs.YtgbifmcdkigbgaaDoor
