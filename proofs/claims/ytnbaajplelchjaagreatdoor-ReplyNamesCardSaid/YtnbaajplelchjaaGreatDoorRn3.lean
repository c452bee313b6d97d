/- ReplyNames: a name's code: the program's Read: the walk. (printed by gen_n3r.py) -/
import Derived.Test.YtnbaajplelchjaaGreatDoorRn2
import Derived.Lib.AtoiErrMem
set_option linter.unusedVariables false
set_option linter.unusedSimpArgs false
namespace Go.Proofs.YtnbaajplelchjaaGreatDoor
open Go.RowKit Go.WideMaps Go.Maps Go.Shelf

def PEnd (o : Lib.NumEnd Int) (e : Ending) : Prop := match o with
  | .ok v => e = .returned (.tuple #[.int .i64 v, .nilIface])
  | _ => ∃ z te pe, e = .returned (.tuple #[.int .i64 z, .iface te pe])
theorem pint_any (t : ByteArray) (hmax : t.size ≤ 281474976710656) (w : World) (hE : EnvR w) :
    Calls Tryz.prog 72 #[.string t, .int .i64 10, .int .i64 32] w fun e w' => PEnd (Lib.parseIntB 32 t.data.toList) e ∧ Below w.heap.size w w' := by
  rcases h : Lib.parseIntB 32 t.data.toList with v | _ | _
  · refine (Tryz.strconv_ParseInt_10_at32_ok t (by omega) v h w).mono fun e w' h1 => ⟨h1.1, ?_⟩
    rcases h1.2 with rfl | ⟨x, rfl⟩
    · exact Below.refl _ _
    · exact Lib.bytesWorld_below _ _ _
  · obtain ⟨ev, e1, e2⟩ := hE.es
    exact (Any.strconv_ParseInt_10_at32_syntax Tryz.laysC174 t hmax h ev w e1 e2).mono fun e w' ⟨N, h1, _, _, hb⟩ => ⟨⟨_, _, _, h1⟩, hb⟩
  · obtain ⟨ev, e1, e2⟩ := hE.er
    exact (Tryz.strconv_ParseInt_10_at32_range t hmax h ev w e1 e2).mono fun e w' ⟨N, h1, _, _, hb⟩ => ⟨⟨_, _, _, h1⟩, hb⟩
def REnd (s : ByteArray) (e : Ending) : Prop := ∃ r, Spec s.data.toList r ∧ e = .returned (.tuple #[.int .i32 r.1, .bool r.2])
theorem tab_yes {D : DataW Unit} {s : List UInt8} {x : Int × List UInt8} (h : Tab D 19) (hx : x ∈ known) (e : x.2 = s) : Maps.has D (key s) = true ∧ D.atKey (key s) (.lit (.int .i32 0)) = .lit (.int .i32 x.1) := by
  have ht : known.take 19 = known := by decide
  have h2 := h.2.1 s
  have h3 := h.2.2 x
  rw [ht] at h2 h3
  exact ⟨h2.2 ⟨x, hx, e⟩, by rw [← e]; exact h3 hx⟩
theorem tab_no {D : DataW Unit} {s : List UInt8} (h : Tab D 19) (hx : ∀ x ∈ known, x.2 ≠ s) : Maps.has D (key s) = false := by
  have ht : known.take 19 = known := by decide
  have h2 := h.2.1 s
  rw [ht] at h2
  rcases hh : Maps.has D (key s) with _ | _
  · rfl
  · obtain ⟨x, h1, e⟩ := h2.1 hh
    exact absurd e (hx x h1)

set_option maxRecDepth 100000 in
set_option maxHeartbeats 8000000 in
theorem read_anyR (s : ByteArray) (hs : s.size ≤ 281474976710656) (w : World) (hE : EnvR w) : Calls Tryz.prog 27 #[.string s] w fun e w' => REnd s e ∧ Below w.heap.size w w' := by
  have HK := Lib.hid (known_any w hE)
  have hkey : keyOf Tryz.prog 9 (.string s) = some (key s.data.toList) := keyOf_string_mk Tryz.underlying9 (by unfold maxLen; omega)
  have HE := Lib.hid hE
  have HSL : Hid (s.size = s.data.toList.length) := Lib.size_eq s
  clear hE
  by_cases hk : ∃ x ∈ known, x.2 = s.data.toList
  · obtain ⟨x, hx, hxs⟩ := hk
    have HT : Hid (∀ D, Tab D 19 → Maps.has D (key s.data.toList) = true ∧ D.atKey (key s.data.toList) (.lit (.int .i32 0)) = .lit (.int .i32 x.1)) := fun D h => tab_yes h hx hxs
    have HS : Hid (Spec s.data.toList (x.1, true)) := .inl ⟨x.1, by have := known_range x hx; omega, (codeName_in hx).trans hxs, rfl⟩
    obtain ⟨c0, hc0⟩ : ∃ c, c = x.1 := ⟨_, rfl⟩
    rw [← hc0] at HT HS
    clear hx hxs hc0
    go_enter Tryz.func27, Tryz.ntmps27
    go_wp2_with (first
      | (go_at_call 71
         refine HK.out.mono ?_
         rintro e w1 ⟨rfl, ⟨D, hown, htab⟩, hb⟩
         have HM := Lib.hid hown
         have HH := Lib.hid (HT.out D htab).1
         have HA := Lib.hid (HT.out D htab).2
         have HB := Lib.hid hb
         clear hown htab hb)
      | (at_lookup
         refine wpList_lookup_own_ok_int _ rfl _ _ 116 rfl 9 22 .i32 lawS Tryz.underlying116 Tryz.underlying22 (zeroC _) w.heap.size 19 _ rfl HM.out _ _ rfl hkey ?_
         intro c hat hwc
         rw [HH.out]
         obtain rfl : c0 = c := by
           have h := HA.out.symm.trans hat
           injection h with h
           injection h with _ h
         clear hat hwc))
    go_ret2
    exact ⟨⟨_, HS.out, rfl⟩, HB.out⟩
  have hkn : ∀ x ∈ known, x.2 ≠ s.data.toList := fun x hx e => hk ⟨x, hx, e⟩
  have HT : Hid (∀ D, Tab D 19 → Maps.has D (key s.data.toList) = false) := fun D h => tab_no h hkn
  have HKN := Lib.hid hkn
  clear hk hkn
  have hpre : (s.extract 0 4).toList = s.data.toList.take 4 := by
    rw [Lib.toList_data]
    simp
  by_cases h4 : 4 < s.size
  rotate_left
  · have HS : Hid (Spec s.data.toList (0, false)) := Spec.no_num HKN.out (fun h => h4 (by have := HSL.out; omega))
    clear HKN hpre
    go_enter Tryz.func27, Tryz.ntmps27
    go_wp2_with (first
      | (go_at_call 71
         refine HK.out.mono ?_
         rintro e w1 ⟨rfl, ⟨D, hown, htab⟩, hb⟩
         have HM := Lib.hid hown
         have HH := Lib.hid (HT.out D htab)
         have HB := Lib.hid hb
         clear hown htab hb)
      | (at_lookup
         refine wpList_lookup_own_ok_int _ rfl _ _ 116 rfl 9 22 .i32 lawS Tryz.underlying116 Tryz.underlying22 (zeroC _) w.heap.size 19 _ rfl HM.out _ _ rfl hkey ?_
         intro c hat hwc
         rw [HH.out]
         clear hat hwc))
    go_ret2
    exact ⟨⟨_, HS.out, rfl⟩, HB.out⟩
  by_cases h5 : s.data.toList.take 4 = codeText
  rotate_left
  · have HS : Hid (Spec s.data.toList (0, false)) := Spec.no_num HKN.out (fun h => h5 h.2)
    have hb : ((s.extract 0 4).toList == [67, 79, 68, 69]) = false := by rw [hpre]; simpa [codeText] using h5
    clear HKN hpre h5
    go_enter Tryz.func27, Tryz.ntmps27
    go_wp2_with (first
      | (go_at_call 71
         refine HK.out.mono ?_
         rintro e w1 ⟨rfl, ⟨D, hown, htab⟩, hb⟩
         have HM := Lib.hid hown
         have HH := Lib.hid (HT.out D htab)
         have HB := Lib.hid hb
         clear hown htab hb)
      | (at_lookup
         refine wpList_lookup_own_ok_int _ rfl _ _ 116 rfl 9 22 .i32 lawS Tryz.underlying116 Tryz.underlying22 (zeroC _) w.heap.size 19 _ rfl HM.out _ _ rfl hkey ?_
         intro c hat hwc
         rw [HH.out]
         clear hat hwc))
    go_ret2
    exact ⟨⟨_, HS.out, rfl⟩, HB.out⟩
  have hb : ((s.extract 0 4).toList == [67, 79, 68, 69]) = true := by rw [hpre, h5]; rfl
  obtain ⟨tl, htl⟩ : ∃ t, t = s.extract 4 s.size := ⟨_, rfl⟩
  have htd : tl.data.toList = s.data.toList.drop 4 := by
    rw [htl, ByteArray.data_extract, Array.toList_extract]
    have h := HSL.out
    simp only [List.extract_eq_take_drop]
    rw [List.take_of_length_le (by rw [List.length_drop]; omega)]
  have htz : tl.size ≤ 281474976710656 := by
    rw [Lib.size_eq, htd, List.length_drop, ← HSL.out]
    omega
  have hpi := fun (W : World) (hW : Below w.heap.size w W) => pint_any tl htz W (HE.out.below hW)
  rw [htd] at hpi
  have HX : Hid (s.extract 4 s.size = tl) := htl.symm
  clear h5 hpre htl htz htd
  have hx := HX.out
  rcases hp : Lib.parseIntB 32 (s.data.toList.drop 4) with v | _ | _
  rotate_left
  · have HS : Hid (Spec s.data.toList (0, false)) := Spec.no_parse HKN.out (fun u hu e => by rw [hp] at hu; cases hu)
    rw [hp] at hpi
    have HP : Hid (∀ W, Below w.heap.size w W → Calls Tryz.prog 72 #[.string tl, .int .i64 10, .int .i64 32] W fun e w' => (∃ z te pe, e = .returned (.tuple #[.int .i64 z, .iface te pe])) ∧ Below W.heap.size W w') := hpi
    clear hpi hp HKN
    go_enter Tryz.func27, Tryz.ntmps27
    go_wp2_with (first
      | (go_at_call 71
         refine HK.out.mono ?_
         rintro e w1 ⟨rfl, ⟨D, hown, htab⟩, hb⟩
         have HM := Lib.hid hown
         have HH := Lib.hid (HT.out D htab)
         have HB := Lib.hid hb
         clear hown htab hb)
      | (at_lookup
         refine wpList_lookup_own_ok_int _ rfl _ _ 116 rfl 9 22 .i32 lawS Tryz.underlying116 Tryz.underlying22 (zeroC _) w.heap.size 19 _ rfl HM.out _ _ rfl hkey ?_
         intro c hat hwc
         rw [HH.out]
         clear hat hwc)
      | (go_at_call 72
         refine (HP.out _ HB.out).mono ?_
         rintro e w2 ⟨⟨z, te, pe, rfl⟩, hb⟩
         have HB2 := Lib.hid (HB.out.trans (hb.mono HB.out.size))
         clear hb))
    go_ret2
    exact ⟨⟨_, HS.out, rfl⟩, HB2.out⟩
  · have HS : Hid (Spec s.data.toList (0, false)) := Spec.no_parse HKN.out (fun u hu e => by rw [hp] at hu; cases hu)
    rw [hp] at hpi
    have HP : Hid (∀ W, Below w.heap.size w W → Calls Tryz.prog 72 #[.string tl, .int .i64 10, .int .i64 32] W fun e w' => (∃ z te pe, e = .returned (.tuple #[.int .i64 z, .iface te pe])) ∧ Below W.heap.size W w') := hpi
    clear hpi hp HKN
    go_enter Tryz.func27, Tryz.ntmps27
    go_wp2_with (first
      | (go_at_call 71
         refine HK.out.mono ?_
         rintro e w1 ⟨rfl, ⟨D, hown, htab⟩, hb⟩
         have HM := Lib.hid hown
         have HH := Lib.hid (HT.out D htab)
         have HB := Lib.hid hb
         clear hown htab hb)
      | (at_lookup
         refine wpList_lookup_own_ok_int _ rfl _ _ 116 rfl 9 22 .i32 lawS Tryz.underlying116 Tryz.underlying22 (zeroC _) w.heap.size 19 _ rfl HM.out _ _ rfl hkey ?_
         intro c hat hwc
         rw [HH.out]
         clear hat hwc)
      | (go_at_call 72
         refine (HP.out _ HB.out).mono ?_
         rintro e w2 ⟨⟨z, te, pe, rfl⟩, hb⟩
         have HB2 := Lib.hid (HB.out.trans (hb.mono HB.out.size))
         clear hb))
    go_ret2
    exact ⟨⟨_, HS.out, rfl⟩, HB2.out⟩
  rw [hp] at hpi
  have HP : Hid (∀ W, Below w.heap.size w W → Calls Tryz.prog 72 #[.string tl, .int .i64 10, .int .i64 32] W fun e w' => e = .returned (.tuple #[.int .i64 v, .nilIface]) ∧ Below W.heap.size W w') := hpi
  have hbd := Lib.parseIntB_bounds hp
  have hv0 : -2147483648 ≤ v := by simpa using hbd.1
  have hv1 : v < 2147483648 := by simpa using hbd.2
  have hw : wrap32 v = v := by unfold wrap32; omega
  have HN : Hid (∀ W, Below w.heap.size w W → Calls Tryz.prog 29 #[.int .i32 v] W fun e w' => e = .returned (.string ⟨(codeName v).toArray⟩) ∧ Below W.heap.size W w') := fun W hW => name_any v hv0 (by omega) W (HE.out.below hW)
  obtain ⟨tx, htx⟩ : ∃ x : ByteArray, x = ⟨(codeName v).toArray⟩ := ⟨_, rfl⟩
  have hq : (tx.toList == s.toList) = decide (codeName v = s.data.toList) := by
    rw [Lib.toList_data, Lib.toList_data, htx, Bool.eq_iff_iff, beq_iff_eq, decide_eq_true_eq]
  rw [← htx] at HN
  by_cases hc : codeName v = s.data.toList
  · have HS : Hid (Spec s.data.toList (v, true)) := Spec.parse hp hc
    rw [decide_eq_true hc] at hq
    clear hpi hp hbd hc htx HKN
    go_enter Tryz.func27, Tryz.ntmps27
    go_wp2_with (first
      | (go_at_call 71
         refine HK.out.mono ?_
         rintro e w1 ⟨rfl, ⟨D, hown, htab⟩, hb⟩
         have HM := Lib.hid hown
         have HH := Lib.hid (HT.out D htab)
         have HB := Lib.hid hb
         clear hown htab hb)
      | (at_lookup
         refine wpList_lookup_own_ok_int _ rfl _ _ 116 rfl 9 22 .i32 lawS Tryz.underlying116 Tryz.underlying22 (zeroC _) w.heap.size 19 _ rfl HM.out _ _ rfl hkey ?_
         intro c hat hwc
         rw [HH.out]
         clear hat hwc)
      | (go_at_call 72
         refine (HP.out _ HB.out).mono ?_
         rintro e w2 ⟨rfl, hb⟩
         have HB2 := Lib.hid (HB.out.trans (hb.mono HB.out.size))
         clear hb)
      | (go_at_call 29
         refine (HN.out _ HB2.out).mono ?_
         rintro e w3 ⟨rfl, hb⟩
         have HB3 := Lib.hid (HB2.out.trans (hb.mono HB2.out.size))
         clear hb))
    go_ret2
    exact ⟨⟨_, HS.out, rfl⟩, HB3.out⟩
  · have HS : Hid (Spec s.data.toList (0, false)) := Spec.no_parse HKN.out (fun u hu e => hc (by rw [hp] at hu; injection hu with hu; rw [hu]; exact e))
    rw [decide_eq_false hc] at hq
    clear hpi hp hbd hc htx HKN
    go_enter Tryz.func27, Tryz.ntmps27
    go_wp2_with (first
      | (go_at_call 71
         refine HK.out.mono ?_
         rintro e w1 ⟨rfl, ⟨D, hown, htab⟩, hb⟩
         have HM := Lib.hid hown
         have HH := Lib.hid (HT.out D htab)
         have HB := Lib.hid hb
         clear hown htab hb)
      | (at_lookup
         refine wpList_lookup_own_ok_int _ rfl _ _ 116 rfl 9 22 .i32 lawS Tryz.underlying116 Tryz.underlying22 (zeroC _) w.heap.size 19 _ rfl HM.out _ _ rfl hkey ?_
         intro c hat hwc
         rw [HH.out]
         clear hat hwc)
      | (go_at_call 72
         refine (HP.out _ HB.out).mono ?_
         rintro e w2 ⟨rfl, hb⟩
         have HB2 := Lib.hid (HB.out.trans (hb.mono HB.out.size))
         clear hb)
      | (go_at_call 29
         refine (HN.out _ HB2.out).mono ?_
         rintro e w3 ⟨rfl, hb⟩
         have HB3 := Lib.hid (HB2.out.trans (hb.mono HB2.out.size))
         clear hb))
    go_ret2
    exact ⟨⟨_, HS.out, rfl⟩, HB3.out⟩
end Go.Proofs.YtnbaajplelchjaaGreatDoor
