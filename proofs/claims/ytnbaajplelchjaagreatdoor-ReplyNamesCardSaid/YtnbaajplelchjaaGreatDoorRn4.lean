/- ReplyNames: a name's code: the document's Read: the walk. (printed by gen_n4r.py) -/
import Derived.Test.YtnbaajplelchjaaGreatDoorRn3
set_option linter.unusedVariables false
set_option linter.unusedSimpArgs false
namespace Go.Proofs.YtnbaajplelchjaaGreatDoor
open Go.RowKit

theorem digL_take {l : List UInt8} (h : digL l) (k : Nat) : digL (l.take k) := fun b hb => h b (List.mem_of_mem_take hb)
theorem dig_next {l : List UInt8} {k : Nat} (hk : k < l.length) (h : digL (l.take k)) (h0 : 48 ≤ l[k].toNat) (h1 : l[k].toNat ≤ 57) : digL (l.take (k + 1)) := fun b hb => by
  rw [List.take_succ_eq_append_getElem hk] at hb
  rcases List.mem_append.1 hb with hb | hb
  · exact h b hb
  · rw [List.mem_singleton] at hb
    subst hb
    exact ⟨h0, h1⟩
theorem val_11 {l : List UInt8} (h : digL l) (hl : l.length ≤ 11) : valL l < 100000000000 :=
  Nat.lt_of_lt_of_le (val_lt l h) (Nat.le_trans (Nat.pow_le_pow_right (by decide) hl) (by decide))
theorem minus_eq (l : List UInt8) (h : 4 < l.length) : (((l[4]'h).toNat : Int) == 45) = minus l := by
  unfold minus
  rw [List.getD_eq_getElem?_getD, List.getElem?_eq_getElem h, Option.getD_some, Bool.eq_iff_iff, beq_iff_eq, beq_iff_eq]
  constructor
  · intro e
    have : (l[4]'h).toNat = (45 : UInt8).toNat := by
      show _ = 45
      omega
    exact UInt8.toNat_inj.1 this
  · intro e
    rw [e]
    rfl
set_option maxRecDepth 100000 in
set_option maxHeartbeats 16000000 in
theorem refRead_anyR (s : ByteArray) (hs : s.size ≤ 281474976710656) (w : World) (hE : EnvR w) : Calls Tryz.prog 28 #[.string s] w fun e w' => REnd s e ∧ Below w.heap.size w w' := by
  have HSL : Hid (s.size = s.data.toList.length) := Lib.size_eq s
  have HE := Lib.hid hE
  clear hE
  obtain ⟨bs, hbs⟩ : ∃ bs : List UInt8, bs = s.data.toList := ⟨_, rfl⟩
  have hlen : bs.length = s.size := by rw [hbs]; exact HSL.out.symm
  have HIX : Hid (∀ W (k : Nat) (hk : k < bs.length), (Instr.index 9 (.string s) (.int .i64 (k : Int))).run Tryz.prog W = .ok (.int .u8 ((bs[k]).toNat : Int)) W) := fun W k hk => by
    subst hbs
    have hks : k < s.size := by rw [HSL.out]; exact hk
    rw [run_index_string W _ s .i64 k Tryz.underlying9, dif_pos ⟨by omega, by omega⟩]
    rfl
  have HEQ : Hid (∀ c : Int, ((⟨(codeName c).toArray⟩ : ByteArray).toList == s.toList) = decide (codeName c = bs)) := fun c => by
    rw [Lib.toList_data, Lib.toList_data, hbs, Bool.eq_iff_iff, beq_iff_eq, decide_eq_true_eq]
  have HNM : Hid (∀ c W, -2147483648 ≤ c → c ≤ 2147483647 → Below w.heap.size w W → Calls Tryz.prog 30 #[.int .i32 c] W fun e w' => e = .returned (.string ⟨(codeName c).toArray⟩) ∧ Below W.heap.size W w') := fun c W h0 h1 hW => refName_any c h0 h1 W (HE.out.below hW)
  have hpre : (s.extract 0 4).toList = bs.take 4 := by
    rw [Lib.toList_data, hbs]
    simp
  have HPRE := Lib.hid hpre
  have HLEN := Lib.hid hlen
  have hend : Hid (∀ (r : Int × Bool) (e : Ending), Spec bs r → e = .returned (.tuple #[.int .i32 r.1, .bool r.2]) → REnd s e) := fun r e h1 h2 => ⟨r, by rw [← hbs]; exact h1, h2⟩
  clear hbs hpre hlen HSL HE
  go_enter Tryz.func28, Tryz.ntmps28
  go_wp2
  go_loopw [4] (fun vc wr => ∃ c : Int, -200 ≤ c ∧ c ≤ 1 ∧ vc = .int .i64 c ∧ Hid (∀ d : Int, -200 ≤ d → d < c → codeName d ≠ bs) ∧ Hid (Below w.heap.size w wr)) (fun vc _ => (1 - intOf vc).toNat)
  case atStart => exact ⟨-200, by omega, by omega, rfl, fun d h1 h2 => by omega, Below.refl _ _⟩
  case round =>
    obtain ⟨c, c0, c1, rfl, HD, HB⟩ := hrel
    by_cases hc : c ≤ 0
    · have HN := Lib.hid (HNM.out c wr (by omega) (by omega) HB.out)
      have hq := HEQ.out c
      have hw : wrap32 c = c := by unfold wrap32; omega
      obtain ⟨tx, htx⟩ : ∃ x : ByteArray, x = ⟨(codeName c).toArray⟩ := ⟨_, rfl⟩
      rw [← htx] at HN hq
      clear htx
      by_cases he : codeName c = bs
      · have HS : Hid (Spec bs (c, true)) := .inl ⟨c, by omega, he, rfl⟩
        rw [decide_eq_true he] at hq
        clear he HD
        go_wp2_with (go_at_call 30; refine HN.out.mono ?_; rintro e w3 ⟨rfl, hb⟩; have HB3 := Lib.hid (HB.out.trans (hb.mono HB.out.size)); clear hb)
        go_ret2
        exact ⟨hend.out _ _ HS.out rfl, HB3.out⟩
      · have HD2 : Hid (∀ d : Int, -200 ≤ d → d < c + 1 → codeName d ≠ bs) := fun d h1 h2 => by
          by_cases hd : d = c
          · rw [hd]; exact he
          · exact HD.out d h1 (by omega)
        rw [decide_eq_false he] at hq
        clear he HD
        go_wp2_with (go_at_call 30; refine HN.out.mono ?_; rintro e w3 ⟨rfl, hb⟩; have HB3 := Lib.hid (HB.out.trans (hb.mono HB.out.size)); clear hb)
        go_roundw
        case rel => exact ⟨c + 1, by omega, by omega, by go_num, HD2, HB3⟩
        case measure => simp [intOf]; omega
    · have HK : Hid (∀ x ∈ known, x.2 ≠ bs) := far_known fun d h1 h2 => HD.out d h1 (by omega)
      have hc1 : c = 1 := by omega
      subst hc1
      clear HD hc c0 c1
      by_cases h5 : s.size < 5
      · have HS : Hid (Spec bs (0, false)) := Spec.no_text HK.out (.inl (by rw [HLEN.out]; exact h5))
        go_wp2
        go_ret2
        exact ⟨hend.out _ _ HS.out rfl, HB.out⟩
      by_cases h15 : 15 < s.size
      · have HS : Hid (Spec bs (0, false)) := Spec.no_text HK.out (.inr (.inl (by rw [HLEN.out]; exact h15)))
        go_wp2
        go_ret2
        exact ⟨hend.out _ _ HS.out rfl, HB.out⟩
      by_cases ht : bs.take 4 = codeText
      rotate_left
      · have HS : Hid (Spec bs (0, false)) := Spec.no_text HK.out (.inr (.inr ht))
        have hb : ((s.extract 0 4).toList == [67, 79, 68, 69]) = false := by rw [HPRE.out]; simpa [codeText] using ht
        clear ht
        go_wp2
        go_ret2
        exact ⟨hend.out _ _ HS.out rfl, HB.out⟩
      have hb : ((s.extract 0 4).toList == [67, 79, 68, 69]) = true := by rw [HPRE.out, ht]; rfl
      have h4 : 4 < bs.length := by rw [HLEN.out]; omega
      have hm := minus_eq bs h4
      have hi4 : ∀ W, (Instr.index 9 (.string s) (.int .i64 4)).run Tryz.prog W = .ok (.int .u8 ((bs[4]).toNat : Int)) W := fun W => HIX.out W 4 h4
      generalize (bs[4]).toNat = b4 at hm hi4
      clear ht h4
      rcases hmm : minus bs with _ | _
      · skip
        rw [hmm] at hm
        have HF : Hid (from_ bs = 4) := by unfold Hid from_; rw [hmm]; rfl
        have HMM := Lib.hid hmm
        clear hmm
        go_wp2
        go_loopw [5, 8] (fun va vi wr2 => ∃ (j n : Nat) (a : Int), 4 ≤ j ∧ j ≤ s.size ∧ va = .int .i64 a ∧ vi = .int .i64 (j : Int) ∧ 0 ≤ a ∧ a < 100000000000 ∧ Hid (a = (n : Int) ∧ digL ((bs.drop 4).take (j - 4)) ∧ n = valL ((bs.drop 4).take (j - 4))) ∧ wr = wr2) (fun _ vi _ => s.size - (intOf vi).toNat)
        case atStart => exact ⟨4, 0, 0, by omega, by omega, rfl, rfl, by omega, by omega, ⟨rfl, (fun b hb => by simp at hb), by simp [valL]⟩, rfl⟩
        case round =>
          obtain ⟨j, n, a, hj0, hj1, rfl, rfl, ha0, ha1, HX, rfl⟩ := hrel
          by_cases hjn : j < s.size
          · have hjb : j < bs.length := by rw [HLEN.out]; exact hjn
            have hix := fun W => HIX.out W j hjb
            have hkd : j - 4 < (bs.drop 4).length := by rw [List.length_drop]; omega
            have hge : (bs.drop 4)[j - 4] = bs[j] := by rw [List.getElem_drop]; congr 1; omega
            have hmem : bs[j] ∈ bs.drop 4 := by rw [← hge]; exact List.getElem_mem _
            have hv := val_take (bs.drop 4) (j - 4) hkd
            have hdn := fun h0 h1 => dig_next hkd HX.out.2.1 h0 h1
            rw [hge] at hv hdn
            rw [show j - 4 + 1 = j + 1 - 4 by omega] at hv hdn
            generalize bs[j] = ch at hix hmem hv hdn
            have HV := Lib.hid hv
            have HDN := Lib.hid hdn
            have HMEM := Lib.hid hmem
            have hc8 : ch.toNat < 256 := ch.toNat_lt
            clear hge hkd hv hdn hmem hjb
            by_cases hd0 : ch.toNat < 48
            · have HS : Hid (Spec bs (0, false)) := Spec.no_digit HK.out (fun h => by rw [HF.out] at h; have := h _ HMEM.out; omega)
              clear HX HV HDN HMEM
              go_wp2
              go_ret2
              exact ⟨hend.out _ _ HS.out rfl, HB.out⟩
            by_cases hd1 : 57 < ch.toNat
            · have HS : Hid (Spec bs (0, false)) := Spec.no_digit HK.out (fun h => by rw [HF.out] at h; have := h _ HMEM.out; omega)
              clear HX HV HDN HMEM
              go_wp2
              go_ret2
              exact ⟨hend.out _ _ HS.out rfl, HB.out⟩
            have HX2 : Hid (10 * a + ((ch.toNat : Int) - 48) = ((n * 10 + (ch.toNat - 48) : Nat) : Int) ∧ digL ((bs.drop 4).take (j + 1 - 4)) ∧ n * 10 + (ch.toNat - 48) = valL ((bs.drop 4).take (j + 1 - 4))) := ⟨by rw [HX.out.1]; omega, HDN.out (by omega) (by omega), by rw [HV.out, ← HX.out.2.2]⟩
            have ha2 : 10 * a + ((ch.toNat : Int) - 48) < 100000000000 := by
              have h := val_11 HX2.out.2.1 (by rw [List.length_take, List.length_drop]; omega)
              rw [← HX2.out.2.2] at h
              have := HX2.out.1
              omega
            clear HX HV HDN HMEM
            go_wp2
            go_roundw
            case rel => exact ⟨j + 1, n * 10 + (ch.toNat - 48), 10 * a + ((ch.toNat : Int) - 48), by omega, by omega, by go_num, by go_num, by omega, ha2, HX2, by first | trivial | rfl⟩
            case measure => simp [intOf]; omega
          · have hjs : j = s.size := by omega
            subst hjs
            have hval : signed (minus bs) (valL (bs.drop (from_ bs))) = a := by
              have h := HX.out
              rw [List.take_of_length_le (by rw [List.length_drop, HLEN.out]; exact Nat.le_refl _)] at h
              rw [HMM.out, HF.out, ← h.2.2, h.1]
              rfl
            have HNC : Hid ((-2147483648 ≤ a → a ≤ 2147483647 → codeName (a) ≠ bs) → Spec bs (0, false)) := fun h => Spec.no_code HK.out (by rw [hval]; exact h)
            clear hval HX HMM HF HK
            have hw64 : wrap64 (-a) = -a := by unfold wrap64; omega
            by_cases hr : 2147483647 < a
            · skip
              have HS : Hid (Spec bs (0, false)) := HNC.out (fun h1 h2 => by omega)
              clear HNC
              go_wp2
              go_ret2
              exact ⟨hend.out _ _ HS.out rfl, HB.out⟩
            have hz0 : -2147483648 ≤ a := by omega
            have hz1 : a ≤ 2147483647 := by omega
            have hw : wrap32 (a) = a := by unfold wrap32; omega
            have HN := Lib.hid (HNM.out (a) wr hz0 hz1 HB.out)
            have hq := HEQ.out (a)
            obtain ⟨tx, htx⟩ : ∃ x : ByteArray, x = ⟨(codeName (a)).toArray⟩ := ⟨_, rfl⟩
            rw [← htx] at HN hq
            clear htx
            by_cases he : codeName (a) = bs
            · rw [decide_eq_true he] at hq
              have HS : Hid (Spec bs (a, true)) := .inl ⟨a, ⟨hz0, hz1⟩, he, rfl⟩
              clear he
              clear HNC
              go_wp2_with (go_at_call 30; refine HN.out.mono ?_; rintro e w3 ⟨rfl, hb⟩; have HB3 := Lib.hid (HB.out.trans (hb.mono HB.out.size)); clear hb)
              go_ret2
              exact ⟨hend.out _ _ HS.out rfl, HB3.out⟩
            · rw [decide_eq_false he] at hq
              have HS : Hid (Spec bs (0, false)) := HNC.out (fun _ _ => he)
              clear he
              clear HNC
              go_wp2_with (go_at_call 30; refine HN.out.mono ?_; rintro e w3 ⟨rfl, hb⟩; have HB3 := Lib.hid (HB.out.trans (hb.mono HB.out.size)); clear hb)
              go_ret2
              exact ⟨hend.out _ _ HS.out rfl, HB3.out⟩
      · skip
        rw [hmm] at hm
        have HF : Hid (from_ bs = 5) := by unfold Hid from_; rw [hmm]; rfl
        have HMM := Lib.hid hmm
        clear hmm
        go_wp2
        go_loopw [5, 8] (fun va vi wr2 => ∃ (j n : Nat) (a : Int), 5 ≤ j ∧ j ≤ s.size ∧ va = .int .i64 a ∧ vi = .int .i64 (j : Int) ∧ 0 ≤ a ∧ a < 100000000000 ∧ Hid (a = (n : Int) ∧ digL ((bs.drop 5).take (j - 5)) ∧ n = valL ((bs.drop 5).take (j - 5))) ∧ wr = wr2) (fun _ vi _ => s.size - (intOf vi).toNat)
        case atStart => exact ⟨5, 0, 0, by omega, by omega, rfl, rfl, by omega, by omega, ⟨rfl, (fun b hb => by simp at hb), by simp [valL]⟩, rfl⟩
        case round =>
          obtain ⟨j, n, a, hj0, hj1, rfl, rfl, ha0, ha1, HX, rfl⟩ := hrel
          by_cases hjn : j < s.size
          · have hjb : j < bs.length := by rw [HLEN.out]; exact hjn
            have hix := fun W => HIX.out W j hjb
            have hkd : j - 5 < (bs.drop 5).length := by rw [List.length_drop]; omega
            have hge : (bs.drop 5)[j - 5] = bs[j] := by rw [List.getElem_drop]; congr 1; omega
            have hmem : bs[j] ∈ bs.drop 5 := by rw [← hge]; exact List.getElem_mem _
            have hv := val_take (bs.drop 5) (j - 5) hkd
            have hdn := fun h0 h1 => dig_next hkd HX.out.2.1 h0 h1
            rw [hge] at hv hdn
            rw [show j - 5 + 1 = j + 1 - 5 by omega] at hv hdn
            generalize bs[j] = ch at hix hmem hv hdn
            have HV := Lib.hid hv
            have HDN := Lib.hid hdn
            have HMEM := Lib.hid hmem
            have hc8 : ch.toNat < 256 := ch.toNat_lt
            clear hge hkd hv hdn hmem hjb
            by_cases hd0 : ch.toNat < 48
            · have HS : Hid (Spec bs (0, false)) := Spec.no_digit HK.out (fun h => by rw [HF.out] at h; have := h _ HMEM.out; omega)
              clear HX HV HDN HMEM
              go_wp2
              go_ret2
              exact ⟨hend.out _ _ HS.out rfl, HB.out⟩
            by_cases hd1 : 57 < ch.toNat
            · have HS : Hid (Spec bs (0, false)) := Spec.no_digit HK.out (fun h => by rw [HF.out] at h; have := h _ HMEM.out; omega)
              clear HX HV HDN HMEM
              go_wp2
              go_ret2
              exact ⟨hend.out _ _ HS.out rfl, HB.out⟩
            have HX2 : Hid (10 * a + ((ch.toNat : Int) - 48) = ((n * 10 + (ch.toNat - 48) : Nat) : Int) ∧ digL ((bs.drop 5).take (j + 1 - 5)) ∧ n * 10 + (ch.toNat - 48) = valL ((bs.drop 5).take (j + 1 - 5))) := ⟨by rw [HX.out.1]; omega, HDN.out (by omega) (by omega), by rw [HV.out, ← HX.out.2.2]⟩
            have ha2 : 10 * a + ((ch.toNat : Int) - 48) < 100000000000 := by
              have h := val_11 HX2.out.2.1 (by rw [List.length_take, List.length_drop]; omega)
              rw [← HX2.out.2.2] at h
              have := HX2.out.1
              omega
            clear HX HV HDN HMEM
            go_wp2
            go_roundw
            case rel => exact ⟨j + 1, n * 10 + (ch.toNat - 48), 10 * a + ((ch.toNat : Int) - 48), by omega, by omega, by go_num, by go_num, by omega, ha2, HX2, by first | trivial | rfl⟩
            case measure => simp [intOf]; omega
          · have hjs : j = s.size := by omega
            subst hjs
            have hval : signed (minus bs) (valL (bs.drop (from_ bs))) = -a := by
              have h := HX.out
              rw [List.take_of_length_le (by rw [List.length_drop, HLEN.out]; exact Nat.le_refl _)] at h
              rw [HMM.out, HF.out, ← h.2.2, h.1]
              rfl
            have HNC : Hid ((-2147483648 ≤ -a → -a ≤ 2147483647 → codeName (-a) ≠ bs) → Spec bs (0, false)) := fun h => Spec.no_code HK.out (by rw [hval]; exact h)
            clear hval HX HMM HF HK
            have hw64 : wrap64 (-a) = -a := by unfold wrap64; omega
            by_cases hr : 2147483648 < a
            · skip
              have HS : Hid (Spec bs (0, false)) := HNC.out (fun h1 h2 => by omega)
              have hr2 : -a < -2147483648 := by omega
              clear HNC
              go_wp2
              go_ret2
              exact ⟨hend.out _ _ HS.out rfl, HB.out⟩
            have hz0 : -2147483648 ≤ -a := by omega
            have hz1 : -a ≤ 2147483647 := by omega
            have hw : wrap32 (-a) = -a := by unfold wrap32; omega
            have HN := Lib.hid (HNM.out (-a) wr hz0 hz1 HB.out)
            have hq := HEQ.out (-a)
            obtain ⟨tx, htx⟩ : ∃ x : ByteArray, x = ⟨(codeName (-a)).toArray⟩ := ⟨_, rfl⟩
            rw [← htx] at HN hq
            clear htx
            by_cases he : codeName (-a) = bs
            · rw [decide_eq_true he] at hq
              have HS : Hid (Spec bs (-a, true)) := .inl ⟨-a, ⟨hz0, hz1⟩, he, rfl⟩
              clear he
              clear HNC
              go_wp2_with (go_at_call 30; refine HN.out.mono ?_; rintro e w3 ⟨rfl, hb⟩; have HB3 := Lib.hid (HB.out.trans (hb.mono HB.out.size)); clear hb)
              go_ret2
              exact ⟨hend.out _ _ HS.out rfl, HB3.out⟩
            · rw [decide_eq_false he] at hq
              have HS : Hid (Spec bs (0, false)) := HNC.out (fun _ _ => he)
              clear he
              clear HNC
              go_wp2_with (go_at_call 30; refine HN.out.mono ?_; rintro e w3 ⟨rfl, hb⟩; have HB3 := Lib.hid (HB.out.trans (hb.mono HB.out.size)); clear hb)
              go_ret2
              exact ⟨hend.out _ _ HS.out rfl, HB3.out⟩
end Go.Proofs.YtnbaajplelchjaaGreatDoor
