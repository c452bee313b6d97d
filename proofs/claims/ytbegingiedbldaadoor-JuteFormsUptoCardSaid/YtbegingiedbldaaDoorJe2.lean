/- The document's bytes of values: the walk. -/
import Derived.Test.YtbegingiedbldaaDoorJe1
namespace Go.Proofs.YtbegingiedbldaaDoor
open Go.RowKit

theorem u8_mod (a b : Nat) (h : a % 256 = b % 256) : UInt8.ofNat a = UInt8.ofNat b := by
  apply UInt8.toNat_inj.1
  rw [UInt8.toNat_ofNat', UInt8.toNat_ofNat']
  exact h
theorem be4_mod (a b : Nat) (h : a % 4294967296 = b % 4294967296) : beBytes a 4 = beBytes b 4 := by
  simp only [beBytes]
  rw [u8_mod (a / 256 ^ 3) (b / 256 ^ 3) (by omega), u8_mod (a / 256 ^ 2) (b / 256 ^ 2) (by omega), u8_mod (a / 256 ^ 1) (b / 256 ^ 1) (by omega), u8_mod (a / 256 ^ 0) (b / 256 ^ 0) (by omega)]
theorem refPut4 (base : Nat) (v : Value) (l : List UInt8) (y z : Int) (w : World) (h0 : 0 ≤ y) (h1 : y < 18446744073709551616) (hy : y % 4294967296 = z % 4294967296) (h : Rb w base v l) (hbase : base ≤ w.heap.size) (hsz : l.length + 8 ≤ 140737488355328) :
    Calls Tryd.prog 61 #[v, .int .u64 y, .int .i64 4] w fun e w' => ∃ v', e = .returned v' ∧ Rb w' base v' (l ++ bInt z) ∧ Below base w w' ∧ Keeps w w' := by
  have h := refPut_any base v l y.toNat 4 w h (by omega) (by omega) hbase hsz
  rw [Int.toNat_of_nonneg h0] at h
  rwa [show bInt z = beBytes y.toNat 4 from be4_mod _ _ (by have := u32N_cast z; omega)]
theorem refPut8 (base : Nat) (v : Value) (l : List UInt8) (z : Int) (w : World) (h : Rb w base v l) (hbase : base ≤ w.heap.size) (hsz : l.length + 8 ≤ 140737488355328) :
    Calls Tryd.prog 61 #[v, .int .u64 (IntKind.u64.wrap z), .int .i64 8] w fun e w' => ∃ v', e = .returned v' ∧ Rb w' base v' (l ++ bLong z) ∧ Below base w w' ∧ Keeps w w' := by
  have hb := u64_wrap_bd z
  have h := refPut_any base v l (IntKind.u64.wrap z).toNat 8 w h (by omega) (by omega) hbase hsz
  rw [Int.toNat_of_nonneg hb.1] at h
  exact h

set_option maxRecDepth 100000 in
set_option maxHeartbeats 2000000 in
theorem written_any (A : Option Addr) (n c : Nat) (S : List Vl) (w : World) (hS : Reads w w.heap.size 4 A n (S.flatMap vlCells)) (hL : ∀ x ∈ S, Reads w w.heap.size 1 x.A x.n (scells x.L) ∧ x.n ≤ 1099511627776)
    (hn : n ≤ 1099511627776) (hsz : (S.flatMap bVl).length + 16 ≤ 140737488355328) :
    Calls Tryd.prog 34 #[.slice A n c] w fun e w' => ∃ v', e = .returned v' ∧ Rb w' w.heap.size v' (S.flatMap bVl) ∧ Below w.heap.size w w' := by
  obtain ⟨i0, hi0, hz0, hz1, hz2⟩ := info_parts u8_info
  have hSl : S.length = n := by
    have h1 := hS.1
    have : ∀ S : List Vl, (S.flatMap vlCells).length = S.length * 4 := by
      intro S
      induction S with
      | nil => rfl
      | cons a S ih => rw [List.flatMap_cons, List.length_append, ih]; simp [vlCells]; omega
    rw [this] at h1
    omega
  subst hSl
  have HS := Lib.hid hS
  have HL := Lib.hid hL
  clear hS hL
  go_enter Tryd.func34, Tryd.ntmps34
  go_wp2
  go_loopw [3, 4] (fun u i wr => ∃ (k : Nat) (v2 : Value), k ≤ S.length ∧ u = v2 ∧ i = .int .i64 k ∧ Rb wr w.heap.size v2 ((S.take k).flatMap bVl) ∧ Below w.heap.size w wr) (fun _ i _ => S.length - (intOf i).toNat)
  case atStart => exact ⟨0, _, Nat.zero_le _, rfl, rfl, by simpa using Rb.nil _ _, Below.refl _ _⟩
  case round =>
    obtain ⟨wo, rfl⟩ : ∃ wo : World, wo = wr := ⟨_, rfl⟩
    obtain ⟨k, v2, hk, rfl, rfl, hW, hbw⟩ := hrel
    have hzw := hbw.size
    have HW := Lib.hid hW
    have HBW := Lib.hid hbw
    clear hW hbw
    by_cases hlt : k < S.length
    · obtain ⟨s, hs⟩ : ∃ s, S[k]? = some s := ⟨_, List.getElem?_eq_getElem hlt⟩
      obtain ⟨bS, off, rfl, hbS, hcs⟩ := rows_at (f := vlCells) (q := 4) (by decide) (fun _ => rfl) (HS.out.below HBW.out) k s hs
      have e0 := hcs 0 _ rfl
      have e1 := hcs 1 _ rfl
      have e2 := hcs 2 _ rfl
      have e3 := hcs 3 _ rfl
      simp only [Nat.add_zero] at e0
      have HSK := Lib.hid hs
      have HSM := Lib.hid (List.mem_of_getElem? hs)
      obtain ⟨wa, hwa⟩ : ∃ wa, wo.alloc (.cells #[.int .i64 s.k, .int .i64 s.z, .string s.t, .slice s.A s.n s.c] 68) = wa := ⟨_, rfl⟩
      have hba : Below wo.heap.size wo wa := by rw [← hwa]; exact (Below.refl _ _).alloc (Nat.le_refl _) _
      have bA : Blk wa wo.heap.size 68 #[.int .i64 s.k, .int .i64 s.z, .string s.t, .slice s.A s.n s.c] := by rw [← hwa]; exact Blk.new _ _ _
      have a0 : wa.cell? ⟨wo.heap.size, 0, none⟩ = some (.int .i64 s.k) := by rw [bA.cell 0]; rfl
      have a1 : wa.cell? ⟨wo.heap.size, 1, none⟩ = some (.int .i64 s.z) := by rw [bA.cell 1]; rfl
      have a2 : wa.cell? ⟨wo.heap.size, 2, none⟩ = some (.string s.t) := by rw [bA.cell 2]; rfl
      have a3 : wa.cell? ⟨wo.heap.size, 3, none⟩ = some (.slice s.A s.n s.c) := by rw [bA.cell 3]; rfl
      have HWA := Lib.hid (HW.out.later hba)
      have HBA : Hid (Below w.heap.size w wa) := HBW.out.trans (hba.mono HBW.out.size)
      have hza : w.heap.size ≤ wa.heap.size := HBA.out.size
      have HR := Lib.hid ((HL.out s HSM.out).1.below HBA.out)
      have hnn := (HL.out s HSM.out).2
      have HBK := Lib.hid bA
      have hlen := flat_part bVl S k s hs
      have HLEN : Hid (((S.take k).flatMap bVl).length + (bVl s).length + 16 ≤ 140737488355328) := by unfold Hid; omega
      clear hs hcs bA hba HW HBW hlen
      by_cases k1 : s.k = 1
      · as_aux_lemma =>
          have n1 : (s.k == 1) = true := by simp [k1]
          have hbv : bVl s = bBool (s.z != 0) := by simp [bVl, k1]
          have hb := HLEN.out
          rw [hbv] at hb
          have HBV := Lib.hid hbv
          clear hbv
          clear k1
          by_cases hz : s.z = 0
          rotate_left
          · have hzb : (s.z != 0) = true := by simp [hz]
            rw [hzb] at HBV hb
            clear hz
            go_wp2_with (first
              | (at_builtin
                 refine wpList_append_any _ rfl (.tmp 24) (.tmp 25) _ rfl w.heap.size 5 i0 _ 1 1 Tryd.underlying22 hi0 hz0 hz1 hz2 rfl (by decide) _ ((S.take k).flatMap bVl).length (bcells ((S.take k).flatMap bVl)) rfl (World.ownsRow.alloc HWA.out _) (wa.heap.size + 1) (some ⟨wa.heap.size, 0, none⟩) 1 1 (bcells (bBool true)) rfl (reads_lit wa 5 [_]) (bcells_one _) (by simp only [maxLen]; omega) (by omega) (by simp; omega) ?_
                 intro v3 w3 ho3 hg3 hat3
                 have HP : Hid (Rb w3 w.heap.size v3 ((S.take k).flatMap bVl ++ bBool true)) := (by unfold Hid Rb; rw [bcells_append, List.length_append]; exact ho3)
                 have HBP : Hid (Below w.heap.size w w3) := HBA.out.trans (((Below.refl _ _).alloc hza _).grown hg3 (by simp; omega) (fun x hx => (HWA.out.lt x hx).1))
                 clear ho3 hg3 hat3))
            go_roundw
            case rel => exact ⟨k + 1, v3, by omega, rfl, by go_num, by rw [flat_take bVl S k s HSK.out, HBV.out]; exact HP.out, HBP.out⟩
            case measure => simp [intOf]; omega
          · have hzb : (s.z != 0) = false := by simp [hz]
            rw [hzb] at HBV hb
            clear hz
            go_wp2_with (first
              | (at_builtin
                 refine wpList_append_any _ rfl (.tmp 27) (.tmp 28) _ rfl w.heap.size 5 i0 _ 1 1 Tryd.underlying22 hi0 hz0 hz1 hz2 rfl (by decide) _ ((S.take k).flatMap bVl).length (bcells ((S.take k).flatMap bVl)) rfl (World.ownsRow.alloc HWA.out _) (wa.heap.size + 1) (some ⟨wa.heap.size, 0, none⟩) 1 1 (bcells (bBool false)) rfl (reads_lit wa 5 [_]) (bcells_one _) (by simp only [maxLen]; omega) (by omega) (by simp; omega) ?_
                 intro v3 w3 ho3 hg3 hat3
                 have HP : Hid (Rb w3 w.heap.size v3 ((S.take k).flatMap bVl ++ bBool false)) := (by unfold Hid Rb; rw [bcells_append, List.length_append]; exact ho3)
                 have HBP : Hid (Below w.heap.size w w3) := HBA.out.trans (((Below.refl _ _).alloc hza _).grown hg3 (by simp; omega) (fun x hx => (HWA.out.lt x hx).1))
                 clear ho3 hg3 hat3))
            go_roundw
            case rel => exact ⟨k + 1, v3, by omega, rfl, by go_num, by rw [flat_take bVl S k s HSK.out, HBV.out]; exact HP.out, HBP.out⟩
            case measure => simp [intOf]; omega
      ·
        by_cases k2 : s.k = 2
        · as_aux_lemma =>
            have n1 : (s.k == 1) = false := by simp [k1]
            have n2 : (s.k == 2) = true := by simp [k2]
            have hbv : bVl s = bByte (s.z % 256) := by simp [bVl, k2]
            have hb := HLEN.out
            rw [hbv] at hb
            have HBV := Lib.hid hbv
            clear hbv
            clear k1 k2
            have HC := Lib.hid (bByte_cell (s.z % 256) (by omega) (by omega))
            go_wp2_with (first
              | (at_builtin
                 refine wpList_append_any _ rfl (.tmp 32) (.tmp 36) _ rfl w.heap.size 5 i0 _ 1 1 Tryd.underlying22 hi0 hz0 hz1 hz2 rfl (by decide) _ ((S.take k).flatMap bVl).length (bcells ((S.take k).flatMap bVl)) rfl (World.ownsRow.alloc HWA.out _) (wa.heap.size + 1) (some ⟨wa.heap.size, 0, none⟩) 1 1 (bcells (bByte (s.z % 256))) rfl (by rw [HC.out]; exact reads_lit wa 5 [_]) (bcells_one _) (by simp only [maxLen]; omega) (by omega) (by simp; omega) ?_
                 intro v3 w3 ho3 hg3 hat3
                 have HP : Hid (Rb w3 w.heap.size v3 ((S.take k).flatMap bVl ++ bByte (s.z % 256))) := (by unfold Hid Rb; rw [bcells_append, List.length_append]; exact ho3)
                 have HBP : Hid (Below w.heap.size w w3) := HBA.out.trans (((Below.refl _ _).alloc hza _).grown hg3 (by simp; omega) (fun x hx => (HWA.out.lt x hx).1))
                 clear ho3 hg3 hat3))
            go_roundw
            case rel => exact ⟨k + 1, v3, by omega, rfl, by go_num, by rw [flat_take bVl S k s HSK.out, HBV.out]; exact HP.out, HBP.out⟩
            case measure => simp [intOf]; omega
        ·
          by_cases k3 : s.k = 3
          · as_aux_lemma =>
              have n1 : (s.k == 1) = false := by simp [k1]
              have n2 : (s.k == 2) = false := by simp [k2]
              have n3 : (s.k == 3) = true := by simp [k3]
              have hbv : bVl s = bInt s.z := by simp [bVl, k3]
              have hb := HLEN.out
              rw [hbv] at hb
              have HBV := Lib.hid hbv
              clear hbv
              clear k1 k2 k3
              go_wp2_with (first
                | (go_at_call 61
                   have hrd := refPut4 w.heap.size _ _ (IntKind.u64.wrap s.z) s.z wa (u64_wrap_bd _).1 (u64_wrap_bd _).2 (by rw [IntKind.wrap_u64]; omega) HWA.out hza (by omega)
                   with_reducible refine hrd.mono ?_
                   clear hrd
                   rintro e w3 ⟨v3, rfl, hr3, hb3, hk3⟩
                   have HKP := Lib.hid hk3
                   have HP := Lib.hid hr3
                   have HBP := Lib.hid (HBA.out.trans hb3)
                   clear hr3 hb3 hk3))
              go_roundw
              case rel => exact ⟨k + 1, v3, by omega, rfl, by go_num, by rw [flat_take bVl S k s HSK.out, HBV.out]; exact HP.out, HBP.out⟩
              case measure => simp [intOf]; omega
          ·
            by_cases k7 : s.k = 7
            · as_aux_lemma =>
                have n1 : (s.k == 1) = false := by simp [k1]
                have n2 : (s.k == 2) = false := by simp [k2]
                have n3 : (s.k == 3) = false := by simp [k3]
                have n7 : (s.k == 7) = true := by simp [k7]
                have hbv : bVl s = bInt s.z := by simp [bVl, k7]
                have hb := HLEN.out
                rw [hbv] at hb
                have HBV := Lib.hid hbv
                clear hbv
                clear k1 k2 k3 k7
                go_wp2_with (first
                  | (go_at_call 61
                     have hrd := refPut4 w.heap.size _ _ (IntKind.u64.wrap s.z) s.z wa (u64_wrap_bd _).1 (u64_wrap_bd _).2 (by rw [IntKind.wrap_u64]; omega) HWA.out hza (by omega)
                     with_reducible refine hrd.mono ?_
                     clear hrd
                     rintro e w3 ⟨v3, rfl, hr3, hb3, hk3⟩
                     have HKP := Lib.hid hk3
                     have HP := Lib.hid hr3
                     have HBP := Lib.hid (HBA.out.trans hb3)
                     clear hr3 hb3 hk3))
                go_roundw
                case rel => exact ⟨k + 1, v3, by omega, rfl, by go_num, by rw [flat_take bVl S k s HSK.out, HBV.out]; exact HP.out, HBP.out⟩
                case measure => simp [intOf]; omega
            ·
              by_cases k4 : s.k = 4
              · as_aux_lemma =>
                  have n1 : (s.k == 1) = false := by simp [k1]
                  have n2 : (s.k == 2) = false := by simp [k2]
                  have n3 : (s.k == 3) = false := by simp [k3]
                  have n7 : (s.k == 7) = false := by simp [k7]
                  have n4 : (s.k == 4) = true := by simp [k4]
                  have hbv : bVl s = bLong s.z := by simp [bVl, k4]
                  have hb := HLEN.out
                  rw [hbv] at hb
                  have HBV := Lib.hid hbv
                  clear hbv
                  clear k1 k2 k3 k7 k4
                  go_wp2_with (first
                    | (go_at_call 61
                       have hrd := refPut8 w.heap.size _ _ s.z wa HWA.out hza (by omega)
                       with_reducible refine hrd.mono ?_
                       clear hrd
                       rintro e w3 ⟨v3, rfl, hr3, hb3, hk3⟩
                       have HKP := Lib.hid hk3
                       have HP := Lib.hid hr3
                       have HBP := Lib.hid (HBA.out.trans hb3)
                       clear hr3 hb3 hk3))
                  go_roundw
                  case rel => exact ⟨k + 1, v3, by omega, rfl, by go_num, by rw [flat_take bVl S k s HSK.out, HBV.out]; exact HP.out, HBP.out⟩
                  case measure => simp [intOf]; omega
              ·
                by_cases k5 : s.k = 5
                · as_aux_lemma =>
                    have n1 : (s.k == 1) = false := by simp [k1]
                    have n2 : (s.k == 2) = false := by simp [k2]
                    have n3 : (s.k == 3) = false := by simp [k3]
                    have n7 : (s.k == 7) = false := by simp [k7]
                    have n4 : (s.k == 4) = false := by simp [k4]
                    have n5 : (s.k == 5) = true := by simp [k5]
                    have hbv : bVl s = bBuf s.t.data.toList := by simp [bVl, k5]
                    have hb := HLEN.out
                    rw [hbv] at hb
                    have HBV := Lib.hid hbv
                    clear hbv
                    clear k1 k2 k3 k7 k4 k5
                    go_wp2_with (first
                      | (go_at_call 62
                         have hrd := refText_any w.heap.size _ _ s.t wa HWA.out hza (by rw [bBuf_len, ← bsize_eq] at hb; omega)
                         with_reducible refine hrd.mono ?_
                         clear hrd
                         rintro e w3 ⟨v3, rfl, hr3, hb3, hk3⟩
                         have HKP := Lib.hid hk3
                         have HP := Lib.hid hr3
                         have HBP := Lib.hid (HBA.out.trans hb3)
                         clear hr3 hb3 hk3))
                    go_roundw
                    case rel => exact ⟨k + 1, v3, by omega, rfl, by go_num, by rw [flat_take bVl S k s HSK.out, HBV.out]; exact HP.out, HBP.out⟩
                    case measure => simp [intOf]; omega
                ·
                  by_cases k6 : s.k = 6
                  · as_aux_lemma =>
                      have n1 : (s.k == 1) = false := by simp [k1]
                      have n2 : (s.k == 2) = false := by simp [k2]
                      have n3 : (s.k == 3) = false := by simp [k3]
                      have n7 : (s.k == 7) = false := by simp [k7]
                      have n4 : (s.k == 4) = false := by simp [k4]
                      have n5 : (s.k == 5) = false := by simp [k5]
                      have n6 : (s.k == 6) = true := by simp [k6]
                      have hbv : bVl s = bBuf s.t.data.toList := by simp [bVl, k6]
                      have hb := HLEN.out
                      rw [hbv] at hb
                      have HBV := Lib.hid hbv
                      clear hbv
                      clear k1 k2 k3 k7 k4 k5 k6
                      go_wp2_with (first
                        | (go_at_call 62
                           have hrd := refText_any w.heap.size _ _ s.t wa HWA.out hza (by rw [bBuf_len, ← bsize_eq] at hb; omega)
                           with_reducible refine hrd.mono ?_
                           clear hrd
                           rintro e w3 ⟨v3, rfl, hr3, hb3, hk3⟩
                           have HKP := Lib.hid hk3
                           have HP := Lib.hid hr3
                           have HBP := Lib.hid (HBA.out.trans hb3)
                           clear hr3 hb3 hk3))
                      go_roundw
                      case rel => exact ⟨k + 1, v3, by omega, rfl, by go_num, by rw [flat_take bVl S k s HSK.out, HBV.out]; exact HP.out, HBP.out⟩
                      case measure => simp [intOf]; omega
                  ·
                    by_cases k8 : s.k = 8
                    · as_aux_lemma =>
                        have n1 : (s.k == 1) = false := by simp [k1]
                        have n2 : (s.k == 2) = false := by simp [k2]
                        have n3 : (s.k == 3) = false := by simp [k3]
                        have n7 : (s.k == 7) = false := by simp [k7]
                        have n4 : (s.k == 4) = false := by simp [k4]
                        have n5 : (s.k == 5) = false := by simp [k5]
                        have n6 : (s.k == 6) = false := by simp [k6]
                        have n8 : (s.k == 8) = true := by simp [k8]
                        have hbv : bVl s = bInt s.n ++ bTexts s.L := by simp [bVl, k8]
                        have hb := HLEN.out
                        rw [hbv] at hb
                        have HBV := Lib.hid hbv
                        clear hbv
                        clear k1 k2 k3 k7 k4 k5 k6 k8
                        have hLn : s.L.length = s.n := by have := HR.out.1; rw [scells_length] at this; omega
                        go_wp2_with (first
                          | (go_at_call 61
                             have hrd := refPut4 w.heap.size _ _ (s.n : Int) s.n wa (by omega) (by omega) rfl HWA.out hza (by omega)
                             with_reducible refine hrd.mono ?_
                             clear hrd
                             rintro e w3 ⟨v3, rfl, hr3, hb3, hk3⟩
                             have HKP := Lib.hid hk3
                             have HP := Lib.hid hr3
                             have HBP := Lib.hid (HBA.out.trans hb3)
                             clear hr3 hb3 hk3))
                        have hk3 := HKP.out _ _ _ (by decide) HBK.out
                        have HK3 := Lib.hid hk3
                        have hzl := HBP.out.size
                        go_loopw [3, 6] (fun u i wx => ∃ (m : Nat) (v4 : Value), m ≤ s.L.length ∧ u = v4 ∧ i = .int .i64 m ∧ Rb wx w.heap.size v4 ((S.take k).flatMap bVl ++ (bInt s.n ++ bTexts (s.L.take m))) ∧ Below w.heap.size w wx ∧ Blk wx wo.heap.size 68 #[.int .i64 s.k, .int .i64 s.z, .string s.t, .slice s.A s.n s.c]) (fun _ i _ => s.L.length - (intOf i).toNat)
                        case atStart => exact ⟨0, _, Nat.zero_le _, rfl, rfl, by simpa [bTexts] using HP.out, HBP.out, HK3.out⟩
                        case round =>
                          clear HP HBP HKP HK3 hk3
                          obtain ⟨m, v4, hm, rfl, rfl, hp4, hb4, hB4⟩ := hrel
                          have d3 : wr.cell? ⟨wo.heap.size, 3, none⟩ = some (.slice s.A s.n s.c) := by rw [hB4.cell 3]; rfl
                          have HP4 := Lib.hid hp4
                          have HB4 := Lib.hid hb4
                          have HK4 := Lib.hid hB4
                          have hz4 := hb4.size
                          clear hp4 hb4 hB4
                          by_cases hlt2 : m < s.L.length
                          · obtain ⟨ad, u, e, _, hu, hcell⟩ := ((HL.out s HSM.out).1.below HB4.out).at_ (by rw [← hLn]; exact hlt2)
                            have hget : u = .string (s.L[m]) := by
                              simp only [scells, List.getElem?_map, List.getElem?_eq_getElem hlt2, Option.map_some, Option.some.injEq] at hu
                              exact hu.symm
                            subst hget
                            rw [e] at d3
                            clear e
                            have hle : (bTexts (s.L.take m)).length + (bBuf s.L[m].data.toList).length ≤ (bTexts s.L).length := by
                              have e : bTexts s.L = bTexts (s.L.take m) ++ bBuf s.L[m].data.toList ++ bTexts (s.L.drop (m + 1)) := by
                                rw [← bTexts_snoc, ← List.take_succ_eq_append_getElem hlt2]
                                simp only [bTexts, ← List.flatMap_append, List.take_append_drop]
                              rw [e, List.length_append, List.length_append]
                              omega
                            rw [bBuf_len, ← bsize_eq] at hle
                            clear hu
                            go_wp2_with (first
                              | (go_at_call 62
                                 have hrd := refText_any w.heap.size _ _ s.L[m] wr HP4.out hz4 (by simp only [List.length_append, bInt_len] at hb ⊢; omega)
                                 with_reducible refine hrd.mono ?_
                                 clear hrd
                                 rintro e w5 ⟨v5, rfl, hr5, hb5, hk5⟩
                                 have HP5 := Lib.hid hr5
                                 have HB5 := Lib.hid (HB4.out.trans hb5)
                                 have HK5 := Lib.hid (hk5 _ _ _ (by decide) HK4.out)
                                 clear hr5 hb5 hk5))
                            go_roundw
                            case rel => exact ⟨m + 1, _, by omega, rfl, by go_num, by rw [List.take_succ_eq_append_getElem hlt2, bTexts_snoc, ← List.append_assoc, ← List.append_assoc]; rw [← List.append_assoc] at HP5; exact HP5.out, HB5.out, HK5.out⟩
                            case measure => simp [intOf]; omega
                          · have HM : Hid (m = s.L.length) := by unfold Hid; omega
                            go_wp2
                            go_roundw
                            case rel => exact ⟨k + 1, _, by omega, rfl, by go_num, by have h := HP4.out; rw [HM.out, List.take_length] at h; rw [flat_take bVl S k s HSK.out, HBV.out]; exact h, HB4.out⟩
                            case measure => simp [intOf]; omega
                    ·
                      as_aux_lemma =>
                        have n1 : (s.k == 1) = false := by simp [k1]
                        have n2 : (s.k == 2) = false := by simp [k2]
                        have n3 : (s.k == 3) = false := by simp [k3]
                        have n4 : (s.k == 4) = false := by simp [k4]
                        have n5 : (s.k == 5) = false := by simp [k5]
                        have n6 : (s.k == 6) = false := by simp [k6]
                        have n7 : (s.k == 7) = false := by simp [k7]
                        have n8 : (s.k == 8) = false := by simp [k8]
                        have hbv : bVl s = [] := by simp [bVl, k1, k2, k3, k4, k5, k6, k7, k8]
                        have HBV := Lib.hid hbv
                        clear hbv k1 k2 k3 k4 k5 k6 k7 k8
                        go_wp2
                        go_roundw
                        case rel => exact ⟨k + 1, _, by omega, rfl, by go_num, by rw [flat_take bVl S k s HSK.out, HBV.out, List.append_nil]; exact HWA.out, HBA.out⟩
                        case measure => simp [intOf]; omega
    · have HK : Hid (k = S.length) := by unfold Hid; omega
      go_wp2
      go_ret
      have hW := HW.out
      rw [HK.out, List.take_length] at hW
      exact ⟨_, rfl, hW, HBW.out⟩
end Go.Proofs.YtbegingiedbldaaDoor
