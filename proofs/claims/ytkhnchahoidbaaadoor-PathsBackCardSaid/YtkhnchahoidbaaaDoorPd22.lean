/- Split by the program: the walk. -/
import Derived.Test.YtkhnchahoidbaaaDoorPd21
import Derived.Lib.AtoiErrMem
namespace Go.Proofs.YtkhnchahoidbaaaDoor
open Go.RowKit

section
variable (t : ByteArray) (ht : t.size ≤ 281474976710656) (W : World) (es er : Value) (h2 : W.cell? ⟨2, 0, none⟩ = some es) (hes : es = .nilIface ∨ ∃ te pe, es = .iface te pe) (h3 : W.cell? ⟨3, 0, none⟩ = some er) (her : er = .nilIface ∨ ∃ te pe, er = .iface te pe)
theorem pi_ok (v : Int) (ht : t.size ≤ 281474976710656) (h : Lib.parseIntB 32 t.data.toList = .ok v) (W : World) : Calls Tryd.prog 41 #[.string t, .int .i64 10, .int .i64 32] W fun e w' => e = .returned (.tuple #[.int .i64 v, .nilIface]) ∧ Below W.heap.size W w' := by
  refine (Tryd.strconv_ParseInt_10_at32_ok t (by omega) v h W).mono ?_
  rintro e w' ⟨rfl, rfl | ⟨x, rfl⟩⟩
  · exact ⟨rfl, Below.refl _ _⟩
  · exact ⟨rfl, Lib.bytesWorld_below _ _ _⟩
include ht h2 hes h3 her in
theorem pi_err (h : ∀ v, Lib.parseIntB 32 t.data.toList ≠ .ok v) : Calls Tryd.prog 41 #[.string t, .int .i64 10, .int .i64 32] W fun e w' => (∃ v N, e = .returned (.tuple #[.int .i64 v, .iface 96 (.pointer (some ⟨N, 0, none⟩))])) ∧ Below W.heap.size W w' := by
  rcases hx : Lib.parseIntB 32 t.data.toList with v | - | -
  · exact absurd hx (h v)
  · refine (Any.strconv_ParseInt_10_at32_syntax Tryd.laysC174 t ht hx es W h2 hes).mono ?_
    rintro e w' ⟨N, rfl, _, _, hb⟩
    exact ⟨⟨_, _, rfl⟩, hb⟩
  · refine (Tryd.strconv_ParseInt_10_at32_range t ht hx er W h3 her).mono ?_
    rintro e w' ⟨N, rfl, _, _, hb⟩
    exact ⟨⟨_, _, rfl⟩, hb⟩
end

theorem head10 (p : ByteArray) (h : p.size = 10) : ((checkOf (headS p ++ ⟨#[49]⟩)).1 == 0) = false := by
  have e : headS p = ⟨#[]⟩ := by
    unfold headS
    rw [h, Lib.extract_eq]
    simp
  rw [e]
  decide

set_option maxRecDepth 100000 in
set_option maxHeartbeats 2000000 in
theorem split_any (p : ByteArray) (hp : p.size ≤ 140737488355327) (w : World) (m : Int) (hm : w.cell? ⟨0, 0, none⟩ = some (.int .i64 m)) (hG : 3 < w.heap.size)
    (es er : Value) (h2 : w.cell? ⟨2, 0, none⟩ = some es) (hes : es = .nilIface ∨ ∃ te pe, es = .iface te pe) (h3 : w.cell? ⟨3, 0, none⟩ = some er) (her : er = .nilIface ∨ ∃ te pe, er = .iface te pe) :
    Calls Tryd.prog 23 #[.string p] w fun e w' => e = .returned (.tuple #[.string (splT p), .int .i32 (splV p), .bool (splB p)]) ∧ Below w.heap.size w w' := by
  have HR : Hid (∀ (t : ByteArray) (n : Int) (b : Bool), ((splO p = some n ∧ t = headS p ∧ b = true) ∨ (splO p = none ∧ t = ⟨#[]⟩ ∧ n = 0 ∧ b = false)) → Ending.returned (.tuple #[.string t, .int .i32 n, .bool b]) = .returned (.tuple #[.string (splT p), .int .i32 (splV p), .bool (splB p)])) := fun t n b h => spl_ret h
  have hO : splO p = if preB p = true then splN (tailS p) else none := rfl
  have HV : Hid (Calls Tryd.prog 28 #[.string p] w fun e w' => e = .returned (.bool (okB p)) ∧ Below w.heap.size w w') := valid_ok p w m hm (by omega)
  have hc0 : ∀ W, Below w.heap.size w W → W.cell? ⟨0, 0, none⟩ = some (.int .i64 m) := fun W hB => by rw [hB.cell (p := ⟨0, 0, none⟩) (by show 0 < _; omega)]; exact hm
  have hc2 : ∀ W, Below w.heap.size w W → W.cell? ⟨2, 0, none⟩ = some es := fun W hB => by rw [hB.cell (p := ⟨2, 0, none⟩) (by show 2 < _; omega)]; exact h2
  have hc3 : ∀ W, Below w.heap.size w W → W.cell? ⟨3, 0, none⟩ = some er := fun W hB => by rw [hB.cell (p := ⟨3, 0, none⟩) (by show 3 < _; omega)]; exact h3
  clear hm h2 h3
  generalize splT p = sT at HR ⊢
  generalize splV p = sV at HR ⊢
  generalize splB p = sB at HR ⊢
  rcases Bool.eq_false_or_eq_true (okB p) with g1 | g1
  · by_cases g2 : 10 ≤ p.size
    · have hhs : (headS p).size ≤ 140737488355327 := by unfold headS; simp only [ByteArray.size_extract]; omega
      have HP : Hid (∀ W, Below w.heap.size w W → Calls Tryd.prog 36 #[.string (p.extract 0 (p.size - 10))] W fun e w' => e = .returned (.tuple #[.int .i64 (checkOf (headS p ++ ⟨#[49]⟩)).1, .int .i64 (checkOf (headS p ++ ⟨#[49]⟩)).2]) ∧ Below w.heap.size w w') :=
        fun W hB => (prefix_any _ hhs W m (hc0 W hB) (Nat.lt_of_lt_of_le (by omega) hB.size)).mono fun _ _ ⟨he, hb⟩ => ⟨he, hB.trans (hb.mono hB.size)⟩
      have htz : (tailS p).size = 10 := by unfold tailS; simp only [ByteArray.size_extract]; omega
      have t1 := tail1 (tailS p) htz
      have HD : Hid (∀ W, Below w.heap.size w W → Calls Tryd.prog 42 #[.string (p.extract (p.size - 10) p.size)] W fun e w' => e = .returned (.bool (digB (tailS p))) ∧ Below w.heap.size w w') :=
        fun W hB => (decimal_any (tailS p) W).mono fun _ _ ⟨he, hb⟩ => ⟨he, hB.trans (hb.mono hB.size)⟩
      have HD1 : Hid (∀ W, Below w.heap.size w W → Calls Tryd.prog 42 #[.string ((p.extract (p.size - 10) p.size).extract 1 (p.size - (p.size - 10)))] W fun e w' => e = .returned (.bool (digN (tailS p) 1 9)) ∧ Below w.heap.size w w') := fun W hB => by
        have := decimal_any ((tailS p).extract 1 (tailS p).size) W
        rw [t1.2.1, htz] at this
        rw [show p.size - (p.size - 10) = 10 by omega]
        exact this.mono fun _ _ ⟨he, hb⟩ => ⟨he, hB.trans (hb.mono hB.size)⟩
      have HPO : Hid (∀ v, Lib.parseIntB 32 (tailS p).data.toList = .ok v → ∀ W, Below w.heap.size w W → Calls Tryd.prog 41 #[.string (p.extract (p.size - 10) p.size), .int .i64 10, .int .i64 32] W fun e w' => e = .returned (.tuple #[.int .i64 v, .nilIface]) ∧ Below w.heap.size w w') :=
        fun v hv W hB => (pi_ok (tailS p) v (by omega) hv W).mono fun _ _ ⟨he, hb⟩ => ⟨he, hB.trans (hb.mono hB.size)⟩
      have HPE : Hid ((∀ v, Lib.parseIntB 32 (tailS p).data.toList ≠ .ok v) → ∀ W, Below w.heap.size w W → Calls Tryd.prog 41 #[.string (p.extract (p.size - 10) p.size), .int .i64 10, .int .i64 32] W fun e w' => (∃ v N, e = .returned (.tuple #[.int .i64 v, .iface 96 (.pointer (some ⟨N, 0, none⟩))])) ∧ Below w.heap.size w w') :=
        fun hv W hB => (pi_err (tailS p) (by omega) W es er (hc2 W hB) hes (hc3 W hB) her hv).mono fun _ _ ⟨he, hb⟩ => ⟨he, hB.trans (hb.mono hB.size)⟩
      have hx : ∀ (kd : IntKind) (W : World), (Instr.index 9 (.string (p.extract (p.size - 10) p.size)) (.int kd 0)).run Tryd.prog W = .ok (.int .u8 (byteAt (tailS p) 0 : Int)) W := fun kd W => run_byte_at (P := Tryd.prog) W 9 (tailS p) kd 0 0 Tryd.underlying9 rfl (by omega)
      have hpre : preB p = ((checkOf (headS p ++ ⟨#[49]⟩)).1 == 0) := by
        by_cases h11 : 11 ≤ p.size
        · unfold preB; rw [g1, decide_eq_true h11]; rfl
        · rw [head10 p (by omega)]; unfold preB; rw [decide_eq_false h11, Bool.and_false, Bool.false_and]
      have hcut : (p.size : Int) - 10 = ((p.size - 10 : Nat) : Int) := by omega
      have hbl := byteAt_lt (tailS p) 0
      have hPD : digB (tailS p) = true → Lib.parseIntB 32 (tailS p).data.toList = if valB (tailS p) ≤ 2147483647 then .ok (valB (tailS p) : Int) else .range := parse_dig (tailS p) htz
      have hPN : byteAt (tailS p) 0 = 45 → digN (tailS p) 1 9 = true → Lib.parseIntB 32 (tailS p).data.toList = .ok (-(valN (tailS p) 1 9 : Int)) := parse_neg (tailS p) htz
      have hv9 : digN (tailS p) 1 9 = true → valN (tailS p) 1 9 < 1000000000 := fun h => valN_lt (tailS p) 1 9 h
      have hN : splN (tailS p) = if digB (tailS p) = true then (if valB (tailS p) ≤ 2147483647 then some (valB (tailS p) : Int) else none) else if (decide (byteAt (tailS p) 0 = 45) && digN (tailS p) 1 9 && decide (0 < valN (tailS p) 1 9)) = true then some (-(valN (tailS p) 1 9 : Int)) else none := rfl
      have hok : (∃ v, Lib.parseIntB 32 (tailS p).data.toList = .ok v) ∨ (∀ v, Lib.parseIntB 32 (tailS p).data.toList ≠ .ok v) := by
        rcases hx : Lib.parseIntB 32 (tailS p).data.toList with v | - | -
        · exact .inl ⟨v, rfl⟩
        · exact .inr (fun v h => by cases h)
        · exact .inr (fun v h => by cases h)
      unfold headS at HP hpre HR
      generalize Lib.parseIntB 32 (tailS p).data.toList = pe at HPO HPE hPD hPN hok
      generalize tailS p = tl at *
      generalize checkOf (p.extract 0 (p.size - 10) ++ ⟨#[49]⟩) = cc at HP hpre
      rw [hpre] at hO
      clear hpre t1 hhs hc0 hc2 hc3 hes her
      rcases Bool.eq_false_or_eq_true (cc.1 == 0) with g3 | g3
      · have g3' : (cc.1 != 0) = false := by rw [bne, g3]; rfl
        rw [g3, if_pos rfl] at hO
        rcases Bool.eq_false_or_eq_true (digB tl) with g4 | g4
        · rw [g4] at HD
          rw [g4, if_pos rfl] at hN
          have hpd := hPD g4
          generalize valB tl = vb at *
          by_cases g5 : vb ≤ 2147483647
          · rw [if_pos g5] at hN hpd
            have HO := Lib.hid (hO.trans hN)
            have HPI := Lib.hid (HPO.out _ hpd)
            clear hO hN hv9 hPD hPN hok HPO HPE hpd
            go_enter Tryd.func23, Tryd.ntmps23
            go_wp2_with (go_at_call 28; refine HV.out.mono ?_; rintro e w1 ⟨rfl, hb1⟩; rw [g1])
            go_quiet (fail)
            go_wp2_with (first
              | (go_at_call 36; refine (HP.out _ (below_drewN' hb1 _)).mono ?_; rintro e w2 ⟨rfl, hb2⟩)
              | (go_at_call 41; refine (HPI.out _ hb2).mono ?_; rintro e w3 ⟨rfl, hb3⟩)
              | (go_at_call 41; refine (HPI.out _ hb2).mono ?_; rintro e w3 ⟨⟨vv, NN, rfl⟩, hb3⟩)
              | (go_at_call 42; have F0 := F9; refine (HD1.out _ hb4).mono ?_; rintro e w5 ⟨rfl, hb5⟩)
              | (go_at_call 42; refine (HD.out _ hb3).mono ?_; rintro e w4 ⟨rfl, hb4⟩; have F9 := trivial))
            all_goals
              go_ret3
              exact ⟨HR.out _ _ _ (.inl ⟨HO.out, rfl, rfl⟩), (by first | exact hb5 | exact hb4 | exact hb3 | exact hb2)⟩
          · rw [if_neg g5] at hN hpd
            have HO := Lib.hid (hO.trans hN)
            have HPI := Lib.hid (HPE.out (fun v h => by rw [hpd] at h; cases h))
            clear hO hN hv9 hPD hPN hok HPO HPE hpd
            go_enter Tryd.func23, Tryd.ntmps23
            go_wp2_with (go_at_call 28; refine HV.out.mono ?_; rintro e w1 ⟨rfl, hb1⟩; rw [g1])
            go_quiet (fail)
            go_wp2_with (first
              | (go_at_call 36; refine (HP.out _ (below_drewN' hb1 _)).mono ?_; rintro e w2 ⟨rfl, hb2⟩)
              | (go_at_call 41; refine (HPI.out _ hb2).mono ?_; rintro e w3 ⟨rfl, hb3⟩)
              | (go_at_call 41; refine (HPI.out _ hb2).mono ?_; rintro e w3 ⟨⟨vv, NN, rfl⟩, hb3⟩)
              | (go_at_call 42; have F0 := F9; refine (HD1.out _ hb4).mono ?_; rintro e w5 ⟨rfl, hb5⟩)
              | (go_at_call 42; refine (HD.out _ hb3).mono ?_; rintro e w4 ⟨rfl, hb4⟩; have F9 := trivial))
            all_goals
              go_ret3
              exact ⟨HR.out _ _ _ (.inr ⟨HO.out, rfl, rfl, rfl⟩), (by first | exact hb5 | exact hb4 | exact hb3 | exact hb2)⟩
        · rw [g4] at HD
          rw [g4, if_neg (by decide)] at hN
          by_cases g6 : byteAt tl 0 = 45
          · rw [decide_eq_true g6, Bool.true_and] at hN
            rcases Bool.eq_false_or_eq_true (digN tl 1 9) with g7 | g7
            · have hv := hv9 g7
              have hpn := hPN g6 g7
              have HPI := Lib.hid (HPO.out _ hpn)
              rw [g7] at HD1
              rw [g7, Bool.true_and] at hN
              generalize valN tl 1 9 = vn at *
              by_cases g8 : 0 < vn
              · rw [decide_eq_true g8, if_pos rfl] at hN
                have HO := Lib.hid (hO.trans hN)
                clear hO hN hv9 hPD hPN hok HPO HPE hpn
                go_enter Tryd.func23, Tryd.ntmps23
                go_wp2_with (go_at_call 28; refine HV.out.mono ?_; rintro e w1 ⟨rfl, hb1⟩; rw [g1])
                go_quiet (fail)
                go_wp2_with (first
                  | (go_at_call 36; refine (HP.out _ (below_drewN' hb1 _)).mono ?_; rintro e w2 ⟨rfl, hb2⟩)
                  | (go_at_call 41; refine (HPI.out _ hb2).mono ?_; rintro e w3 ⟨rfl, hb3⟩)
                  | (go_at_call 41; refine (HPI.out _ hb2).mono ?_; rintro e w3 ⟨⟨vv, NN, rfl⟩, hb3⟩)
                  | (go_at_call 42; have F0 := F9; refine (HD1.out _ hb4).mono ?_; rintro e w5 ⟨rfl, hb5⟩)
                  | (go_at_call 42; refine (HD.out _ hb3).mono ?_; rintro e w4 ⟨rfl, hb4⟩; have F9 := trivial))
                all_goals
                  go_ret3
                  exact ⟨HR.out _ _ _ (.inl ⟨HO.out, rfl, rfl⟩), (by first | exact hb5 | exact hb4 | exact hb3 | exact hb2)⟩
              · rw [decide_eq_false g8, if_neg (by decide)] at hN
                have HO := Lib.hid (hO.trans hN)
                clear hO hN hv9 hPD hPN hok HPO HPE hpn
                go_enter Tryd.func23, Tryd.ntmps23
                go_wp2_with (go_at_call 28; refine HV.out.mono ?_; rintro e w1 ⟨rfl, hb1⟩; rw [g1])
                go_quiet (fail)
                go_wp2_with (first
                  | (go_at_call 36; refine (HP.out _ (below_drewN' hb1 _)).mono ?_; rintro e w2 ⟨rfl, hb2⟩)
                  | (go_at_call 41; refine (HPI.out _ hb2).mono ?_; rintro e w3 ⟨rfl, hb3⟩)
                  | (go_at_call 41; refine (HPI.out _ hb2).mono ?_; rintro e w3 ⟨⟨vv, NN, rfl⟩, hb3⟩)
                  | (go_at_call 42; have F0 := F9; refine (HD1.out _ hb4).mono ?_; rintro e w5 ⟨rfl, hb5⟩)
                  | (go_at_call 42; refine (HD.out _ hb3).mono ?_; rintro e w4 ⟨rfl, hb4⟩; have F9 := trivial))
                all_goals
                  go_ret3
                  exact ⟨HR.out _ _ _ (.inr ⟨HO.out, rfl, rfl, rfl⟩), (by first | exact hb5 | exact hb4 | exact hb3 | exact hb2)⟩
            · rw [g7] at HD1
              rw [g7, Bool.false_and, if_neg (by decide)] at hN
              have HO := Lib.hid (hO.trans hN)
              rcases hok with ⟨v, hpv⟩ | hpv
              · have HPI := Lib.hid (HPO.out _ hpv)
                clear hO hN hv9 hPD hPN HPO HPE hpv
                go_enter Tryd.func23, Tryd.ntmps23
                go_wp2_with (go_at_call 28; refine HV.out.mono ?_; rintro e w1 ⟨rfl, hb1⟩; rw [g1])
                go_quiet (fail)
                go_wp2_with (first
                  | (go_at_call 36; refine (HP.out _ (below_drewN' hb1 _)).mono ?_; rintro e w2 ⟨rfl, hb2⟩)
                  | (go_at_call 41; refine (HPI.out _ hb2).mono ?_; rintro e w3 ⟨rfl, hb3⟩)
                  | (go_at_call 41; refine (HPI.out _ hb2).mono ?_; rintro e w3 ⟨⟨vv, NN, rfl⟩, hb3⟩)
                  | (go_at_call 42; have F0 := F9; refine (HD1.out _ hb4).mono ?_; rintro e w5 ⟨rfl, hb5⟩)
                  | (go_at_call 42; refine (HD.out _ hb3).mono ?_; rintro e w4 ⟨rfl, hb4⟩; have F9 := trivial))
                all_goals
                  go_ret3
                  exact ⟨HR.out _ _ _ (.inr ⟨HO.out, rfl, rfl, rfl⟩), (by first | exact hb5 | exact hb4 | exact hb3 | exact hb2)⟩
              · have HPI := Lib.hid (HPE.out hpv)
                clear hO hN hv9 hPD hPN HPO HPE hpv
                go_enter Tryd.func23, Tryd.ntmps23
                go_wp2_with (go_at_call 28; refine HV.out.mono ?_; rintro e w1 ⟨rfl, hb1⟩; rw [g1])
                go_quiet (fail)
                go_wp2_with (first
                  | (go_at_call 36; refine (HP.out _ (below_drewN' hb1 _)).mono ?_; rintro e w2 ⟨rfl, hb2⟩)
                  | (go_at_call 41; refine (HPI.out _ hb2).mono ?_; rintro e w3 ⟨rfl, hb3⟩)
                  | (go_at_call 41; refine (HPI.out _ hb2).mono ?_; rintro e w3 ⟨⟨vv, NN, rfl⟩, hb3⟩)
                  | (go_at_call 42; have F0 := F9; refine (HD1.out _ hb4).mono ?_; rintro e w5 ⟨rfl, hb5⟩)
                  | (go_at_call 42; refine (HD.out _ hb3).mono ?_; rintro e w4 ⟨rfl, hb4⟩; have F9 := trivial))
                all_goals
                  go_ret3
                  exact ⟨HR.out _ _ _ (.inr ⟨HO.out, rfl, rfl, rfl⟩), (by first | exact hb5 | exact hb4 | exact hb3 | exact hb2)⟩
          · rw [decide_eq_false g6, Bool.false_and, Bool.false_and, if_neg (by decide)] at hN
            have HO := Lib.hid (hO.trans hN)
            rcases hok with ⟨v, hpv⟩ | hpv
            · have HPI := Lib.hid (HPO.out _ hpv)
              clear hO hN hv9 hPD hPN HPO HPE hpv
              go_enter Tryd.func23, Tryd.ntmps23
              go_wp2_with (go_at_call 28; refine HV.out.mono ?_; rintro e w1 ⟨rfl, hb1⟩; rw [g1])
              go_quiet (fail)
              go_wp2_with (first
                | (go_at_call 36; refine (HP.out _ (below_drewN' hb1 _)).mono ?_; rintro e w2 ⟨rfl, hb2⟩)
                | (go_at_call 41; refine (HPI.out _ hb2).mono ?_; rintro e w3 ⟨rfl, hb3⟩)
                | (go_at_call 41; refine (HPI.out _ hb2).mono ?_; rintro e w3 ⟨⟨vv, NN, rfl⟩, hb3⟩)
                | (go_at_call 42; have F0 := F9; refine (HD1.out _ hb4).mono ?_; rintro e w5 ⟨rfl, hb5⟩)
                | (go_at_call 42; refine (HD.out _ hb3).mono ?_; rintro e w4 ⟨rfl, hb4⟩; have F9 := trivial))
              all_goals
                go_ret3
                exact ⟨HR.out _ _ _ (.inr ⟨HO.out, rfl, rfl, rfl⟩), (by first | exact hb5 | exact hb4 | exact hb3 | exact hb2)⟩
            · have HPI := Lib.hid (HPE.out hpv)
              clear hO hN hv9 hPD hPN HPO HPE hpv
              go_enter Tryd.func23, Tryd.ntmps23
              go_wp2_with (go_at_call 28; refine HV.out.mono ?_; rintro e w1 ⟨rfl, hb1⟩; rw [g1])
              go_quiet (fail)
              go_wp2_with (first
                | (go_at_call 36; refine (HP.out _ (below_drewN' hb1 _)).mono ?_; rintro e w2 ⟨rfl, hb2⟩)
                | (go_at_call 41; refine (HPI.out _ hb2).mono ?_; rintro e w3 ⟨rfl, hb3⟩)
                | (go_at_call 41; refine (HPI.out _ hb2).mono ?_; rintro e w3 ⟨⟨vv, NN, rfl⟩, hb3⟩)
                | (go_at_call 42; have F0 := F9; refine (HD1.out _ hb4).mono ?_; rintro e w5 ⟨rfl, hb5⟩)
                | (go_at_call 42; refine (HD.out _ hb3).mono ?_; rintro e w4 ⟨rfl, hb4⟩; have F9 := trivial))
              all_goals
                go_ret3
                exact ⟨HR.out _ _ _ (.inr ⟨HO.out, rfl, rfl, rfl⟩), (by first | exact hb5 | exact hb4 | exact hb3 | exact hb2)⟩
      · have g3' : (cc.1 != 0) = true := by rw [bne, g3]; rfl
        rw [g3, if_neg (by decide)] at hO
        have HO := Lib.hid hO
        have HPI : True := trivial
        clear hO hN hv9 hPD hPN hok HPO HPE
        go_enter Tryd.func23, Tryd.ntmps23
        go_wp2_with (go_at_call 28; refine HV.out.mono ?_; rintro e w1 ⟨rfl, hb1⟩; rw [g1])
        go_quiet (fail)
        go_wp2_with (first
          | (go_at_call 36; refine (HP.out _ (below_drewN' hb1 _)).mono ?_; rintro e w2 ⟨rfl, hb2⟩)
          | (go_at_call 41; refine (HPI.out _ hb2).mono ?_; rintro e w3 ⟨rfl, hb3⟩)
          | (go_at_call 41; refine (HPI.out _ hb2).mono ?_; rintro e w3 ⟨⟨vv, NN, rfl⟩, hb3⟩)
          | (go_at_call 42; have F0 := F9; refine (HD1.out _ hb4).mono ?_; rintro e w5 ⟨rfl, hb5⟩)
          | (go_at_call 42; refine (HD.out _ hb3).mono ?_; rintro e w4 ⟨rfl, hb4⟩; have F9 := trivial))
        all_goals
          go_ret3
          exact ⟨HR.out _ _ _ (.inr ⟨HO.out, rfl, rfl, rfl⟩), (by first | exact hb5 | exact hb4 | exact hb3 | exact hb2)⟩
    · have hpre : preB p = false := by unfold preB; rw [decide_eq_false (show ¬ 11 ≤ p.size by omega), Bool.and_false, Bool.false_and]
      rw [hpre, if_neg (by decide)] at hO
      have HO := Lib.hid hO
      clear hO hpre
      go_enter Tryd.func23, Tryd.ntmps23
      go_wp2_with (go_at_call 28; refine HV.out.mono ?_; rintro e w1 ⟨rfl, hb1⟩; rw [g1])
      go_ret3
      exact ⟨HR.out _ _ _ (.inr ⟨HO.out, rfl, rfl, rfl⟩), hb1⟩
  · have hpre : preB p = false := by unfold preB; rw [g1, Bool.false_and, Bool.false_and]
    rw [hpre, if_neg (by decide)] at hO
    have HO := Lib.hid hO
    clear hO hpre
    go_enter Tryd.func23, Tryd.ntmps23
    go_wp2_with (go_at_call 28; refine HV.out.mono ?_; rintro e w1 ⟨rfl, hb1⟩; rw [g1])
    go_ret3
    exact ⟨HR.out _ _ _ (.inr ⟨HO.out, rfl, rfl, rfl⟩), hb1⟩
end Go.Proofs.YtkhnchahoidbaaaDoor
