/- Split: what it tells, plainly; by the reference. -/
import Derived.Test.YtkhnchahoidbaaaDoorPd19
import Derived.Deep.QuietTactic
import Derived.BigQuiet
namespace Go.Proofs.YtkhnchahoidbaaaDoor
open Go.RowKit

def headS (p : ByteArray) : ByteArray := p.extract 0 (p.size - 10)
def tailS (p : ByteArray) : ByteArray := p.extract (p.size - 10) p.size
def preB (p : ByteArray) : Bool := okB p && decide (11 ≤ p.size) && ((checkOf (headS p ++ ⟨#[49]⟩)).1 == 0)
def negB (t : ByteArray) : Bool := decide (byteAt t 0 = 45) && digN t 1 9 && decide (0 < valN t 1 9)
def splN (t : ByteArray) : Option Int := if digB t = true then (if valB t ≤ 2147483647 then some (valB t : Int) else none) else if negB t = true then some (-(valN t 1 9 : Int)) else none
/-- the answer: the head, the number, was it so? -/
def splO (p : ByteArray) : Option Int := if preB p = true then splN (tailS p) else none
def splT (p : ByteArray) : ByteArray := if (splO p).isSome = true then headS p else ⟨#[]⟩
def splV (p : ByteArray) : Int := (splO p).getD 0
def splB (p : ByteArray) : Bool := (splO p).isSome
theorem spl_ret {p t : ByteArray} {n : Int} {b : Bool} (h : (splO p = some n ∧ t = headS p ∧ b = true) ∨ (splO p = none ∧ t = ⟨#[]⟩ ∧ n = 0 ∧ b = false)) :
    Ending.returned (.tuple #[.string t, .int .i32 n, .bool b]) = .returned (.tuple #[.string (splT p), .int .i32 (splV p), .bool (splB p)]) := by
  unfold splT splV splB
  rcases h with ⟨h, rfl, rfl⟩ | ⟨h, rfl, rfl, rfl⟩ <;> rw [h] <;> rfl
theorem tail_size (p : ByteArray) (h : 11 ≤ p.size) : (tailS p).size = 10 := by unfold tailS; simp only [ByteArray.size_extract]; omega
theorem tail1 (t : ByteArray) (h : t.size = 10) : (t.extract 1 t.size).size = 9 ∧ digB (t.extract 1 t.size) = digN t 1 9 ∧ valB (t.extract 1 t.size) = valN t 1 9 := by
  have hz : (t.extract 1 t.size).size = 9 := by simp only [ByteArray.size_extract]; omega
  have hb : ∀ j, j < 9 → byteAt (t.extract 1 t.size) (0 + j) = byteAt t (1 + j) := by
    intro j hj
    refine (byteAt_of_list _ _ (UInt8.ofNat (byteAt t (1 + j))) ?_).trans ?_
    · rw [Lib.extract_data, List.getElem?_take, if_pos (by omega), List.getElem?_drop, Nat.zero_add]
      exact byteAt_list t (1 + j) (by omega)
    · have := byteAt_lt t (1 + j)
      rw [UInt8.toNat_ofNat']
      omega
  have h2 : ∀ k, k ≤ 9 → digN (t.extract 1 t.size) 0 k = digN t 1 k ∧ valN (t.extract 1 t.size) 0 k = valN t 1 k := by
    intro k
    induction k with
    | zero => exact fun _ => ⟨rfl, rfl⟩
    | succ k ih =>
      intro hk
      obtain ⟨a, b⟩ := ih (by omega)
      rw [digN, digN, valN, valN, a, b, hb k (by omega)]
      exact ⟨rfl, rfl⟩
  unfold digB valB
  rw [hz]
  exact ⟨rfl, h2 9 (Nat.le_refl _)⟩

set_option maxRecDepth 100000 in
set_option maxHeartbeats 2000000 in
theorem rsplit_any (p : ByteArray) (hp : p.size ≤ 140737488355327) (w : World) :
    Calls Tryd.prog 24 #[.string p] w fun e w' => e = .returned (.tuple #[.string (splT p), .int .i32 (splV p), .bool (splB p)]) ∧ ∃ n, w' = w.drewN n := by
  have HR : Hid (∀ (t : ByteArray) (n : Int) (b : Bool), ((splO p = some n ∧ t = headS p ∧ b = true) ∨ (splO p = none ∧ t = ⟨#[]⟩ ∧ n = 0 ∧ b = false)) → Ending.returned (.tuple #[.string t, .int .i32 n, .bool b]) = .returned (.tuple #[.string (splT p), .int .i32 (splV p), .bool (splB p)])) := fun t n b h => spl_ret h
  have hO : splO p = if preB p = true then splN (tailS p) else none := rfl
  have HV : Hid (∀ W, Calls Tryd.prog 31 #[.string p] W fun e w' => e = .returned (.bool (okB p)) ∧ ∃ n, w' = W.drewN n) := fun W => rvalid_ok p W
  generalize splT p = sT at HR ⊢
  generalize splV p = sV at HR ⊢
  generalize splB p = sB at HR ⊢
  rcases Bool.eq_false_or_eq_true (okB p) with g1 | g1
  · by_cases g2 : 11 ≤ p.size
    · have hhs : (headS p).size ≤ 140737488355327 := by unfold headS; simp only [ByteArray.size_extract]; omega
      have HP : Hid (∀ W, Calls Tryd.prog 37 #[.string (p.extract 0 (p.size - 10))] W fun e w' => e = .returned (.tuple #[.int .i64 (checkOf (headS p ++ ⟨#[49]⟩)).1, .int .i64 (checkOf (headS p ++ ⟨#[49]⟩)).2]) ∧ ∃ n, w' = W.drewN n) := fun W => rprefix_any _ hhs W
      have htz := tail_size p g2
      have t1 := tail1 (tailS p) htz
      have HD : Hid (∀ W, Calls Tryd.prog 43 #[.string (p.extract (p.size - 10) p.size)] W fun e w' => e = .returned (.int .i64 (digV (tailS p))) ∧ W = w') := fun W => digits_any (tailS p) (by omega) W
      have HD1 : Hid (∀ W, Calls Tryd.prog 43 #[.string ((p.extract (p.size - 10) p.size).extract 1 (p.size - (p.size - 10)))] W fun e w' => e = .returned (.int .i64 (if digN (tailS p) 1 9 = true then (valN (tailS p) 1 9 : Int) else -1)) ∧ W = w') := fun W => by
        have := digits_any ((tailS p).extract 1 (tailS p).size) (by omega) W
        unfold digV at this
        rw [t1.2.1, t1.2.2, htz] at this
        rw [show p.size - (p.size - 10) = 10 by omega]
        exact this
      have hx : ∀ (kd : IntKind) (W : World), (Instr.index 9 (.string (p.extract (p.size - 10) p.size)) (.int kd 0)).run Tryd.prog W = .ok (.int .u8 (byteAt (tailS p) 0 : Int)) W := fun kd W => run_byte_at (P := Tryd.prog) W 9 (tailS p) kd 0 0 Tryd.underlying9 rfl (by omega)
      have hpre : preB p = ((checkOf (headS p ++ ⟨#[49]⟩)).1 == 0) := by unfold preB; rw [g1, decide_eq_true g2]; rfl
      have hcut : (p.size : Int) - 10 = ((p.size - 10 : Nat) : Int) := by omega
      have hd0 : digB (tailS p) = true → 48 ≤ byteAt (tailS p) 0 ∧ byteAt (tailS p) 0 ≤ 57 := fun h => by
        have := (digN_iff (tailS p) 0 (tailS p).size).1 h 0 (by omega)
        exact this
      have hv10 : digB (tailS p) = true → valB (tailS p) < 10000000000 := fun h => by
        have := valN_lt (tailS p) 0 (tailS p).size h
        unfold valB
        rw [htz] at this ⊢
        exact this
      have hv9 : digN (tailS p) 1 9 = true → valN (tailS p) 1 9 < 1000000000 := fun h => valN_lt (tailS p) 1 9 h
      have hbl := byteAt_lt (tailS p) 0
      have hN : splN (tailS p) = if digB (tailS p) = true then (if valB (tailS p) ≤ 2147483647 then some (valB (tailS p) : Int) else none) else if (decide (byteAt (tailS p) 0 = 45) && digN (tailS p) 1 9 && decide (0 < valN (tailS p) 1 9)) = true then some (-(valN (tailS p) 1 9 : Int)) else none := rfl
      unfold digV at HD
      unfold headS at HP hpre HR
      generalize tailS p = tl at *
      generalize checkOf (p.extract 0 (p.size - 10) ++ ⟨#[49]⟩) = cc at HP hpre
      rw [hpre] at hO
      clear hpre t1 hhs
      rcases Bool.eq_false_or_eq_true (cc.1 == 0) with g3 | g3
      · have g3' : (cc.1 != 0) = false := by rw [bne, g3]; rfl
        rw [g3, if_pos rfl] at hO
        rcases Bool.eq_false_or_eq_true (digB tl) with g4 | g4
        · rw [g4, if_pos rfl] at HD
          rw [g4, if_pos rfl] at hN
          have hv := hv10 g4
          have hb0 := hd0 g4
          generalize valB tl = vb at *
          by_cases g5 : vb ≤ 2147483647
          · rw [if_pos g5] at hN
            have HO := Lib.hid (hO.trans hN)
            clear hO hN hd0 hv10 hv9
            go_enter Tryd.func24, Tryd.ntmps24
            go_wp2_with (go_at_call 31; refine (HV.out _).mono ?_; rintro e w1 ⟨rfl, n1, rfl⟩; rw [g1])
            go_quiet (fail)
            go_wp2_with (first
        | (go_at_call 31; refine (HV.out _).mono ?_; rintro e w1 ⟨rfl, n1, rfl⟩; rw [g1])
        | (go_at_call 37; refine (HP.out _).mono ?_; rintro e w2 ⟨rfl, n2, rfl⟩)
        | (go_at_call 43; have F0 := F9; refine (HD1.out _).mono ?_; rintro e w4 ⟨rfl, rfl⟩)
        | (go_at_call 43; refine (HD.out _).mono ?_; rintro e w3 ⟨rfl, rfl⟩; have F9 := trivial))
            all_goals
              go_ret3
              exact ⟨HR.out _ _ _ (.inl ⟨HO.out, rfl, rfl⟩), _, (by first | exact World.drewN_drewN _ _ _ | rfl)⟩
          · rw [if_neg g5] at hN
            have HO := Lib.hid (hO.trans hN)
            clear hO hN hd0 hv10 hv9
            go_enter Tryd.func24, Tryd.ntmps24
            go_wp2_with (go_at_call 31; refine (HV.out _).mono ?_; rintro e w1 ⟨rfl, n1, rfl⟩; rw [g1])
            go_quiet (fail)
            go_wp2_with (first
        | (go_at_call 31; refine (HV.out _).mono ?_; rintro e w1 ⟨rfl, n1, rfl⟩; rw [g1])
        | (go_at_call 37; refine (HP.out _).mono ?_; rintro e w2 ⟨rfl, n2, rfl⟩)
        | (go_at_call 43; have F0 := F9; refine (HD1.out _).mono ?_; rintro e w4 ⟨rfl, rfl⟩)
        | (go_at_call 43; refine (HD.out _).mono ?_; rintro e w3 ⟨rfl, rfl⟩; have F9 := trivial))
            all_goals
              go_ret3
              exact ⟨HR.out _ _ _ (.inr ⟨HO.out, rfl, rfl, rfl⟩), _, (by first | exact World.drewN_drewN _ _ _ | rfl)⟩
        · rw [g4, if_neg (by decide)] at HD
          rw [g4, if_neg (by decide)] at hN
          clear hd0 hv10
          by_cases g6 : byteAt tl 0 = 45
          · rw [decide_eq_true g6, Bool.true_and] at hN
            rcases Bool.eq_false_or_eq_true (digN tl 1 9) with g7 | g7
            · have hv := hv9 g7
              rw [g7, if_pos rfl] at HD1
              rw [g7, Bool.true_and] at hN
              generalize valN tl 1 9 = vn at *
              by_cases g8 : 0 < vn
              · rw [decide_eq_true g8, if_pos rfl] at hN
                have HO := Lib.hid (hO.trans hN)
                clear hO hN hv9
                go_enter Tryd.func24, Tryd.ntmps24
                go_wp2_with (go_at_call 31; refine (HV.out _).mono ?_; rintro e w1 ⟨rfl, n1, rfl⟩; rw [g1])
                go_quiet (fail)
                go_wp2_with (first
        | (go_at_call 31; refine (HV.out _).mono ?_; rintro e w1 ⟨rfl, n1, rfl⟩; rw [g1])
        | (go_at_call 37; refine (HP.out _).mono ?_; rintro e w2 ⟨rfl, n2, rfl⟩)
        | (go_at_call 43; have F0 := F9; refine (HD1.out _).mono ?_; rintro e w4 ⟨rfl, rfl⟩)
        | (go_at_call 43; refine (HD.out _).mono ?_; rintro e w3 ⟨rfl, rfl⟩; have F9 := trivial))
                all_goals
                  go_ret3
                  exact ⟨HR.out _ _ _ (.inl ⟨HO.out, rfl, rfl⟩), _, (by first | exact World.drewN_drewN _ _ _ | rfl)⟩
              · rw [decide_eq_false g8, if_neg (by decide)] at hN
                have HO := Lib.hid (hO.trans hN)
                clear hO hN hv9
                go_enter Tryd.func24, Tryd.ntmps24
                go_wp2_with (go_at_call 31; refine (HV.out _).mono ?_; rintro e w1 ⟨rfl, n1, rfl⟩; rw [g1])
                go_quiet (fail)
                go_wp2_with (first
        | (go_at_call 31; refine (HV.out _).mono ?_; rintro e w1 ⟨rfl, n1, rfl⟩; rw [g1])
        | (go_at_call 37; refine (HP.out _).mono ?_; rintro e w2 ⟨rfl, n2, rfl⟩)
        | (go_at_call 43; have F0 := F9; refine (HD1.out _).mono ?_; rintro e w4 ⟨rfl, rfl⟩)
        | (go_at_call 43; refine (HD.out _).mono ?_; rintro e w3 ⟨rfl, rfl⟩; have F9 := trivial))
                all_goals
                  go_ret3
                  exact ⟨HR.out _ _ _ (.inr ⟨HO.out, rfl, rfl, rfl⟩), _, (by first | exact World.drewN_drewN _ _ _ | rfl)⟩
            · rw [g7, if_neg (by decide)] at HD1
              rw [g7, Bool.false_and, if_neg (by decide)] at hN
              have HO := Lib.hid (hO.trans hN)
              clear hO hN hv9
              go_enter Tryd.func24, Tryd.ntmps24
              go_wp2_with (go_at_call 31; refine (HV.out _).mono ?_; rintro e w1 ⟨rfl, n1, rfl⟩; rw [g1])
              go_quiet (fail)
              go_wp2_with (first
        | (go_at_call 31; refine (HV.out _).mono ?_; rintro e w1 ⟨rfl, n1, rfl⟩; rw [g1])
        | (go_at_call 37; refine (HP.out _).mono ?_; rintro e w2 ⟨rfl, n2, rfl⟩)
        | (go_at_call 43; have F0 := F9; refine (HD1.out _).mono ?_; rintro e w4 ⟨rfl, rfl⟩)
        | (go_at_call 43; refine (HD.out _).mono ?_; rintro e w3 ⟨rfl, rfl⟩; have F9 := trivial))
              all_goals
                go_ret3
                exact ⟨HR.out _ _ _ (.inr ⟨HO.out, rfl, rfl, rfl⟩), _, (by first | exact World.drewN_drewN _ _ _ | rfl)⟩
          · rw [decide_eq_false g6, Bool.false_and, Bool.false_and, if_neg (by decide)] at hN
            have HO := Lib.hid (hO.trans hN)
            clear hO hN hv9
            go_enter Tryd.func24, Tryd.ntmps24
            go_wp2_with (go_at_call 31; refine (HV.out _).mono ?_; rintro e w1 ⟨rfl, n1, rfl⟩; rw [g1])
            go_quiet (fail)
            go_wp2_with (first
        | (go_at_call 31; refine (HV.out _).mono ?_; rintro e w1 ⟨rfl, n1, rfl⟩; rw [g1])
        | (go_at_call 37; refine (HP.out _).mono ?_; rintro e w2 ⟨rfl, n2, rfl⟩)
        | (go_at_call 43; have F0 := F9; refine (HD1.out _).mono ?_; rintro e w4 ⟨rfl, rfl⟩)
        | (go_at_call 43; refine (HD.out _).mono ?_; rintro e w3 ⟨rfl, rfl⟩; have F9 := trivial))
            all_goals
              go_ret3
              exact ⟨HR.out _ _ _ (.inr ⟨HO.out, rfl, rfl, rfl⟩), _, (by first | exact World.drewN_drewN _ _ _ | rfl)⟩
      · have g3' : (cc.1 != 0) = true := by rw [bne, g3]; rfl
        rw [g3, if_neg (by decide)] at hO
        have HO := Lib.hid hO
        clear hO hN hd0 hv10 hv9
        go_enter Tryd.func24, Tryd.ntmps24
        go_wp2_with (go_at_call 31; refine (HV.out _).mono ?_; rintro e w1 ⟨rfl, n1, rfl⟩; rw [g1])
        go_quiet (fail)
        go_wp2_with (first
        | (go_at_call 31; refine (HV.out _).mono ?_; rintro e w1 ⟨rfl, n1, rfl⟩; rw [g1])
        | (go_at_call 37; refine (HP.out _).mono ?_; rintro e w2 ⟨rfl, n2, rfl⟩)
        | (go_at_call 43; have F0 := F9; refine (HD1.out _).mono ?_; rintro e w4 ⟨rfl, rfl⟩)
        | (go_at_call 43; refine (HD.out _).mono ?_; rintro e w3 ⟨rfl, rfl⟩; have F9 := trivial))
        all_goals
          go_ret3
          exact ⟨HR.out _ _ _ (.inr ⟨HO.out, rfl, rfl, rfl⟩), _, (by first | exact World.drewN_drewN _ _ _ | rfl)⟩
    · have hpre : preB p = false := by unfold preB; rw [decide_eq_false g2, Bool.and_false, Bool.false_and]
      rw [hpre, if_neg (by decide)] at hO
      have HO := Lib.hid hO
      clear hO hpre
      go_enter Tryd.func24, Tryd.ntmps24
      go_wp2_with (go_at_call 31; refine (HV.out _).mono ?_; rintro e w1 ⟨rfl, n1, rfl⟩; rw [g1])
      go_ret3
      exact ⟨HR.out _ _ _ (.inr ⟨HO.out, rfl, rfl, rfl⟩), n1, rfl⟩
  · have hpre : preB p = false := by unfold preB; rw [g1, Bool.false_and, Bool.false_and]
    rw [hpre, if_neg (by decide)] at hO
    have HO := Lib.hid hO
    clear hO hpre
    go_enter Tryd.func24, Tryd.ntmps24
    go_wp2_with (go_at_call 31; refine (HV.out _).mono ?_; rintro e w1 ⟨rfl, n1, rfl⟩; rw [g1])
    go_ret3
    exact ⟨HR.out _ _ _ (.inr ⟨HO.out, rfl, rfl, rfl⟩), n1, rfl⟩
end Go.Proofs.YtkhnchahoidbaaaDoor
