/- Under by the reference, the orders, the law: the walks. -/
import Derived.Test.YtkhnchahoidbaaaPa12
import Derived.Deep.QuietTactic
import Derived.BigQuiet
namespace Go.Proofs.Ytkhnchahoidbaaa
open Go.RowKit

theorem drew3 (w : World) (a b c : Nat) : ((w.drewN a).drewN b).drewN c = w.drewN (a + b + c) := by rw [World.drewN_drewN, World.drewN_drewN, Nat.add_assoc]

def strSize : Value → Nat
  | .string s => s.size
  | _ => 0

set_option maxRecDepth 100000 in
set_option maxHeartbeats 2000000 in
theorem runder_any (a p : ByteArray) (w : World) :
    Calls Try.prog 14 #[.string a, .string p] w fun e w' => e = .returned (.bool (underB a p)) ∧ ∃ n, w' = w.drewN n := by
  have PA : ∀ W, Calls Try.prog 10 #[.string a] W fun e w' => e = .returned (.bool (okB a)) ∧ ∃ n, w' = W.drewN n := fun W => rvalid_ok _ W
  have PP : ∀ W, Calls Try.prog 10 #[.string p] W fun e w' => e = .returned (.bool (okB p)) ∧ ∃ n, w' = W.drewN n := fun W => rvalid_ok _ W
  have HPA := Lib.hid PA
  have HPP := Lib.hid PP
  clear PA PP
  rcases Bool.eq_false_or_eq_true (okB a) with g1 | g1
  · rcases Bool.eq_false_or_eq_true (okB p) with g2 | g2
    · have hu : underB a p = undB a p := by unfold underB; rw [g1, g2]; rfl
      have HU := Lib.hid hu
      have HG1 := Lib.hid g1
      have HG2 := Lib.hid g2
      clear hu g1 g2
      go_enter Try.func14, Try.ntmps14
      go_wp2_with (first
        | (go_at_call 10; refine (HPP.out (w.drewN n0)).mono ?_; rintro e w4 ⟨rfl, n1, rfl⟩; rw [HG2.out])
        | (go_at_call 10; refine (HPA.out _).mono ?_; rintro e w2 ⟨rfl, n0, rfl⟩; rw [HG1.out]))
      go_loopw [1] (fun v wr => ∃ (q : ByteArray) (n : Nat), v = .string q ∧ Hid (okB q = true) ∧ Hid (undB a q = undB a p) ∧ wr = w.drewN n) (fun v _ => strSize v)
      case atStart => exact ⟨p, n0 + n1, rfl, HG2, rfl, by first | rfl | rw [World.drewN_drewN]⟩
      case round =>
        obtain ⟨q, n, rfl, HQ, HN, rfl⟩ := hrel
        rcases Bool.eq_false_or_eq_true (q.toList == a.toList) with h1 | h1
        · have e : underB a p = true := by
            rw [HU.out, ← HN.out]
            unfold undB
            rw [list_ne_of_size h1]
            simp
          go_wp2
          go_ret
          exact ⟨(by first | rfl | (rw [e]; rfl) | (rw [e, h1]; rfl)), n, rfl⟩
        · rcases Bool.eq_false_or_eq_true (q.toList == [47]) with h2 | h2
          · have e : underB a p = false := by
              rw [HU.out, ← HN.out, Bool.eq_false_iff]
              intro hh
              rw [und_iff] at hh
              rw [Lib.toList_data, beq_iff_eq] at h2
              rw [Lib.toList_data, Lib.toList_data, beq_eq_false_iff_ne, h2] at h1
              rw [h2] at hh
              rcases hh with hh | hh | hh
              · exact h1 hh.symm
              · exact h1 hh.symm
              · have := hh.length_le
                have hx := (ok_parts ((okB_iff a).1 HG1.out)).1
                rw [Lib.size_eq] at hx
                rw [List.length_append] at this
                simp only [List.length_cons, List.length_nil] at this
                omega
            go_wp2
            go_ret
            exact ⟨(by first | rfl | (rw [e]; rfl) | (rw [e, h1]; rfl)), n, rfl⟩
          · have hok := ok_parent ((okB_iff q).1 HQ.out)
            have hq1 : q.size ≠ 1 := by
              have := ok_one ((okB_iff q).1 HQ.out) h2
              omega
            have HQ2 : Hid (okB (parentS q) = true) := (okB_iff _).2 hok.1
            have HN2 : Hid (undB a (parentS q) = undB a p) := by
              show _ = _
              rw [und_parent ((okB_iff a).1 HG1.out) ((okB_iff q).1 HQ.out) h1]
              exact HN.out
            have hlt := hok.2 hq1
            clear hok
            go_wp2_with (go_at_call 25; refine (rparent_any q HQ.out h2 _).mono ?_; rintro e w5 ⟨rfl, n2, rfl⟩)
            go_roundw
            case rel => exact ⟨parentS q, n + n2, rfl, HQ2, HN2, by first | rfl | rw [World.drewN_drewN]⟩
            case measure => simpa [strSize] using hlt
    · have e : underB a p = false := by unfold underB; rw [g1, g2]; rfl
      rw [e]
      go_enter Try.func14, Try.ntmps14
      go_wp2_with (first
        | (go_at_call 10; refine (HPP.out (w.drewN n0)).mono ?_; rintro e w4 ⟨rfl, n1, rfl⟩; rw [g2])
        | (go_at_call 10; refine (HPA.out _).mono ?_; rintro e w2 ⟨rfl, n0, rfl⟩; rw [g1]))
      go_ret
      exact ⟨rfl, n0 + n1, by first | rfl | rw [World.drewN_drewN]⟩
  · have e : underB a p = false := by unfold underB; rw [g1]; rfl
    rw [e]
    go_enter Try.func14, Try.ntmps14
    go_wp2_with (go_at_call 10; refine (HPA.out _).mono ?_; rintro e w2 ⟨rfl, n0, rfl⟩; rw [g1])
    go_ret
    exact ⟨rfl, n0, rfl⟩

/-! ### the order -/
def ordB (a b : ByteArray) : Int := Lib.compareBytes a.data.toList b.data.toList
theorem ordB_self (a : ByteArray) : ordB a a = 0 := by
  unfold ordB
  induction a.data.toList with
  | nil => rfl
  | cons x l ih => unfold Lib.compareBytes; rw [if_neg (UInt8.lt_irrefl x), if_neg (UInt8.lt_irrefl x), ih]
theorem order_any (a b : ByteArray) (w : World) : Calls Try.prog 15 #[.string a, .string b] w fun e w' => e = .returned (.int .i64 (ordB a b)) ∧ w = w' := by
  have HC : ∀ W, Calls Try.prog 26 #[.string a, .string b] W fun e w' => e = .returned (.int .i64 (ordB a b)) ∧ w' = W := fun W => Try.strings_Compare a b W
  have HCC := Lib.hid HC
  clear HC
  go_enter Try.func15, Try.ntmps15
  go_wp2_with (go_at_call 26; refine (HCC.out _).mono ?_; rintro e w2 ⟨rfl, rfl⟩)
  go_ret
  exact ⟨rfl, rfl⟩
def ordFrom (a b : ByteArray) (k : Nat) : Int := Lib.compareBytes (a.data.toList.drop k) (b.data.toList.drop k)
theorem drop_byte (a : ByteArray) (k : Nat) (h : k < a.size) : a.data.toList.drop k = UInt8.ofNat (byteAt a k) :: a.data.toList.drop (k + 1) := by
  have hl : k < a.data.toList.length := by rw [← Lib.size_eq]; exact h
  rw [List.drop_eq_getElem_cons hl]
  have := byteAt_list a k h
  rw [List.getElem?_eq_getElem hl] at this
  rw [Option.some.inj this]
theorem drop_end (a : ByteArray) (k : Nat) (h : a.size ≤ k) : a.data.toList.drop k = [] := List.drop_eq_nil_of_le (by rw [← Lib.size_eq]; exact h)
theorem ordFrom_step (a b : ByteArray) (k : Nat) (ha : k < a.size) (hb : k < b.size) : ordFrom a b k = if byteAt a k < byteAt b k then -1 else if byteAt b k < byteAt a k then 1 else ordFrom a b (k + 1) := by
  have h1 := byteAt_lt a k
  have h2 := byteAt_lt b k
  unfold ordFrom
  rw [drop_byte a k ha, drop_byte b k hb, Lib.compareBytes]
  have e : ∀ x y : Nat, x < 256 → y < 256 → (UInt8.ofNat x < UInt8.ofNat y ↔ x < y) := fun x y hx hy => by
    rw [UInt8.lt_iff_toNat_lt, UInt8.toNat_ofNat', UInt8.toNat_ofNat']
    rw [Nat.mod_eq_of_lt hx, Nat.mod_eq_of_lt hy]
  simp only [e _ _ h1 h2, e _ _ h2 h1]
theorem ordFrom_end (a b : ByteArray) (k : Nat) (ha : k ≤ a.size) (hb : k ≤ b.size) (h : ¬ (k < a.size ∧ k < b.size)) : ordFrom a b k = if a.size < b.size then -1 else if b.size < a.size then 1 else 0 := by
  unfold ordFrom
  by_cases h1 : k < a.size
  · have h2 : b.size = k := by omega
    rw [drop_byte a k h1, drop_end b k (by omega), if_neg (by omega), if_pos (by omega)]
    rfl
  · rw [drop_end a k (by omega)]
    by_cases h2 : k < b.size
    · rw [drop_byte b k h2, if_pos (by omega)]
      rfl
    · rw [drop_end b k (by omega), if_neg (by omega), if_neg (by omega)]
      rfl

theorem reto {a b : ByteArray} {x : Int} (h : ordB a b = x) : Ending.returned (.int .i64 x) = .returned (.int .i64 (ordB a b)) := by rw [h]
set_option maxRecDepth 100000 in
set_option maxHeartbeats 1000000 in
theorem rorder_any (a b : ByteArray) (ha : a.size ≤ 140737488355328) (hb : b.size ≤ 140737488355328) (w : World) :
    Calls Try.prog 16 #[.string a, .string b] w fun e w' => e = .returned (.int .i64 (ordB a b)) ∧ ∃ n, w' = w.drewN n := by
  have h0 : ordFrom a b 0 = ordB a b := by unfold ordFrom ordB; rfl
  have H0 := Lib.hid h0
  clear h0
  go_enter Try.func16, Try.ntmps16
  go_wp2
  go_loopw [5] (fun v wr => ∃ k n : Nat, v = .int .i64 k ∧ k ≤ a.size ∧ k ≤ b.size ∧ Hid (ordFrom a b k = ordB a b) ∧ wr = w.drewN n) (fun v _ => a.size - (intOf v).toNat)
  case atStart => exact ⟨0, 0, rfl, by omega, by omega, H0, rfl⟩
  case round =>
    obtain ⟨k, n, rfl, hka, hkb, HO, rfl⟩ := hrel
    by_cases hl : k < a.size ∧ k < b.size
    · obtain ⟨h1, h2⟩ := hl
      have hx := fun kd W => run_byte (P := Try.prog) W 9 a kd k Try.underlying9 h1
      have hy := fun kd W => run_byte (P := Try.prog) W 9 b kd k Try.underlying9 h2
      have b1 := byteAt_lt a k
      have b2 := byteAt_lt b k
      have hst := HO.out
      rw [ordFrom_step a b k h1 h2] at hst
      have HS := Lib.hid hst
      clear hst HO
      by_cases c1 : byteAt a k < byteAt b k
      · have e : ordB a b = -1 := by rw [← HS.out, if_pos c1]
        clear HS
        go_wp2
        go_quiet (fail)
        go_wp2
        go_ret
        exact ⟨(by first | rfl | exact reto e), n + nq, (by first | rfl | rw [World.drewN_drewN])⟩
      · by_cases c2 : byteAt b k < byteAt a k
        · have e : ordB a b = 1 := by rw [← HS.out, if_neg c1, if_pos c2]
          clear HS
          go_wp2
          go_quiet (fail)
          have hnq1 := nq
          go_wp2
          go_quiet (fail)
          go_wp2
          go_ret
          exact ⟨(by first | rfl | exact reto e), _, (by first | exact drew3 _ _ _ _ | exact World.drewN_drewN _ _ _ | rfl)⟩
        · have H2 : Hid (ordFrom a b (k + 1) = ordB a b) := by show _ = _; rw [← HS.out, if_neg c1, if_neg c2]
          clear HS
          go_wp2
          go_quiet (fail)
          go_wp2
          go_quiet (fail)
          go_wp2
          go_roundw
          case rel => exact ⟨k + 1, _, by simp, by omega, by omega, H2, (by first | exact drew3 _ _ _ _ | exact World.drewN_drewN _ _ _ | rfl)⟩
          case measure => simp [intOf]; omega
    · have hst := HO.out
      rw [ordFrom_end a b k hka hkb hl] at hst
      have HS := Lib.hid hst
      clear hst HO
      have hl' : a.size ≤ k ∨ b.size ≤ k := by omega
      by_cases c1 : a.size < b.size
      · have e : ordB a b = -1 := by rw [← HS.out, if_pos c1]
        clear HS
        go_wp2
        all_goals
          go_ret
          exact ⟨(by first | rfl | exact reto e), n, rfl⟩
      · by_cases c2 : b.size < a.size
        · have e : ordB a b = 1 := by rw [← HS.out, if_neg c1, if_pos c2]
          clear HS
          go_wp2
          all_goals
            go_ret
            exact ⟨(by first | rfl | exact reto e), n, rfl⟩
        · have e : ordB a b = 0 := by rw [← HS.out, if_neg c1, if_neg c2]
          clear HS
          go_wp2
          all_goals
            go_ret
            exact ⟨(by first | rfl | exact reto e), n, rfl⟩

set_option maxRecDepth 100000 in
set_option maxHeartbeats 2000000 in
theorem joins_any (a b : ByteArray) (ha : a.size ≤ 140737488355328) (hb : b.size ≤ 140737488355328) (w : World) (m : Int) (hm : w.cell? ⟨0, 0, none⟩ = some (.int .i64 m)) (hG : 0 < w.heap.size) :
    Calls Try.prog 4 #[.string a, .string b] w fun e w' => e = .returned (.bool true) ∧ Below w.heap.size w w' := by
  have hcell : ∀ W, Below w.heap.size w W → W.cell? ⟨0, 0, none⟩ = some (.int .i64 m) := fun W hB => by
    rw [hB.cell (p := ⟨0, 0, none⟩) hG]
    exact hm
  have H1 : Hid (∀ W, Below w.heap.size w W → Calls Try.prog 11 #[.string a, .string b] W fun e w' => e = .returned (.tuple #[.string (joinT a b (joinP a b)), .int .i64 (joinE a b (joinP a b))]) ∧ Below w.heap.size w w') :=
    fun W hB => (join_any a b ha hb W m (hcell W hB) (Nat.lt_of_lt_of_le hG hB.size)).mono fun _ _ ⟨he, h⟩ => ⟨he, hB.trans (h.mono hB.size)⟩
  have H2 : Hid (∀ W, Below w.heap.size w W → Calls Try.prog 12 #[.string a, .string b] W fun e w' => e = .returned (.tuple #[.string (joinT a b (joinP a b)), .int .i64 (joinE a b (joinP a b))]) ∧ Below w.heap.size w w') :=
    fun W hB => (rjoin_any a b ha hb W).mono fun _ _ ⟨he, n, h⟩ => ⟨he, by rw [h]; exact below_drewN' hB n⟩
  have H3 : Hid (∀ W, Below w.heap.size w W → Calls Try.prog 13 #[.string a, .string b] W fun e w' => e = .returned (.bool (underB a b)) ∧ Below w.heap.size w w') :=
    fun W hB => (under_any a b ha W m (hcell W hB) (Nat.lt_of_lt_of_le hG hB.size)).mono fun _ _ ⟨he, h⟩ => ⟨he, hB.trans (h.mono hB.size)⟩
  have H4 : Hid (∀ W, Below w.heap.size w W → Calls Try.prog 14 #[.string a, .string b] W fun e w' => e = .returned (.bool (underB a b)) ∧ Below w.heap.size w w') :=
    fun W hB => (runder_any a b W).mono fun _ _ ⟨he, n, h⟩ => ⟨he, by rw [h]; exact below_drewN' hB n⟩
  have H5 : Hid (∀ W, Below w.heap.size w W → Calls Try.prog 15 #[.string a, .string b] W fun e w' => e = .returned (.int .i64 (ordB a b)) ∧ Below w.heap.size w w') :=
    fun W hB => (order_any a b W).mono fun _ _ ⟨he, h⟩ => ⟨he, by rw [← h]; exact hB⟩
  have H6 : Hid (∀ W, Below w.heap.size w W → Calls Try.prog 16 #[.string a, .string b] W fun e w' => e = .returned (.int .i64 (ordB a b)) ∧ Below w.heap.size w w') :=
    fun W hB => (rorder_any a b ha hb W).mono fun _ _ ⟨he, n, h⟩ => ⟨he, by rw [h]; exact below_drewN' hB n⟩
  have H7 : Hid (∀ W, Below w.heap.size w W → Calls Try.prog 15 #[.string a, .string a] W fun e w' => e = .returned (.int .i64 0) ∧ Below w.heap.size w w') :=
    fun W hB => (order_any a a W).mono fun _ _ ⟨he, h⟩ => ⟨by rw [he, ordB_self], by rw [← h]; exact hB⟩
  have HB0 := Lib.hid (Below.refl w.heap.size w)
  clear hcell hm
  generalize joinT a b (joinP a b) = jt at H1 H2
  generalize joinE a b (joinP a b) = je at H1 H2
  generalize underB a b = ub at H3 H4
  generalize ordB a b = oo at H5 H6
  go_enter Try.func4, Try.ntmps4
  go_wp2_with (first
    | (go_at_call 11; refine (H1.out _ (by first | exact HB0.out | (refine below_drewN' ?_ _; assumption))).mono ?_; rintro e w1 ⟨rfl, hb1⟩)
    | (go_at_call 12; refine (H2.out _ (by first | assumption | (refine below_drewN' ?_ _; assumption))).mono ?_; rintro e w2 ⟨rfl, hb2⟩; clear hb1)
    | (go_at_call 13; refine (H3.out _ (by first | assumption | (refine below_drewN' ?_ _; assumption))).mono ?_; rintro e w3 ⟨rfl, hb3⟩; clear hb2)
    | (go_at_call 14; refine (H4.out _ (by first | assumption | (refine below_drewN' ?_ _; assumption))).mono ?_; rintro e w4 ⟨rfl, hb4⟩; clear hb3)
    | (go_at_call 16; refine (H6.out _ (by first | assumption | (refine below_drewN' ?_ _; assumption))).mono ?_; rintro e w6 ⟨rfl, hb6⟩; clear hb5)
    | (go_at_call 15; refine (H7.out _ hb6).mono ?_; rintro e w7 ⟨rfl, hb7⟩; clear hb6)
    | (go_at_call 15; refine (H5.out _ (by first | assumption | (refine below_drewN' ?_ _; assumption))).mono ?_; rintro e w5 ⟨rfl, hb5⟩; clear hb4))
  go_ret
  exact ⟨rfl, hb7⟩

theorem pathsJoins_walk {H : Type} (a : ByteArray) (_ : a.size ≤ maxLen) (b : ByteArray) (_ : b.size ≤ maxLen) (W : World) (hsz : (DataW.weightsEach Try.prog ([9, 9] : List TypeId) ([DataW.lit (.string a.data.toList), DataW.lit (.string b.data.toList)] : List (DataW H))).all (· ≤ reachBytes) = true) (hsh : W.ShapedOpen Try.prog) :
    Calls Try.prog 4 #[.string a, .string b] W fun e w' => e = .returned (.bool true) ∧ Below W.heap.size W w' := by
  have h := sized_string (j := 0) hsz rfl rfl
  have h' := sized_string (j := 1) hsz rfl rfl
  rw [← Lib.size_eq] at h h'
  obtain ⟨m, hm⟩ := Try.laysM145.s1_3 W hsh
  unfold reachBytes at h h'
  exact joins_any a b (by omega) (by omega) W m hm (cell_lt hm)
end Go.Proofs.Ytkhnchahoidbaaa
