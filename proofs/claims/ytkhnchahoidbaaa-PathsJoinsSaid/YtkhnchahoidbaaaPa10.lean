/- Join by the reference: the walk. -/
import Derived.Test.YtkhnchahoidbaaaPa9
namespace Go.Proofs.Ytkhnchahoidbaaa
open Go.RowKit

theorem slash_no {b : ByteArray} (h : ∀ j, j < b.size → byteAt b j ≠ 47) : slashIn b = false := by
  unfold slashIn
  rw [decide_eq_false_iff_not]
  intro h0
  obtain ⟨o, ho⟩ : ∃ o : Nat, Lib.indexByte b.data.toList 47 = o := ⟨(Lib.indexByte b.data.toList 47).toNat, by omega⟩
  have h1 := (Lib.indexByte_some ho).1
  have hl : o < b.size := by rw [Lib.size_eq]; exact (List.getElem?_eq_some_iff.1 h1).1
  exact h o hl (byteAt_of_list b o 47 h1)
theorem slash_yes {b : ByteArray} (k : Nat) (hk : k < b.size) (h : byteAt b k = 47) : slashIn b = true := by
  unfold slashIn
  rw [decide_eq_true_eq]
  rcases Int.lt_or_le (Lib.indexByte b.data.toList 47) 0 with h0 | h0
  · exfalso
    have hge : -1 ≤ Lib.indexByte b.data.toList 47 := by
      generalize b.data.toList = l
      induction l with
      | nil => decide
      | cons x l ih =>
        unfold Lib.indexByte
        split
        · decide
        · split <;> omega
    have h1 := Lib.indexByte_none (l := b.data.toList) (c := 47) (by omega) k
    rw [byteAt_list b k hk, h] at h1
    exact h1 rfl
  · exact h0
theorem join_ret {a b p : ByteArray} {t : ByteArray} {e : Int} (h : (joinBad a b p = true ∧ t = ⟨#[]⟩ ∧ e = 30) ∨ (joinBad a b p = false ∧ t = p ∧ e = 0)) : Ending.returned (.tuple #[.string t, .int .i64 e]) = .returned (.tuple #[.string (joinT a b p), .int .i64 (joinE a b p)]) := by
  unfold joinT joinE
  rcases h with ⟨h, rfl, rfl⟩ | ⟨h, rfl, rfl⟩ <;> rw [h] <;> rfl
theorem joinP_root {a b : ByteArray} (h : (a.toList == [47]) = true) : joinP a b = ⟨#[47]⟩ ++ b := by
  have : a = ⟨#[47]⟩ := by
    rw [Lib.toList_data, beq_iff_eq] at h
    rw [← Lib.mk_data a, h]
  subst this
  have e : trimS ⟨#[47]⟩ = ⟨#[]⟩ := by decide
  unfold joinP
  rw [e]
  rfl
theorem joinP_else {a b : ByteArray} (hok : okB a = true) (h : (a.toList == [47]) = false) : joinP a b = a ++ ⟨#[47]⟩ ++ b := by
  obtain ⟨x, _, y, z⟩ := ok_parts ((okB_iff a).1 hok)
  rw [toList_one] at h
  have h := of_decide_eq_false h
  have h1 : a.size ≠ 1 := fun hh => h ⟨hh, y⟩
  have e : trimS a = a := by
    unfold trimS
    rw [if_neg]
    rintro ⟨_, h2⟩
    rcases z with z | z
    · exact h1 z
    · exact z.1 h2
  unfold joinP
  rw [e]

set_option maxRecDepth 100000 in
set_option maxHeartbeats 2000000 in
theorem rjoin_any (a b : ByteArray) (ha : a.size ≤ 140737488355328) (hb : b.size ≤ 140737488355328) (w : World) :
    Calls Try.prog 12 #[.string a, .string b] w fun e w' => e = .returned (.tuple #[.string (joinT a b (joinP a b)), .int .i64 (joinE a b (joinP a b))]) ∧ ∃ n, w' = w.drewN n := by
  have hjb : joinBad a b (joinP a b) = (!okB a || slashIn b || !okB (joinP a b) || (b.toList == [])) := rfl
  rcases Bool.eq_false_or_eq_true (okB a) with g1 | g1
  · have HG := Lib.hid g1
    rw [g1] at hjb
    have HJ := Lib.hid hjb
    clear g1 hjb
    go_enter Try.func12, Try.ntmps12
    go_wp2_with (go_at_call 10; refine (rvalid_ok a _).mono ?_; rintro e w1 ⟨rfl, n0, rfl⟩; rw [HG.out])
    go_loopw [6] (fun v wr => ∃ (k n : Nat), v = .int .i64 k ∧ k ≤ b.size ∧ Hid (∀ j, j < k → byteAt b j ≠ 47) ∧ wr = w.drewN n) (fun v _ => b.size - (intOf v).toNat)
    case atStart => exact ⟨0, n0, rfl, by omega, fun j hj => absurd hj (by omega), rfl⟩
    case round =>
      obtain ⟨k, n, rfl, hk, HA, rfl⟩ := hrel
      by_cases hlt : k < b.size
      · have hx := fun kd W => run_byte (P := Try.prog) W 9 b kd k Try.underlying9 hlt
        have hbl := byteAt_lt b k
        by_cases h47 : byteAt b k = 47
        · have hs := slash_yes k hlt h47
          have hj := HJ.out
          rw [hs] at hj
          simp only [Bool.not_true, Bool.false_or, Bool.true_or] at hj
          clear hs HJ
          go_wp2
          go_ret2
          exact ⟨join_ret (.inl ⟨hj, rfl, rfl⟩), n, rfl⟩
        · go_wp2
          go_roundw
          case rel => exact ⟨k + 1, n, by simp, by omega, fun j hj => (by
            rcases Nat.lt_or_ge j k with h | h
            · exact HA.out j h
            · rw [show j = k by omega]; exact h47), rfl⟩
          case measure => simp [intOf]; omega
      · have hs := slash_no (b := b) (fun j hj => HA.out j (by omega))
        have hj := HJ.out
        rw [hs] at hj
        clear hs HJ HA
        rcases Bool.eq_false_or_eq_true (a.toList == [47]) with g0 | g0
        · have hP := joinP_root (b := b) g0
          have HV : Hid (∀ W, Calls Try.prog 10 #[.string (⟨#[47]⟩ ++ b)] W fun e w' => e = .returned (.bool (okB (joinP a b))) ∧ ∃ n, w' = W.drewN n) := fun W => by rw [hP]; exact rvalid_ok _ W
          rcases Bool.eq_false_or_eq_true (okB (joinP a b)) with g3 | g3
          · rcases Bool.eq_false_or_eq_true (b.toList == []) with g4 | g4
            · skip
              have hjj : joinBad a b (joinP a b) = true := by rw [hj]; simp [g3, g4]
              clear hj
              go_wp2_with (go_at_call 10; refine (HV.out _).mono ?_; rintro e w2 ⟨rfl, n2, rfl⟩; rw [g3])
              go_ret2
              exact ⟨join_ret (.inl ⟨hjj, rfl, rfl⟩), n + n2, (by first | rfl | rw [World.drewN_drewN])⟩
            · skip
              have hjj : joinBad a b (joinP a b) = false := by rw [hj]; simp [g3, g4]
              clear hj
              go_wp2_with (go_at_call 10; refine (HV.out _).mono ?_; rintro e w2 ⟨rfl, n2, rfl⟩; rw [g3])
              go_ret2
              exact ⟨join_ret (.inr ⟨hjj, hP.symm, rfl⟩), n + n2, (by first | rfl | rw [World.drewN_drewN])⟩
          · skip
            have hjj : joinBad a b (joinP a b) = true := by rw [hj]; simp [g3]
            clear hj
            go_wp2_with (go_at_call 10; refine (HV.out _).mono ?_; rintro e w2 ⟨rfl, n2, rfl⟩; rw [g3])
            go_ret2
            exact ⟨join_ret (.inl ⟨hjj, rfl, rfl⟩), n + n2, (by first | rfl | rw [World.drewN_drewN])⟩
        · have hP := joinP_else (b := b) HG.out g0
          have HV : Hid (∀ W, Calls Try.prog 10 #[.string (a ++ ⟨#[47]⟩ ++ b)] W fun e w' => e = .returned (.bool (okB (joinP a b))) ∧ ∃ n, w' = W.drewN n) := fun W => by rw [hP]; exact rvalid_ok _ W
          rcases Bool.eq_false_or_eq_true (okB (joinP a b)) with g3 | g3
          · rcases Bool.eq_false_or_eq_true (b.toList == []) with g4 | g4
            · skip
              have hjj : joinBad a b (joinP a b) = true := by rw [hj]; simp [g3, g4]
              clear hj
              go_wp2_with (go_at_call 10; refine (HV.out _).mono ?_; rintro e w2 ⟨rfl, n2, rfl⟩; rw [g3])
              go_ret2
              exact ⟨join_ret (.inl ⟨hjj, rfl, rfl⟩), n + n2, (by first | rfl | rw [World.drewN_drewN])⟩
            · skip
              have hjj : joinBad a b (joinP a b) = false := by rw [hj]; simp [g3, g4]
              clear hj
              go_wp2_with (go_at_call 10; refine (HV.out _).mono ?_; rintro e w2 ⟨rfl, n2, rfl⟩; rw [g3])
              go_ret2
              exact ⟨join_ret (.inr ⟨hjj, hP.symm, rfl⟩), n + n2, (by first | rfl | rw [World.drewN_drewN])⟩
          · skip
            have hjj : joinBad a b (joinP a b) = true := by rw [hj]; simp [g3]
            clear hj
            go_wp2_with (go_at_call 10; refine (HV.out _).mono ?_; rintro e w2 ⟨rfl, n2, rfl⟩; rw [g3])
            go_ret2
            exact ⟨join_ret (.inl ⟨hjj, rfl, rfl⟩), n + n2, (by first | rfl | rw [World.drewN_drewN])⟩
  · have hj : joinBad a b (joinP a b) = true := by rw [hjb, g1]; rfl
    have HJ := Lib.hid hj
    clear hj hjb
    go_enter Try.func12, Try.ntmps12
    go_wp2_with (go_at_call 10; refine (rvalid_ok a _).mono ?_; rintro e w1 ⟨rfl, n0, rfl⟩; rw [g1])
    go_ret2
    exact ⟨join_ret (.inl ⟨HJ.out, rfl, rfl⟩), n0, rfl⟩
end Go.Proofs.Ytkhnchahoidbaaa
