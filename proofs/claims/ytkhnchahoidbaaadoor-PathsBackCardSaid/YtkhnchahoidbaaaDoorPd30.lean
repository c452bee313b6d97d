/- Join by the program: the walk (as in seat Ytkhnchahoidbaaa); plain laws of it. -/
import Derived.Test.YtkhnchahoidbaaaDoorPd29
namespace Go.Proofs.YtkhnchahoidbaaaDoor
open Go.RowKit

/-- a text without a slash at its end -/
def trimS (s : ByteArray) : ByteArray := if 0 < s.size ∧ byteAt s (s.size - 1) = 47 then s.extract 0 (s.size - 1) else s
theorem tail_eq (s : ByteArray) (h : 0 < s.size) : ((s.extract (s.size - 1) s.size).toList == [47]) = decide (byteAt s (s.size - 1) = 47) := by
  have hz : (s.extract (s.size - 1) s.size).size = 1 := by simp only [ByteArray.size_extract]; omega
  have hb : byteAt (s.extract (s.size - 1) s.size) 0 = byteAt s (s.size - 1) := by
    refine (byteAt_of_list _ _ (UInt8.ofNat (byteAt s (s.size - 1))) ?_).trans ?_
    · rw [Lib.extract_data, List.getElem?_take, if_pos (by omega), List.getElem?_drop]
      exact byteAt_list s (s.size - 1 + 0) (by omega)
    · have := byteAt_lt s (s.size - 1)
      rw [UInt8.toNat_ofNat']
      omega
  rw [toList_one, hz, hb]
  rw [Bool.eq_iff_iff]
  simp

set_option maxRecDepth 100000 in
set_option maxHeartbeats 1000000 in
theorem trim_any (s : ByteArray) (hs : s.size ≤ 140737488355328) (w : World) :
    Calls Tryd.prog 47 #[.string s, .string ⟨#[47]⟩] w fun e w' => e = .returned (.string (trimS s)) ∧ ∃ n, w' = w.drewN n := by
  by_cases h : 0 < s.size
  · have ht := tail_eq s h
    by_cases hb : byteAt s (s.size - 1) = 47
    · have e : trimS s = s.extract 0 (s.size - 1) := by unfold trimS; rw [if_pos ⟨h, hb⟩]
      have ht : ((s.extract (s.size - 1) s.size).toList == [47]) = true := by rw [ht]; exact decide_eq_true hb
      have he : (s.size : Int) - 1 = ((s.size - 1 : Nat) : Int) := by omega
      rw [e]
      go_enter Tryd.func47, Tryd.ntmps47
      go_wp2
      all_goals
        go_ret
        exact ⟨rfl, 0, rfl⟩
    · have e : trimS s = s := by unfold trimS; rw [if_neg (fun hh => hb hh.2)]
      have ht : ((s.extract (s.size - 1) s.size).toList == [47]) = false := by rw [ht]; exact decide_eq_false hb
      rw [e]
      go_enter Tryd.func47, Tryd.ntmps47
      go_wp2
      all_goals
        go_ret
        exact ⟨rfl, 0, rfl⟩
  · have e : trimS s = s := by unfold trimS; rw [if_neg (fun hh => h hh.1)]
    rw [e]
    go_enter Tryd.func47, Tryd.ntmps47
    go_wp2
    all_goals
      go_ret
      exact ⟨rfl, 0, rfl⟩

/-- is there a slash? -/
def slashIn (s : ByteArray) : Bool := decide (0 ≤ Lib.indexByte s.data.toList 47)
def joinP (a b : ByteArray) : ByteArray := trimS a ++ ⟨#[47]⟩ ++ b
def joinBad (a b p : ByteArray) : Bool := !okB a || slashIn b || !okB p || (b.toList == [])
def joinT (a b p : ByteArray) : ByteArray := if joinBad a b p = true then ⟨#[]⟩ else p
def joinE (a b p : ByteArray) : Int := if joinBad a b p = true then 30 else 0

theorem trim_size (s : ByteArray) : (trimS s).size ≤ s.size := by
  unfold trimS
  split
  · simp only [ByteArray.size_extract]; omega
  · exact Nat.le_refl _
theorem cat_size (a b : ByteArray) : (joinP a b).size ≤ a.size + 1 + b.size := by
  have := trim_size a
  unfold joinP
  rw [size_append, size_append]
  show (trimS a).size + 1 + b.size ≤ _
  omega

set_option maxRecDepth 100000 in
set_option maxHeartbeats 2000000 in
theorem join_any (a b : ByteArray) (ha : a.size ≤ 140737488355328) (hb : b.size ≤ 140737488355328) (w : World) (m : Int) (hm : w.cell? ⟨0, 0, none⟩ = some (.int .i64 m)) (hG : 0 < w.heap.size) :
    Calls Tryd.prog 29 #[.string a, .string b] w fun e w' => e = .returned (.tuple #[.string (joinT a b (joinP a b)), .int .i64 (joinE a b (joinP a b))]) ∧ Below w.heap.size w w' := by
  have hcell : ∀ W, Below w.heap.size w W → W.cell? ⟨0, 0, none⟩ = some (.int .i64 m) := fun W hB => by
    rw [hB.cell (p := ⟨0, 0, none⟩) hG]
    exact hm
  have HC := Lib.hid hcell
  have z0 := trim_size a
  have PV : ∀ W, Below w.heap.size w W → Calls Tryd.prog 28 #[.string (trimS a ++ ⟨#[47]⟩ ++ b)] W fun e w' => e = .returned (.bool (okB (joinP a b))) ∧ Below W.heap.size W w' := fun W hB => valid_ok _ W m (hcell W hB) (Nat.lt_of_lt_of_le hG hB.size)
  have PA : ∀ W, Below w.heap.size w W → Calls Tryd.prog 28 #[.string a] W fun e w' => e = .returned (.bool (okB a)) ∧ Below W.heap.size W w' := fun W hB => valid_ok _ W m (hcell W hB) (Nat.lt_of_lt_of_le hG hB.size)
  have HPV := Lib.hid PV
  have HPA := Lib.hid PA
  have hP : joinP a b = trimS a ++ ⟨#[47]⟩ ++ b := rfl
  clear hcell hm PV PA
  unfold joinT joinE
  rcases Bool.eq_false_or_eq_true (okB a) with g1 | g1
  · rcases Bool.eq_false_or_eq_true (slashIn b) with g2 | g2
    · skip
      have gg : joinBad a b (joinP a b) = true := by unfold joinBad; simp [g1, g2]
      rw [gg]
      clear gg
      go_enter Tryd.func29, Tryd.ntmps29
      go_wp2_with (first
        | (go_at_call 47; refine (trim_any a ha _).mono ?_; rintro e w1 ⟨rfl, n0, rfl⟩)
        | (go_at_call 28; refine (HPV.out _ hB2).mono ?_; rintro e w4 ⟨rfl, hb4⟩; have hB4 : Below w.heap.size w w4 := hB2.trans (hb4.mono hB2.size); rw [g3])
        | (go_at_call 28; refine (HPA.out _ (below_drewN' (Below.refl _ _) _)).mono ?_; rintro e w2 ⟨rfl, hb2⟩; have hB2 : Below w.heap.size w w2 := (below_drewN' (Below.refl _ _) n0).trans hb2; rw [g1])
        | (go_at_call 48; refine (Tryd.strings_Contains_one b 47 _).mono ?_; rintro e w3 ⟨rfl, rfl⟩; rw [show decide (0 ≤ Lib.indexByte b.data.toList 47) = _ from g2]))
      go_ret2
      exact ⟨rfl, by first | exact hB4 | exact hB2⟩
    · rcases Bool.eq_false_or_eq_true (okB (joinP a b)) with g3 | g3
      · rcases Bool.eq_false_or_eq_true (b.toList == []) with g4 | g4
        · skip
          have gg : joinBad a b (joinP a b) = true := by unfold joinBad; simp [g1, g2, g3, g4]
          rw [gg]
          clear gg
          go_enter Tryd.func29, Tryd.ntmps29
          go_wp2_with (first
            | (go_at_call 47; refine (trim_any a ha _).mono ?_; rintro e w1 ⟨rfl, n0, rfl⟩)
            | (go_at_call 28; refine (HPV.out _ hB2).mono ?_; rintro e w4 ⟨rfl, hb4⟩; have hB4 : Below w.heap.size w w4 := hB2.trans (hb4.mono hB2.size); rw [g3])
            | (go_at_call 28; refine (HPA.out _ (below_drewN' (Below.refl _ _) _)).mono ?_; rintro e w2 ⟨rfl, hb2⟩; have hB2 : Below w.heap.size w w2 := (below_drewN' (Below.refl _ _) n0).trans hb2; rw [g1])
            | (go_at_call 48; refine (Tryd.strings_Contains_one b 47 _).mono ?_; rintro e w3 ⟨rfl, rfl⟩; rw [show decide (0 ≤ Lib.indexByte b.data.toList 47) = _ from g2]))
          go_ret2
          exact ⟨rfl, by first | exact hB4 | exact hB2⟩
        · skip
          have gg : joinBad a b (joinP a b) = false := by unfold joinBad; simp [g1, g2, g3, g4]
          rw [gg]
          clear gg
          go_enter Tryd.func29, Tryd.ntmps29
          go_wp2_with (first
            | (go_at_call 47; refine (trim_any a ha _).mono ?_; rintro e w1 ⟨rfl, n0, rfl⟩)
            | (go_at_call 28; refine (HPV.out _ hB2).mono ?_; rintro e w4 ⟨rfl, hb4⟩; have hB4 : Below w.heap.size w w4 := hB2.trans (hb4.mono hB2.size); rw [g3])
            | (go_at_call 28; refine (HPA.out _ (below_drewN' (Below.refl _ _) _)).mono ?_; rintro e w2 ⟨rfl, hb2⟩; have hB2 : Below w.heap.size w w2 := (below_drewN' (Below.refl _ _) n0).trans hb2; rw [g1])
            | (go_at_call 48; refine (Tryd.strings_Contains_one b 47 _).mono ?_; rintro e w3 ⟨rfl, rfl⟩; rw [show decide (0 ≤ Lib.indexByte b.data.toList 47) = _ from g2]))
          go_ret2
          exact ⟨rfl, by first | exact hB4 | exact hB2⟩
      · skip
        have gg : joinBad a b (joinP a b) = true := by unfold joinBad; simp [g1, g2, g3]
        rw [gg]
        clear gg
        go_enter Tryd.func29, Tryd.ntmps29
        go_wp2_with (first
          | (go_at_call 47; refine (trim_any a ha _).mono ?_; rintro e w1 ⟨rfl, n0, rfl⟩)
          | (go_at_call 28; refine (HPV.out _ hB2).mono ?_; rintro e w4 ⟨rfl, hb4⟩; have hB4 : Below w.heap.size w w4 := hB2.trans (hb4.mono hB2.size); rw [g3])
          | (go_at_call 28; refine (HPA.out _ (below_drewN' (Below.refl _ _) _)).mono ?_; rintro e w2 ⟨rfl, hb2⟩; have hB2 : Below w.heap.size w w2 := (below_drewN' (Below.refl _ _) n0).trans hb2; rw [g1])
          | (go_at_call 48; refine (Tryd.strings_Contains_one b 47 _).mono ?_; rintro e w3 ⟨rfl, rfl⟩; rw [show decide (0 ≤ Lib.indexByte b.data.toList 47) = _ from g2]))
        go_ret2
        exact ⟨rfl, by first | exact hB4 | exact hB2⟩
  · skip
    have gg : joinBad a b (joinP a b) = true := by unfold joinBad; simp [g1]
    rw [gg]
    clear gg
    go_enter Tryd.func29, Tryd.ntmps29
    go_wp2_with (first
      | (go_at_call 47; refine (trim_any a ha _).mono ?_; rintro e w1 ⟨rfl, n0, rfl⟩)
      | (go_at_call 28; refine (HPV.out _ hB2).mono ?_; rintro e w4 ⟨rfl, hb4⟩; have hB4 : Below w.heap.size w w4 := hB2.trans (hb4.mono hB2.size); rw [g3])
      | (go_at_call 28; refine (HPA.out _ (below_drewN' (Below.refl _ _) _)).mono ?_; rintro e w2 ⟨rfl, hb2⟩; have hB2 : Below w.heap.size w w2 := (below_drewN' (Below.refl _ _) n0).trans hb2; rw [g1])
      | (go_at_call 48; refine (Tryd.strings_Contains_one b 47 _).mono ?_; rintro e w3 ⟨rfl, rfl⟩; rw [show decide (0 ≤ Lib.indexByte b.data.toList 47) = _ from g2]))
    go_ret2
    exact ⟨rfl, by first | exact hB4 | exact hB2⟩
theorem slash_no {b : ByteArray} (h : ∀ j, j < b.size → byteAt b j ≠ 47) : slashIn b = false := by
  unfold slashIn
  rw [decide_eq_false_iff_not]
  intro h0
  obtain ⟨o, ho⟩ : ∃ o : Nat, Lib.indexByte b.data.toList 47 = o := ⟨(Lib.indexByte b.data.toList 47).toNat, by omega⟩
  have h1 := (Lib.indexByte_some ho).1
  have hl : o < b.size := by rw [Lib.size_eq]; exact (List.getElem?_eq_some_iff.1 h1).1
  exact h o hl (byteAt_of_list b o 47 h1)
theorem slash_yes {b : ByteArray} (k : Nat) (hk : k < b.size) (h : byteAt b k = 47) : slashIn b = true := by
  unfold slashIn
  rw [decide_eq_true_eq]
  rcases Int.lt_or_le (Lib.indexByte b.data.toList 47) 0 with h0 | h0
  · exfalso
    have hge : -1 ≤ Lib.indexByte b.data.toList 47 := by
      generalize b.data.toList = l
      induction l with
      | nil => decide
      | cons x l ih =>
        unfold Lib.indexByte
        split
        · decide
        · split <;> omega
    have h1 := Lib.indexByte_none (l := b.data.toList) (c := 47) (by omega) k
    rw [byteAt_list b k hk, h] at h1
    exact h1 rfl
  · exact h0
theorem join_ret {a b p : ByteArray} {t : ByteArray} {e : Int} (h : (joinBad a b p = true ∧ t = ⟨#[]⟩ ∧ e = 30) ∨ (joinBad a b p = false ∧ t = p ∧ e = 0)) : Ending.returned (.tuple #[.string t, .int .i64 e]) = .returned (.tuple #[.string (joinT a b p), .int .i64 (joinE a b p)]) := by
  unfold joinT joinE
  rcases h with ⟨h, rfl, rfl⟩ | ⟨h, rfl, rfl⟩ <;> rw [h] <;> rfl
theorem joinP_root {a b : ByteArray} (h : (a.toList == [47]) = true) : joinP a b = ⟨#[47]⟩ ++ b := by
  have : a = ⟨#[47]⟩ := by
    rw [Lib.toList_data, beq_iff_eq] at h
    rw [← Lib.mk_data a, h]
  subst this
  have e : trimS ⟨#[47]⟩ = ⟨#[]⟩ := by decide
  unfold joinP
  rw [e]
  rfl
theorem joinP_else {a b : ByteArray} (hok : okB a = true) (h : (a.toList == [47]) = false) : joinP a b = a ++ ⟨#[47]⟩ ++ b := by
  obtain ⟨x, _, y, z⟩ := ok_parts ((okB_iff a).1 hok)
  rw [toList_one] at h
  have h := of_decide_eq_false h
  have h1 : a.size ≠ 1 := fun hh => h ⟨hh, y⟩
  have e : trimS a = a := by
    unfold trimS
    rw [if_neg]
    rintro ⟨_, h2⟩
    rcases z with z | z
    · exact h1 z
    · exact z.1 h2
  unfold joinP
  rw [e]

end Go.Proofs.YtkhnchahoidbaaaDoor
