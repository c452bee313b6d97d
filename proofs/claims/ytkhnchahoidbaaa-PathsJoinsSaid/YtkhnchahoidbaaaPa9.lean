/- Join by the program and by the reference: the walks. -/
import Derived.Test.YtkhnchahoidbaaaPa7
import Derived.Test.YtkhnchahoidbaaaPa8
namespace Go.Proofs.Ytkhnchahoidbaaa
open Go.RowKit

/-- a text without a slash at its end -/
def trimS (s : ByteArray) : ByteArray := if 0 < s.size ∧ byteAt s (s.size - 1) = 47 then s.extract 0 (s.size - 1) else s
theorem tail_eq (s : ByteArray) (h : 0 < s.size) : ((s.extract (s.size - 1) s.size).toList == [47]) = decide (byteAt s (s.size - 1) = 47) := by
  have hz : (s.extract (s.size - 1) s.size).size = 1 := by simp only [ByteArray.size_extract]; omega
  have hb : byteAt (s.extract (s.size - 1) s.size) 0 = byteAt s (s.size - 1) := by
    refine (byteAt_of_list _ _ (UInt8.ofNat (byteAt s (s.size - 1))) ?_).trans ?_
    · rw [Lib.extract_data, List.getElem?_take, if_pos (by omega), List.getElem?_drop]
      exact byteAt_list s (s.size - 1 + 0) (by omega)
    · have := byteAt_lt s (s.size - 1)
      rw [UInt8.toNat_ofNat']
      omega
  rw [toList_one, hz, hb]
  rw [Bool.eq_iff_iff]
  simp

set_option maxRecDepth 100000 in
set_option maxHeartbeats 1000000 in
theorem trim_any (s : ByteArray) (hs : s.size ≤ 140737488355328) (w : World) :
    Calls Try.prog 22 #[.string s, .string ⟨#[47]⟩] w fun e w' => e = .returned (.string (trimS s)) ∧ ∃ n, w' = w.drewN n := by
  by_cases h : 0 < s.size
  · have ht := tail_eq s h
    by_cases hb : byteAt s (s.size - 1) = 47
    · have e : trimS s = s.extract 0 (s.size - 1) := by unfold trimS; rw [if_pos ⟨h, hb⟩]
      have ht : ((s.extract (s.size - 1) s.size).toList == [47]) = true := by rw [ht]; exact decide_eq_true hb
      have he : (s.size : Int) - 1 = ((s.size - 1 : Nat) : Int) := by omega
      rw [e]
      go_enter Try.func22, Try.ntmps22
      go_wp2
      all_goals
        go_ret
        exact ⟨rfl, 0, rfl⟩
    · have e : trimS s = s := by unfold trimS; rw [if_neg (fun hh => hb hh.2)]
      have ht : ((s.extract (s.size - 1) s.size).toList == [47]) = false := by rw [ht]; exact decide_eq_false hb
      rw [e]
      go_enter Try.func22, Try.ntmps22
      go_wp2
      all_goals
        go_ret
        exact ⟨rfl, 0, rfl⟩
  · have e : trimS s = s := by unfold trimS; rw [if_neg (fun hh => h hh.1)]
    rw [e]
    go_enter Try.func22, Try.ntmps22
    go_wp2
    all_goals
      go_ret
      exact ⟨rfl, 0, rfl⟩

def okB (s : ByteArray) : Bool := (checkOf s).1 == 0
theorem okB_iff (s : ByteArray) : okB s = true ↔ okS s := by unfold okB okS; simp
theorem valid_ok (s : ByteArray) (w : World) (m : Int) (hm : w.cell? ⟨0, 0, none⟩ = some (.int .i64 m)) (hG : 0 < w.heap.size) :
    Calls Try.prog 9 #[.string s] w fun e w' => e = .returned (.bool (okB s)) ∧ Below w.heap.size w w' := valid_any s w m hm hG
theorem rvalid_ok (s : ByteArray) (w : World) : Calls Try.prog 10 #[.string s] w fun e w' => e = .returned (.bool (okB s)) ∧ ∃ n, w' = w.drewN n := rvalid_any s w

/-- is there a slash? -/
def slashIn (s : ByteArray) : Bool := decide (0 ≤ Lib.indexByte s.data.toList 47)
def joinP (a b : ByteArray) : ByteArray := trimS a ++ ⟨#[47]⟩ ++ b
def joinBad (a b p : ByteArray) : Bool := !okB a || slashIn b || !okB p || (b.toList == [])
def joinT (a b p : ByteArray) : ByteArray := if joinBad a b p = true then ⟨#[]⟩ else p
def joinE (a b p : ByteArray) : Int := if joinBad a b p = true then 30 else 0

theorem trim_size (s : ByteArray) : (trimS s).size ≤ s.size := by
  unfold trimS
  split
  · simp only [ByteArray.size_extract]; omega
  · exact Nat.le_refl _
theorem cat_size (a b : ByteArray) : (joinP a b).size ≤ a.size + 1 + b.size := by
  have := trim_size a
  unfold joinP
  rw [size_append, size_append]
  show (trimS a).size + 1 + b.size ≤ _
  omega

set_option maxRecDepth 100000 in
set_option maxHeartbeats 2000000 in
theorem join_any (a b : ByteArray) (ha : a.size ≤ 140737488355328) (hb : b.size ≤ 140737488355328) (w : World) (m : Int) (hm : w.cell? ⟨0, 0, none⟩ = some (.int .i64 m)) (hG : 0 < w.heap.size) :
    Calls Try.prog 11 #[.string a, .string b] w fun e w' => e = .returned (.tuple #[.string (joinT a b (joinP a b)), .int .i64 (joinE a b (joinP a b))]) ∧ Below w.heap.size w w' := by
  have hcell : ∀ W, Below w.heap.size w W → W.cell? ⟨0, 0, none⟩ = some (.int .i64 m) := fun W hB => by
    rw [hB.cell (p := ⟨0, 0, none⟩) hG]
    exact hm
  have HC := Lib.hid hcell
  have z0 := trim_size a
  have PV : ∀ W, Below w.heap.size w W → Calls Try.prog 9 #[.string (trimS a ++ ⟨#[47]⟩ ++ b)] W fun e w' => e = .returned (.bool (okB (joinP a b))) ∧ Below W.heap.size W w' := fun W hB => valid_ok _ W m (hcell W hB) (Nat.lt_of_lt_of_le hG hB.size)
  have PA : ∀ W, Below w.heap.size w W → Calls Try.prog 9 #[.string a] W fun e w' => e = .returned (.bool (okB a)) ∧ Below W.heap.size W w' := fun W hB => valid_ok _ W m (hcell W hB) (Nat.lt_of_lt_of_le hG hB.size)
  have HPV := Lib.hid PV
  have HPA := Lib.hid PA
  have hP : joinP a b = trimS a ++ ⟨#[47]⟩ ++ b := rfl
  clear hcell hm PV PA
  unfold joinT joinE
  rcases Bool.eq_false_or_eq_true (okB a) with g1 | g1
  · rcases Bool.eq_false_or_eq_true (slashIn b) with g2 | g2
    · skip
      have gg : joinBad a b (joinP a b) = true := by unfold joinBad; simp [g1, g2]
      rw [gg]
      clear gg
      go_enter Try.func11, Try.ntmps11
      go_wp2_with (first
        | (go_at_call 22; refine (trim_any a ha _).mono ?_; rintro e w1 ⟨rfl, n0, rfl⟩)
        | (go_at_call 9; refine (HPV.out _ hB2).mono ?_; rintro e w4 ⟨rfl, hb4⟩; have hB4 : Below w.heap.size w w4 := hB2.trans (hb4.mono hB2.size); rw [g3])
        | (go_at_call 9; refine (HPA.out _ (below_drewN' (Below.refl _ _) _)).mono ?_; rintro e w2 ⟨rfl, hb2⟩; have hB2 : Below w.heap.size w w2 := (below_drewN' (Below.refl _ _) n0).trans hb2; rw [g1])
        | (go_at_call 23; refine (Try.strings_Contains_one b 47 _).mono ?_; rintro e w3 ⟨rfl, rfl⟩; rw [show decide (0 ≤ Lib.indexByte b.data.toList 47) = _ from g2]))
      go_ret2
      exact ⟨rfl, by first | exact hB4 | exact hB2⟩
    · rcases Bool.eq_false_or_eq_true (okB (joinP a b)) with g3 | g3
      · rcases Bool.eq_false_or_eq_true (b.toList == []) with g4 | g4
        · skip
          have gg : joinBad a b (joinP a b) = true := by unfold joinBad; simp [g1, g2, g3, g4]
          rw [gg]
          clear gg
          go_enter Try.func11, Try.ntmps11
          go_wp2_with (first
            | (go_at_call 22; refine (trim_any a ha _).mono ?_; rintro e w1 ⟨rfl, n0, rfl⟩)
            | (go_at_call 9; refine (HPV.out _ hB2).mono ?_; rintro e w4 ⟨rfl, hb4⟩; have hB4 : Below w.heap.size w w4 := hB2.trans (hb4.mono hB2.size); rw [g3])
            | (go_at_call 9; refine (HPA.out _ (below_drewN' (Below.refl _ _) _)).mono ?_; rintro e w2 ⟨rfl, hb2⟩; have hB2 : Below w.heap.size w w2 := (below_drewN' (Below.refl _ _) n0).trans hb2; rw [g1])
            | (go_at_call 23; refine (Try.strings_Contains_one b 47 _).mono ?_; rintro e w3 ⟨rfl, rfl⟩; rw [show decide (0 ≤ Lib.indexByte b.data.toList 47) = _ from g2]))
          go_ret2
          exact ⟨rfl, by first | exact hB4 | exact hB2⟩
        · skip
          have gg : joinBad a b (joinP a b) = false := by unfold joinBad; simp [g1, g2, g3, g4]
          rw [gg]
          clear gg
          go_enter Try.func11, Try.ntmps11
          go_wp2_with (first
            | (go_at_call 22; refine (trim_any a ha _).mono ?_; rintro e w1 ⟨rfl, n0, rfl⟩)
            | (go_at_call 9; refine (HPV.out _ hB2).mono ?_; rintro e w4 ⟨rfl, hb4⟩; have hB4 : Below w.heap.size w w4 := hB2.trans (hb4.mono hB2.size); rw [g3])
            | (go_at_call 9; refine (HPA.out _ (below_drewN' (Below.refl _ _) _)).mono ?_; rintro e w2 ⟨rfl, hb2⟩; have hB2 : Below w.heap.size w w2 := (below_drewN' (Below.refl _ _) n0).trans hb2; rw [g1])
            | (go_at_call 23; refine (Try.strings_Contains_one b 47 _).mono ?_; rintro e w3 ⟨rfl, rfl⟩; rw [show decide (0 ≤ Lib.indexByte b.data.toList 47) = _ from g2]))
          go_ret2
          exact ⟨rfl, by first | exact hB4 | exact hB2⟩
      · skip
        have gg : joinBad a b (joinP a b) = true := by unfold joinBad; simp [g1, g2, g3]
        rw [gg]
        clear gg
        go_enter Try.func11, Try.ntmps11
        go_wp2_with (first
          | (go_at_call 22; refine (trim_any a ha _).mono ?_; rintro e w1 ⟨rfl, n0, rfl⟩)
          | (go_at_call 9; refine (HPV.out _ hB2).mono ?_; rintro e w4 ⟨rfl, hb4⟩; have hB4 : Below w.heap.size w w4 := hB2.trans (hb4.mono hB2.size); rw [g3])
          | (go_at_call 9; refine (HPA.out _ (below_drewN' (Below.refl _ _) _)).mono ?_; rintro e w2 ⟨rfl, hb2⟩; have hB2 : Below w.heap.size w w2 := (below_drewN' (Below.refl _ _) n0).trans hb2; rw [g1])
          | (go_at_call 23; refine (Try.strings_Contains_one b 47 _).mono ?_; rintro e w3 ⟨rfl, rfl⟩; rw [show decide (0 ≤ Lib.indexByte b.data.toList 47) = _ from g2]))
        go_ret2
        exact ⟨rfl, by first | exact hB4 | exact hB2⟩
  · skip
    have gg : joinBad a b (joinP a b) = true := by unfold joinBad; simp [g1]
    rw [gg]
    clear gg
    go_enter Try.func11, Try.ntmps11
    go_wp2_with (first
      | (go_at_call 22; refine (trim_any a ha _).mono ?_; rintro e w1 ⟨rfl, n0, rfl⟩)
      | (go_at_call 9; refine (HPV.out _ hB2).mono ?_; rintro e w4 ⟨rfl, hb4⟩; have hB4 : Below w.heap.size w w4 := hB2.trans (hb4.mono hB2.size); rw [g3])
      | (go_at_call 9; refine (HPA.out _ (below_drewN' (Below.refl _ _) _)).mono ?_; rintro e w2 ⟨rfl, hb2⟩; have hB2 : Below w.heap.size w w2 := (below_drewN' (Below.refl _ _) n0).trans hb2; rw [g1])
      | (go_at_call 23; refine (Try.strings_Contains_one b 47 _).mono ?_; rintro e w3 ⟨rfl, rfl⟩; rw [show decide (0 ≤ Lib.indexByte b.data.toList 47) = _ from g2]))
    go_ret2
    exact ⟨rfl, by first | exact hB4 | exact hB2⟩
end Go.Proofs.Ytkhnchahoidbaaa
