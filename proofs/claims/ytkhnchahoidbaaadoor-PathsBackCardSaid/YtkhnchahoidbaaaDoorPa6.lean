/- The first fault of a text by the program: the walk. -/
import Derived.Test.YtkhnchahoidbaaaDoorPa4
import Derived.Test.YtkhnchahoidbaaaDoorPa5
import Derived.Test.YtkhnchahoidbaaaDoorShelf
import Derived.WalkMore
namespace Go.Proofs.YtkhnchahoidbaaaDoor
open Go.RowKit

theorem cut_at (s : ByteArray) (i : Nat) (m : Int) (w : World) (hs : s.size < 4294967281) (hm : w.cell? ⟨0, 0, none⟩ = some (.int .i64 m)) :
    Calls Tryd.prog 65 #[.string (s.extract i s.size), .string ⟨#[47]⟩] w fun e w' => (∃ x b, e = .returned (.tuple #[.string ⟨(partL s i).toArray⟩, .string x, .bool b])) ∧ ∃ n, w' = w.drewN n := by
  refine (Tryd.strings_Cut (s.extract i s.size) ⟨#[47]⟩ m w (by simp only [ByteArray.size_extract]; omega) hm).mono ?_
  rintro e w' ⟨rfl, n, rfl⟩
  have e : (Lib.cut (s.extract i s.size).data.toList (⟨#[47]⟩ : ByteArray).data.toList).1 = partL s i := by
    rw [show (⟨#[47]⟩ : ByteArray).data.toList = [47] from rfl, cut_slash, Lib.extract_data, List.take_of_length_le (by rw [List.length_drop, ← Lib.size_eq]; exact Nat.le_refl _)]
    rfl
  rw [e]
  exact ⟨⟨_, _, rfl⟩, n, rfl⟩

/-- what a slash behind a place means -/
theorem behind (s : ByteArray) (pos bg : Nat) (hbg : bg ≤ pos) (hb : byteAt s pos ≠ 47) : bg = pos + wid s pos ↔ byteAt s (pos + wid s pos - 1) = 47 := by
  have hw := wid_pos s pos
  constructor
  · omega
  · intro h
    exfalso
    rcases Nat.eq_or_lt_of_le hw with h1 | h1
    · rw [← h1] at h
      exact hb h
    · have := wid_in s pos (pos + wid s pos - 1) (by omega) (by omega)
      omega

set_option maxRecDepth 100000 in
set_option maxHeartbeats 4000000 in
theorem check_any (s : ByteArray) (w : World) (m : Int) (hm : w.cell? ⟨0, 0, none⟩ = some (.int .i64 m)) (hG : 0 < w.heap.size) :
    Calls Tryd.prog 46 #[.string s] w fun e w' => e = .returned (.tuple #[.int .i64 (checkOf s).1, .int .i64 (checkOf s).2]) ∧ Below w.heap.size w w' := by
  have q0 := toList_nil s
  have q1 := toList_one s 47
  by_cases h0 : s.size = 0
  · have e : checkOf s = (1, 0) := by unfold checkOf; rw [if_pos h0]
    rw [h0] at q0
    go_enter Tryd.func46, Tryd.ntmps46
    go_wp2
    go_step3
    go_wp2
    rw [Exit.noGoto_ret]
    go_ret2
    exact ⟨(by first | rfl | exact retc e), Below.refl _ _⟩
  have q0' : (s.toList == []) = false := by rw [q0]; exact decide_eq_false h0
  by_cases h1 : 4096 < s.size
  · have e : checkOf s = (2, 4096) := by unfold checkOf; rw [if_neg h0, if_pos h1]
    go_enter Tryd.func46, Tryd.ntmps46
    go_wp2
    go_step3
    go_wp2
    rw [Exit.noGoto_ret]
    go_ret2
    exact ⟨(by first | rfl | exact retc e), Below.refl _ _⟩
  have hs : s.size ≤ 140737488355328 := by omega
  have hb0 := fun kd W => run_byte_at (P := Tryd.prog) W 9 s kd 0 0 Tryd.underlying9 rfl (by omega)
  have hbl := byteAt_lt s 0
  by_cases h2 : byteAt s 0 = 47
  · by_cases h3 : s.size = 1
    · have e : checkOf s = (0, -1) := by unfold checkOf; rw [if_neg h0, if_neg h1, if_neg (by omega), if_pos h3]
      have q1' : (s.toList == [47]) = true := by rw [q1]; exact decide_eq_true ⟨h3, h2⟩
      clear q1
      go_enter Tryd.func46, Tryd.ntmps46
      go_wp2
      go_step3
      go_wp2
      rw [Exit.noGoto_ret]
      go_ret2
      exact ⟨(by first | rfl | exact retc e), Below.refl _ _⟩
    · have q1' : (s.toList == [47]) = false := by rw [q1]; exact decide_eq_false (fun h => h3 h.1)
      clear q1
      have hbe := fun kd W => run_byte_at (P := Tryd.prog) W 9 s kd (↑s.size - 1) (s.size - 1) Tryd.underlying9 (by omega) (by omega)
      by_cases h4 : byteAt s (s.size - 1) = 47
      · have e : checkOf s = (4, (s.size : Int) - 1) := by unfold checkOf; rw [if_neg h0, if_neg h1, if_neg (by omega), if_neg h3, if_pos h4]
        go_enter Tryd.func46, Tryd.ntmps46
        go_wp2
        go_step3
        go_wp2
        rw [Exit.noGoto_ret]
        go_ret2
        exact ⟨(by first | rfl | exact retc e), Below.refl _ _⟩
      · have e : checkOf s = checkFrom s s.size 0 := by unfold checkOf; rw [if_neg h0, if_neg h1, if_neg (by omega), if_neg h3, if_neg h4]
        have HE := Lib.hid e
        have HM := Lib.hid hm
        have h4i : ((byteAt s (s.size - 1) : Int) == 47) = false := by rw [beq_eq_false_iff_ne]; omega
        clear e hm
        go_enter Tryd.func46, Tryd.ntmps46
        go_wp2
        go_step3
        go_wp2_with (go_at_call 64; refine (first_any s _ hs).mono ?_; rintro e w1 ⟨⟨k, rfl⟩, hb1⟩)
        go_step3
        go_wp2
        go_loopw [6] (fun v wr => ∃ (pos fuel bg : Nat), v = .int .i64 bg ∧ wr.heap[w1.heap.size]? = some (.stringIter s pos) ∧ Below w1.heap.size w1 wr ∧ pos ≤ s.size ∧ s.size ≤ pos + fuel ∧ bg ≤ pos ∧ Hid (checkFrom s fuel pos = checkFrom s s.size 0) ∧ Hid (firstBad s fuel pos = firstBad s s.size 0) ∧ Hid (0 < pos → (bg = pos ↔ byteAt s (pos - 1) = 47))) (fun _ wr => s.size - wr.iterPos w1.heap.size)
        case atStart => exact ⟨0, s.size, 0, rfl, World.iter_heap w1 s 0, (Below.refl _ _).alloc (Nat.le_refl _) _, by omega, by omega, by omega, rfl, rfl, fun h => absurd h (by omega)⟩
        case round =>
          obtain ⟨pos, fuel, bg, rfl, hit, hbw, hp, hf, hbg, HS, HF, HB⟩ := hrel
          have hpos0 := iterPos_of hit
          have hm1 : ∀ W, Below w1.heap.size w1 W → W.cell? ⟨0, 0, none⟩ = some (.int .i64 m) := fun W hB => by
            rw [hB.cell (p := ⟨0, 0, none⟩) (Nat.lt_of_lt_of_le hG hb1.size), hb1.cell (p := ⟨0, 0, none⟩) hG]
            exact HM.out
          have HM1 := Lib.hid hm1
          have hback : ∀ W, Below w1.heap.size w1 W → Below w.heap.size w W := fun W hB => hb1.trans (hB.mono hb1.size)
          clear hm1 HM
          by_cases hlt : pos < s.size
          · have hnx : ∀ ty, (Instr.next (.pointer (some ⟨w1.heap.size, 0, none⟩)) true ty).run Tryd.prog wr = _ := fun ty => Lib.run_next_any_at wr w1.heap.size s pos ty hit hlt
            have hwd := wid_pos s pos
            have hwl := wid_le s pos hlt
            obtain ⟨fuel, rfl⟩ : ∃ f', fuel = f' + 1 := ⟨fuel - 1, by omega⟩
            have hit2 := Lib.iterAt_heap wr w1.heap.size s pos (pos + (Utf8.decode s pos).2) hit
            have hbw2 := Lib.below_iterAt hbw (k := w1.heap.size) (Nat.le_refl _) s (pos + (Utf8.decode s pos).2)
            obtain ⟨W1, hW1⟩ : ∃ W1, W1 = wr.iterAt w1.heap.size s (pos + (Utf8.decode s pos).2) := ⟨_, rfl⟩
            rw [← hW1] at hnx hit2 hbw2
            clear hW1
            change ∀ ty, (Instr.next (.pointer (some ⟨w1.heap.size, 0, none⟩)) true ty).run Tryd.prog wr = .ok (.tuple #[.bool true, .int .i64 pos, .int .i32 (rn s pos : Int)]) W1 at hnx
            change W1.heap[w1.heap.size]? = some (.stringIter s (pos + wid s pos)) at hit2
            clear hit hbw
            rcases Bool.eq_false_or_eq_true (plainAt s pos) with hpl | hpl
            · have hF2 := HF.out
              rw [firstBad_step s fuel pos hlt hpl] at hF2
              have hq : ((pos : Int) == firstBad s s.size 0) = false := by
                rw [beq_eq_false_iff_ne, ← hF2]
                rcases firstBad_ge s fuel (pos + wid s pos) with h | h <;> omega
              have HF2 := Lib.hid hF2
              clear hF2 HF
              by_cases hb : byteAt s pos = 47
              · have hw : wid s pos = 1 := (wid_ascii s pos (by omega)).1
                have hrn : rn s pos = 47 := by rw [(wid_ascii s pos (by omega)).2, hb]
                have hr : ((rn s pos : Int) != 47) = false := by rw [hrn]; rfl
                by_cases hz : 0 < pos
                · by_cases hv : byteAt s (pos - 1) = 47
                  · have hg : ((bg : Int) == (pos : Int)) = true := by
                      rw [beq_iff_eq, (HB.out hz).2 hv]
                    have ee : checkOf s = (5, (pos : Int)) := by rw [HE.out, ← HS.out, checkFrom, if_pos hlt, if_pos hb, if_pos ⟨hz, hv⟩]
                    clear HE HS
                    go_wp2
                    rw [Exit.noGoto_ret]
                    go_ret2
                    exact ⟨(by first | rfl | exact retc ee), hback _ hbw2⟩
                  · have hg : ((bg : Int) == (pos : Int)) = false := by
                      rw [beq_eq_false_iff_ne]
                      intro h
                      exact hv ((HB.out hz).1 (by omega))
                    rcases Bool.eq_false_or_eq_true (partL s (pos + 1) == [46]) with p1 | p1
                    · have hd : dotsL (partL s (pos + 1)) = true := by unfold dotsL; rw [p1]; rfl
                      have ee : checkOf s = (6, (pos : Int) + 1) := by rw [HE.out, ← HS.out, checkFrom, if_pos hlt, if_pos hb, if_neg (fun h => hv h.2), if_pos hd]
                      clear HE HS
                      go_wp2_with (go_at_call 65; refine (cut_at s (pos + 1) m _ (by omega) (HM1.out _ (by first | exact hbw2 | exact below_drewN' hbw2 _ | go_grown))).mono ?_; rintro e w3 ⟨⟨x, b, rfl⟩, n, rfl⟩)
                      all_goals
                        rw [Exit.noGoto_ret]
                        go_ret2
                        exact ⟨(by first | rfl | exact retc ee), hback _ (by first | exact hbw2 | exact below_drewN' hbw2 _)⟩
                    · rcases Bool.eq_false_or_eq_true (partL s (pos + 1) == [46, 46]) with p2 | p2
                      · have hd : dotsL (partL s (pos + 1)) = true := by unfold dotsL; rw [p1, p2]; rfl
                        have ee : checkOf s = (6, (pos : Int) + 1) := by rw [HE.out, ← HS.out, checkFrom, if_pos hlt, if_pos hb, if_neg (fun h => hv h.2), if_pos hd]
                        clear HE HS
                        go_wp2_with (go_at_call 65; refine (cut_at s (pos + 1) m _ (by omega) (HM1.out _ (by first | exact hbw2 | exact below_drewN' hbw2 _ | go_grown))).mono ?_; rintro e w3 ⟨⟨x, b, rfl⟩, n, rfl⟩)
                        all_goals
                          rw [Exit.noGoto_ret]
                          go_ret2
                          exact ⟨(by first | rfl | exact retc ee), hback _ (by first | exact hbw2 | exact below_drewN' hbw2 _)⟩
                      · have hd : ¬ dotsL (partL s (pos + 1)) = true := by unfold dotsL; rw [p1, p2]; decide
                        have HS2 : Hid (checkFrom s fuel (pos + wid s pos) = checkFrom s s.size 0) := by show _ = _; rw [← HS.out, checkFrom, if_pos hlt, if_pos hb, if_neg (fun h => hv h.2), if_neg hd, hw]
                        clear HS HB
                        go_wp2_with (go_at_call 65; refine (cut_at s (pos + 1) m _ (by omega) (HM1.out _ (by first | exact hbw2 | exact below_drewN' hbw2 _ | go_grown))).mono ?_; rintro e w3 ⟨⟨x, b, rfl⟩, n, rfl⟩)
                        go_roundw
                        case rel => exact ⟨pos + wid s pos, fuel, pos + 1, by simp, hit2, below_drewN' hbw2 _, hwl, by omega, by omega, HS2, HF2, fun _ => by rw [hw]; simp [hb]⟩
                        case measure =>
                          have hq2 : (W1.drewN n).iterPos w1.heap.size = pos + wid s pos := iterPos_of hit2
                          rw [hq2, hpos0]
                          omega
                · skip
                  rcases Bool.eq_false_or_eq_true (partL s (pos + 1) == [46]) with p1 | p1
                  · have hd : dotsL (partL s (pos + 1)) = true := by unfold dotsL; rw [p1]; rfl
                    have ee : checkOf s = (6, (pos : Int) + 1) := by rw [HE.out, ← HS.out, checkFrom, if_pos hlt, if_pos hb, if_neg (fun h => hz h.1), if_pos hd]
                    clear HE HS
                    go_wp2_with (go_at_call 65; refine (cut_at s (pos + 1) m _ (by omega) (HM1.out _ (by first | exact hbw2 | exact below_drewN' hbw2 _ | go_grown))).mono ?_; rintro e w3 ⟨⟨x, b, rfl⟩, n, rfl⟩)
                    all_goals
                      rw [Exit.noGoto_ret]
                      go_ret2
                      exact ⟨(by first | rfl | exact retc ee), hback _ (by first | exact hbw2 | exact below_drewN' hbw2 _)⟩
                  · rcases Bool.eq_false_or_eq_true (partL s (pos + 1) == [46, 46]) with p2 | p2
                    · have hd : dotsL (partL s (pos + 1)) = true := by unfold dotsL; rw [p1, p2]; rfl
                      have ee : checkOf s = (6, (pos : Int) + 1) := by rw [HE.out, ← HS.out, checkFrom, if_pos hlt, if_pos hb, if_neg (fun h => hz h.1), if_pos hd]
                      clear HE HS
                      go_wp2_with (go_at_call 65; refine (cut_at s (pos + 1) m _ (by omega) (HM1.out _ (by first | exact hbw2 | exact below_drewN' hbw2 _ | go_grown))).mono ?_; rintro e w3 ⟨⟨x, b, rfl⟩, n, rfl⟩)
                      all_goals
                        rw [Exit.noGoto_ret]
                        go_ret2
                        exact ⟨(by first | rfl | exact retc ee), hback _ (by first | exact hbw2 | exact below_drewN' hbw2 _)⟩
                    · have hd : ¬ dotsL (partL s (pos + 1)) = true := by unfold dotsL; rw [p1, p2]; decide
                      have HS2 : Hid (checkFrom s fuel (pos + wid s pos) = checkFrom s s.size 0) := by show _ = _; rw [← HS.out, checkFrom, if_pos hlt, if_pos hb, if_neg (fun h => hz h.1), if_neg hd, hw]
                      clear HS HB
                      go_wp2_with (go_at_call 65; refine (cut_at s (pos + 1) m _ (by omega) (HM1.out _ (by first | exact hbw2 | exact below_drewN' hbw2 _ | go_grown))).mono ?_; rintro e w3 ⟨⟨x, b, rfl⟩, n, rfl⟩)
                      go_roundw
                      case rel => exact ⟨pos + wid s pos, fuel, pos + 1, by simp, hit2, below_drewN' hbw2 _, hwl, by omega, by omega, HS2, HF2, fun _ => by rw [hw]; simp [hb]⟩
                      case measure =>
                        have hq2 : (W1.drewN n).iterPos w1.heap.size = pos + wid s pos := iterPos_of hit2
                        rw [hq2, hpos0]
                        omega
              · have hr : ((rn s pos : Int) != 47) = true := by
                  rw [bne_iff_ne]
                  intro h
                  have := rn_ascii s pos (by omega)
                  omega
                have HS2 : Hid (checkFrom s fuel (pos + wid s pos) = checkFrom s s.size 0) := by show _ = _; rw [← HS.out, checkFrom, if_pos hlt, if_neg hb, if_pos hpl]
                have HB2 := Lib.hid (behind s pos bg hbg hb)
                clear HS HB
                go_wp2
                go_roundw
                case rel => exact ⟨pos + wid s pos, fuel, bg, rfl, hit2, hbw2, hwl, by omega, by omega, HS2, HF2, fun _ => HB2.out⟩
                case measure =>
                  rw [iterPos_of hit2, hpos0]
                  omega
            · have hb : ¬ byteAt s pos = 47 := fun h => by
                rw [slash_plain s pos h] at hpl
                cases hpl
              have hq : ((pos : Int) == firstBad s s.size 0) = true := by
                rw [← HF.out, firstBad, if_pos hlt, hpl]
                simp
              have ee : checkOf s = (7, (pos : Int)) := by rw [HE.out, ← HS.out, checkFrom, if_pos hlt, if_neg hb, if_neg (by simp [hpl])]
              clear HE HS
              go_wp2
              rw [Exit.noGoto_ret]
              go_ret2
              exact ⟨(by first | rfl | exact retc ee), hback _ hbw2⟩
          · have hnx : ∀ ty, (Instr.next (.pointer (some ⟨w1.heap.size, 0, none⟩)) true ty).run Tryd.prog wr = _ := fun ty => Lib.run_next_end_at wr w1.heap.size s pos ty hit hlt
            have ee : checkOf s = (0, -1) := by
              rw [HE.out, ← HS.out]
              cases fuel with
              | zero => rfl
              | succ f => rw [checkFrom, if_neg hlt]
            clear HE
            go_wp2
            rw [Exit.noGoto_ret]
            go_ret2
            exact ⟨(by first | rfl | exact retc ee), hback _ hbw⟩
  · have e : checkOf s = (3, 0) := by unfold checkOf; rw [if_neg h0, if_neg h1, if_pos h2]
    go_enter Tryd.func46, Tryd.ntmps46
    go_wp2
    go_step3
    go_wp2
    rw [Exit.noGoto_ret]
    go_ret2
    exact ⟨(by first | rfl | exact retc e), Below.refl _ _⟩
end Go.Proofs.YtkhnchahoidbaaaDoor
