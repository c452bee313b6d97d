/- Parts by the program and by the reference: the walks. -/
import Derived.Test.YtkhnchahoidbaaaDoorPd11
namespace Go.Proofs.YtkhnchahoidbaaaDoor
open Go.RowKit

theorem str_info : (Tryd.prog.info? 9).map (fun i => (i.zero, i.size, i.bytes)) = some (some (.string .empty), 1, 16) := by kernel_rfl
def partsOf (s : ByteArray) : List ByteArray := if okB s = true then partsF s s.size 1 else []
def partsE (s : ByteArray) : Int := if okB s = true then 0 else 30

theorem reads_new (w : World) (t : TypeId) (L : List ByteArray) (n : Nat) (hn : L.length = n) : Reads (w.alloc (.cells (strs L).toArray t)) (w.heap.size + 1) 1 (some ⟨w.heap.size, 0, none⟩) n (strs L) := by
  subst hn
  refine ⟨by rw [strs_length, Nat.mul_one], fun _ => ⟨_, rfl, Nat.lt_succ_self _, fun j u hu => ?_⟩⟩
  have h := (Blk.new w t (strs L).toArray).cell j
  rw [Go.WideShapes.add_plain, Nat.zero_add, h]
  simpa using hu

set_option maxRecDepth 100000 in
set_option maxHeartbeats 1000000 in
theorem parts_all (s : ByteArray) (w : World) (m : Int) (hm : w.cell? ⟨0, 0, none⟩ = some (.int .i64 m)) (hG : 0 < w.heap.size) :
    Calls Tryd.prog 10 #[.string s] w fun e w' => (∃ A c, e = .returned (.tuple #[.slice A (partsOf s).length c, .int .i64 (partsE s)]) ∧ Reads w' w'.heap.size 1 A (partsOf s).length (strs (partsOf s))) ∧ Below w.heap.size w w' ∧ (partsOf s).length ≤ 4097 := by
  have hcell : ∀ W, Below w.heap.size w W → W.cell? ⟨0, 0, none⟩ = some (.int .i64 m) := fun W hB => by
    rw [hB.cell (p := ⟨0, 0, none⟩) hG]
    exact hm
  rcases Bool.eq_false_or_eq_true (okB s) with g1 | g1
  · obtain ⟨x, y, z, zz⟩ := ok_parts ((okB_iff s).1 g1)
    have hP : partsOf s = partsF s s.size 1 := by unfold partsOf; rw [if_pos g1]
    have hE : partsE s = 0 := by unfold partsE; rw [if_pos g1]
    rw [hE]
    rcases Bool.eq_false_or_eq_true (s.toList == [47]) with g2 | g2
    · have h1 : s.size = 1 := by
        rw [toList_one] at g2
        exact (of_decide_eq_true g2).1
      have hP0 : partsOf s = [] := by rw [hP, h1, partsF, if_neg (by omega)]
      rw [hP0]
      have HG := Lib.hid g1
      clear g1 hP hP0 hE
      go_enter Tryd.func10, Tryd.ntmps10
      go_wp2_with (go_at_call 28; refine (valid_ok s _ m hm hG).mono ?_; rintro e w1 ⟨rfl, hb1⟩; rw [HG.out])
      go_ret2
      exact ⟨⟨none, 0, rfl, Reads.none_⟩, hb1, by simp⟩
    · have h1 : s.size ≠ 1 := by
        intro h
        rw [toList_one] at g2
        exact of_decide_eq_false g2 ⟨h, z⟩
      have hend : byteAt s (s.size - 1) ≠ 47 := by
        rcases zz with h | h
        · exact absurd h h1
        · exact h.1
      have hS := split_parts s hend s.size 1 (by omega) (by omega)
      have hlen := Lib.splitB_all ⟨#[47]⟩ (by decide) 0 _ (s.extract 1 s.size) rfl
      have hcnt := Lib.countB_le ⟨#[47]⟩ (by decide) _ (s.extract 1 s.size) (Nat.le_refl _)
      have hz : (s.extract 1 s.size).size = s.size - 1 := by simp only [ByteArray.size_extract]; omega
      rw [hS, ← hP] at hlen
      have HS : Hid (∀ W, Below w.heap.size w W → Calls Tryd.prog 30 #[.string (s.extract 1 s.size), .string ⟨#[47]⟩] W fun e w' => (∃ A c, e = .returned (.slice A (partsOf s).length c) ∧ Reads w' w'.heap.size 1 A (partsOf s).length (strs (partsOf s))) ∧ Below w.heap.size w w') := by
        intro W hB
        refine (Tryd.strings_Split (s.extract 1 s.size) ⟨#[47]⟩ m W (by omega) (hcell W hB) (by decide)).mono ?_
        rintro e w' ⟨rfl, rfl⟩
        rw [hS, ← hP]
        refine ⟨⟨_, _, by rw [hlen], ?_⟩, hB.alloc hB.size _⟩
        have := reads_new W 9 (partsOf s) (partsOf s).length rfl
        simpa [strs] using this
      have hbd : (partsOf s).length ≤ 4097 := by omega
      have HG := Lib.hid g1
      clear g1 hP hE hS hlen hcnt hcell
      go_enter Tryd.func10, Tryd.ntmps10
      go_wp2_with (first
        | (go_at_call 28; refine (valid_ok s _ m hm hG).mono ?_; rintro e w1 ⟨rfl, hb1⟩; rw [HG.out])
        | (go_at_call 30; refine (HS.out _ hb1).mono ?_; rintro e w2 ⟨⟨A, c, rfl, hr⟩, hb2⟩))
      go_ret2
      exact ⟨⟨A, c, rfl, hr⟩, hb2, hbd⟩
  · have hP : partsOf s = [] := by unfold partsOf; rw [g1]; rfl
    have hE : partsE s = 30 := by unfold partsE; rw [g1]; rfl
    rw [hP, hE]
    have HG := Lib.hid g1
    clear g1 hP hE
    go_enter Tryd.func10, Tryd.ntmps10
    go_wp2_with (go_at_call 28; refine (valid_ok s _ m hm hG).mono ?_; rintro e w1 ⟨rfl, hb1⟩; rw [HG.out])
    go_ret2
    exact ⟨⟨none, 0, rfl, Reads.none_⟩, hb1, by simp⟩

set_option maxRecDepth 100000 in
set_option maxHeartbeats 1000000 in
theorem rparts_all (s : ByteArray) (w : World) :
    Calls Tryd.prog 11 #[.string s] w fun e w' => (∃ A c, e = .returned (.tuple #[.slice A (partsOf s).length c, .int .i64 (partsE s)]) ∧ Reads w' w'.heap.size 1 A (partsOf s).length (strs (partsOf s))) ∧ Below w.heap.size w w' := by
  rcases Bool.eq_false_or_eq_true (okB s) with g1 | g1
  · obtain ⟨x, y, z, zz⟩ := ok_parts ((okB_iff s).1 g1)
    have hP : partsOf s = partsF s s.size 1 := by unfold partsOf; rw [if_pos g1]
    have hE : partsE s = 0 := by unfold partsE; rw [if_pos g1]
    rw [hE]
    have HP := Lib.hid hP
    have HG := Lib.hid g1
    obtain ⟨i0, hi0, hz0, hz1, hz2⟩ := info_parts str_info
    clear g1 hP hE
    go_enter Tryd.func11, Tryd.ntmps11
    go_wp2_with (go_at_call 31; refine (rvalid_ok s _).mono ?_; rintro e w1 ⟨rfl, n0, rfl⟩; rw [HG.out])
    go_loopw [4, 5] (fun v u wr => ∃ (i fuel : Nat) (done : List ByteArray), u = .int .i64 i ∧ wr.ownsRow w.heap.size 9 1 v done.length (strs done) ∧ Below w.heap.size w wr ∧ Hid (done ++ partsF s fuel i = partsF s s.size 1) ∧ s.size ≤ i + fuel ∧ i ≤ s.size + 1 ∧ done.length ≤ i) (fun _ u _ => s.size + 1 - (intOf u).toNat)
    case atStart => exact ⟨1, s.size, [], rfl, World.ownsRow_nil _ _ _ _, below_drewN' (Below.refl _ _) n0, rfl, by omega, by omega, by simp⟩
    case round =>
      obtain ⟨i, fuel, done, rfl, hown, hbw, HD, hf, hi, hdl⟩ := hrel
      by_cases hlt : i < s.size
      · obtain ⟨fuel, rfl⟩ : ∃ f', fuel = f' + 1 := ⟨fuel - 1, by omega⟩
        have hpl : (partL s i).length ≤ s.size - i := by
          unfold partL
          have h1 := (List.takeWhile_prefix (l := s.data.toList.drop i) (p := (· != 47))).length_le
          rw [List.length_drop, ← Lib.size_eq] at h1
          exact h1
        have hsz : (⟨(partL s i).toArray⟩ : ByteArray).size = (partL s i).length := by rw [Lib.size_eq]
        have HD2 : Hid ((done ++ [⟨(partL s i).toArray⟩]) ++ partsF s fuel (i + (partL s i).length + 1) = partsF s s.size 1) := by
          show _ = _
          rw [← HD.out, partsF, if_pos hlt, List.append_assoc]
          rfl
        clear HD
        go_wp2_with (first
          | (go_at_call 32; refine (part_any s i (by omega) (by omega) _).mono ?_; rintro e w2 ⟨rfl, rfl⟩)
          | (at_builtin
             refine wpList_append_any _ rfl (.tmp 17) (.tmp 19) _ rfl w.heap.size 9 i0 _ 1 16 Tryd.underlying22 hi0 hz0 hz1 hz2 rfl (by decide) _ _ _ rfl (hown.alloc _) (wr.heap.size + 1) (some ⟨wr.heap.size, 0, none⟩) 1 1 (strs [⟨(partL s i).toArray⟩]) rfl (reads_new wr 9 [⟨(partL s i).toArray⟩] 1 rfl) (strs_one _) (by simp only [maxLen]; omega) (by omega) (by have := hbw.size; simp; omega) ?_
             intro v1 w3 hown3 hg3 hat3
             have hbw3 : Below w.heap.size w w3 := Below.grown (hbw.alloc hbw.size _) hg3 (by have := hbw.size; simp; omega) (fun j hj => by have := (hown.lt _ hj).1; omega)
             rw [← strs_append, show done.length + 1 = (done ++ [(⟨(partL s i).toArray⟩ : ByteArray)]).length by simp] at hown3
             clear hat3 hg3))
        go_roundw
        case rel => exact ⟨i + (partL s i).length + 1, fuel, done ++ [⟨(partL s i).toArray⟩], by simp [hsz], hown3, hbw3, HD2, by omega, by omega, by simp; omega⟩
        case measure => simp [intOf, hsz]; omega
      · have hd : partsOf s = done := by
          rw [HP.out, ← HD.out]
          cases fuel with
          | zero => simp [partsF]
          | succ f => rw [partsF, if_neg hlt, List.append_nil]
        have HQ := Lib.hid hd
        clear hd
        obtain ⟨A, c, hv⟩ := slice_form hown
        rw [hv] at hown ⊢
        clear HP HD
        go_wp2
        go_ret2
        exact ⟨⟨A, c, (by rw [HQ.out]; rfl), (by rw [HQ.out]; exact Reads.of_own hown)⟩, hbw⟩
  · have hP : partsOf s = [] := by unfold partsOf; rw [g1]; rfl
    have hE : partsE s = 30 := by unfold partsE; rw [g1]; rfl
    rw [hP, hE]
    have HG := Lib.hid g1
    clear g1 hP hE
    go_enter Tryd.func11, Tryd.ntmps11
    go_wp2_with (go_at_call 31; refine (rvalid_ok s _).mono ?_; rintro e w1 ⟨rfl, n0, rfl⟩; rw [HG.out])
    go_ret2
    exact ⟨⟨none, 0, rfl, Reads.none_⟩, below_drewN' (Below.refl _ _) n0⟩
end Go.Proofs.YtkhnchahoidbaaaDoor
