/- Above by the program and by the reference: the walks. -/
import Derived.Test.YtkhnchahoidbaaaDoorPd12
namespace Go.Proofs.YtkhnchahoidbaaaDoor
open Go.RowKit

/-- what is above, from the nearest on -/
def aboveF : Nat → ByteArray → List ByteArray
  | 0, _ => []
  | f + 1, s => if (s.toList == [47]) = true then [] else parentS s :: aboveF f (parentS s)
def aboveOf (s : ByteArray) : List ByteArray := if okB s = true then (aboveF s.size s).reverse else []
theorem aboveF_len : ∀ f s, (aboveF f s).length ≤ f := by
  intro f
  induction f with
  | zero => intro s; simp [aboveF]
  | succ f ih =>
    intro s
    rw [aboveF]
    split
    · simp
    · have := ih (parentS s)
      simp only [List.length_cons]
      omega
theorem strs_reverse (L : List ByteArray) : strs L.reverse = (strs L).reverse := by simp [strs]

def strSize' : Value → Nat
  | .string s => s.size
  | _ => 0

theorem owns_new (w : World) (base : Nat) (t : TypeId) (x : ByteArray) (hb : base ≤ w.heap.size) : (w.alloc (.cells #[.string x] t)).ownsRow base t 1 (.slice (some ⟨w.heap.size, 0, none⟩) 1 1) 1 (strs [x]) :=
  ⟨by simp [strs], .inr ⟨w.heap.size, 1, #[.string x], rfl, hb, Blk.new w t _, Nat.le_refl _, by decide, by simp, by simp [strs]⟩⟩

set_option maxRecDepth 100000 in
set_option maxHeartbeats 1000000 in
theorem rabove_all (s : ByteArray) (w : World) :
    Calls Tryd.prog 17 #[.string s] w fun e w' => (∃ A c, e = .returned (.tuple #[.slice A (aboveOf s).length c, .int .i64 (partsE s)]) ∧ Reads w' w'.heap.size 1 A (aboveOf s).length (strs (aboveOf s))) ∧ Below w.heap.size w w' := by
  rcases Bool.eq_false_or_eq_true (okB s) with g1 | g1
  · obtain ⟨x, y, z, zz⟩ := ok_parts ((okB_iff s).1 g1)
    have hP : aboveOf s = (aboveF s.size s).reverse := by unfold aboveOf; rw [if_pos g1]
    have hE : partsE s = 0 := by unfold partsE; rw [if_pos g1]
    rw [hE]
    have HP := Lib.hid hP
    have HG := Lib.hid g1
    obtain ⟨i0, hi0, hz0, hz1, hz2⟩ := info_parts str_info
    clear g1 hP hE
    go_enter Tryd.func17, Tryd.ntmps17
    go_wp2_with (go_at_call 31; refine (rvalid_ok s _).mono ?_; rintro e w1 ⟨rfl, n0, rfl⟩; rw [HG.out])
    go_loopw [0, 4] (fun u v wr => ∃ (q : ByteArray) (fuel : Nat) (done : List ByteArray), u = .string q ∧ Hid (okB q = true) ∧ wr.ownsRow w.heap.size 9 1 v done.length (strs done) ∧ Below w.heap.size w wr ∧ Hid ((aboveF fuel q).reverse ++ done = (aboveF s.size s).reverse) ∧ q.size ≤ fuel ∧ fuel ≤ s.size ∧ done.length + fuel ≤ s.size) (fun u _ _ => strSize' u)
    case atStart => exact ⟨s, s.size, [], rfl, HG, World.ownsRow_nil _ _ _ _, below_drewN' (Below.refl _ _) n0, by show _ = _; rw [List.append_nil], by omega, by omega, by simp⟩
    case round =>
      obtain ⟨q, fuel, done, rfl, HQ, hown, hbw, HD, hq, hf, hdl⟩ := hrel
      rcases Bool.eq_false_or_eq_true (q.toList == [47]) with h2 | h2
      · have hd : aboveOf s = done := by
          rw [HP.out, ← HD.out]
          cases fuel with
          | zero => rfl
          | succ f => rw [aboveF, if_pos h2]; rfl
        have HR := Lib.hid hd
        clear hd HP HD
        obtain ⟨A, c, hv⟩ := slice_form hown
        rw [hv] at hown ⊢
        go_wp2
        go_ret2
        exact ⟨⟨A, c, (by rw [HR.out]; rfl), (by rw [HR.out]; exact Reads.of_own hown)⟩, hbw⟩
      · have hok := ok_parent ((okB_iff q).1 HQ.out)
        have h2' := ok_one ((okB_iff q).1 HQ.out) h2
        have HQ2 : Hid (okB (parentS q) = true) := (okB_iff _).2 hok.1
        have hlt := hok.2 (by omega)
        obtain ⟨fuel, rfl⟩ : ∃ f', fuel = f' + 1 := ⟨fuel - 1, by omega⟩
        have HD2 : Hid ((aboveF fuel (parentS q)).reverse ++ (parentS q :: done) = (aboveF s.size s).reverse) := by
          show _ = _
          rw [← HD.out, aboveF, if_neg (by rw [h2]; decide), List.reverse_cons, List.append_assoc]
          rfl
        have HPC : Hid (∀ W, Calls Tryd.prog 13 #[.string q] W fun e w' => e = .returned (.tuple #[.string (parentS q), .int .i64 0]) ∧ ∃ n, w' = W.drewN n) := fun W => rparent_any q HQ.out h2 W
        obtain ⟨A, c, hv⟩ := slice_form hown
        rw [hv] at hown ⊢
        clear hok HD hv
        go_wp2_with (first
          | (go_at_call 13; refine (HPC.out _).mono ?_; rintro e w2 ⟨rfl, n2, rfl⟩)
          | (at_builtin
             refine wpList_append_any _ rfl (.tmp 16) (.tmp 17) _ rfl w.heap.size 9 i0 _ 1 16 Tryd.underlying22 hi0 hz0 hz1 hz2 rfl (by decide) (.slice (some ⟨wr.heap.size, 0, none⟩) 1 1) 1 (strs [parentS q]) rfl (owns_new _ _ _ _ hbw.size) wr.heap.size A done.length c (strs done) rfl (((Reads.of_own hown).drewN n2).alloc (Nat.le_refl _) _) (strs_one _) (by simp only [maxLen]; omega) (by omega) (by have := hbw.size; simp; omega) ?_
             intro v1 w3 hown3 hg3 hat3
             have hbw3 : Below w.heap.size w w3 := Below.grown ((below_drewN' hbw n2).alloc hbw.size _) hg3 (by have := hbw.size; simp; omega) (fun j hj => by simp [Value.ownBlock] at hj; have := hbw.size; omega)
             rw [← strs_append, show 1 + done.length = ([parentS q] ++ done).length by simp; omega] at hown3
             clear hat3 hg3))
        go_roundw
        case rel => exact ⟨parentS q, fuel, parentS q :: done, rfl, HQ2, hown3, hbw3, HD2, by omega, by omega, by simp; omega⟩
        case measure => simpa [strSize'] using hlt
  · have hP : aboveOf s = [] := by unfold aboveOf; rw [g1]; rfl
    have hE : partsE s = 30 := by unfold partsE; rw [g1]; rfl
    rw [hP, hE]
    have HG := Lib.hid g1
    clear g1 hP hE
    go_enter Tryd.func17, Tryd.ntmps17
    go_wp2_with (go_at_call 31; refine (rvalid_ok s _).mono ?_; rintro e w1 ⟨rfl, n0, rfl⟩; rw [HG.out])
    go_ret2
    exact ⟨⟨none, 0, rfl, Reads.none_⟩, below_drewN' (Below.refl _ _) n0⟩
end Go.Proofs.YtkhnchahoidbaaaDoor
