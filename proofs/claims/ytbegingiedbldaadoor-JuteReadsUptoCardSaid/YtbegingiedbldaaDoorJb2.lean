/- Is a text UTF-8, as a range over it tells: the walk. -/
import Derived.Test.YtbegingiedbldaaDoorJp
import Derived.Laws.RangeAny
import Derived.Lib.OthersKept
import Derived.Lib.DecodeN
import Derived.Lib.TrimUEq
import Derived.Lib.ValidLaws
namespace Go.Proofs.YtbegingiedbldaaDoor
open Go.RowKit

theorem dec_pos (s : ByteArray) (pos : Nat) (h : pos < s.size) : 1 ≤ (Utf8.decode s pos).2 := by
  by_cases ha : (s[pos]'h).toNat < 128
  · rw [decode_ascii s pos h ha]
    exact Nat.le_refl _
  · exact (decode_high s pos h (by omega)).2
theorem get_byte (s : ByteArray) (i : Nat) (h : i < s.size) : (s.get! i).toNat = (s[i]'h).toNat := by
  rw [← get_at s i h, Nat.add_zero]
/-- U+FFFD of one byte, or of three -/
theorem dec_err (s : ByteArray) (pos : Nat) (hp : pos < s.size) (hr : (Utf8.decode s pos).1 = 65533) :
    (Utf8.decode s pos).2 = 1 ∧ (pos + 3 ≤ s.size → ∀ (h1 : pos + 1 < s.size) (h2 : pos + 2 < s.size), (s[pos]'hp).toNat = 239 → (s[pos + 1]'h1).toNat = 191 → (s[pos + 2]'h2).toNat = 189 → False) ∨
    (Utf8.decode s pos).2 = 3 ∧ pos + 3 ≤ s.size ∧ ∀ (h1 : pos + 1 < s.size) (h2 : pos + 2 < s.size), (s[pos]'hp).toNat = 239 ∧ (s[pos + 1]'h1).toNat = 191 ∧ (s[pos + 2]'h2).toNat = 189 := by
  have b0 := (s.get! pos).toNat_lt
  have b1 := (s.get! (pos + 1)).toNat_lt
  have b2 := (s.get! (pos + 2)).toNat_lt
  have b3 := (s.get! (pos + 3)).toNat_lt
  have g0 := get_byte s pos hp
  have g1 := fun h1 : pos + 1 < s.size => get_byte s (pos + 1) h1
  have g2 := fun h2 : pos + 2 < s.size => get_byte s (pos + 2) h2
  rw [Lib.decode_at] at hr ⊢
  generalize (s.get! pos).toNat = x0 at *
  generalize (s.get! (pos + 1)).toNat = x1 at *
  generalize (s.get! (pos + 2)).toNat = x2 at *
  generalize (s.get! (pos + 3)).toNat = x3 at *
  have key : (Lib.decodeN (s.size - pos) x0 x1 x2 x3).2 = 1 ∧ ¬ (2 < s.size - pos ∧ x0 = 239 ∧ x1 = 191 ∧ x2 = 189) ∨ (Lib.decodeN (s.size - pos) x0 x1 x2 x3).2 = 3 ∧ 2 < s.size - pos ∧ x0 = 239 ∧ x1 = 191 ∧ x2 = 189 := by
    clear g0 g1 g2
    revert hr
    unfold Lib.decodeN
    repeat' split
    all_goals (intro hr; first | (left; refine ⟨rfl, ?_⟩; omega) | (right; refine ⟨rfl, ?_⟩; omega) | (exfalso; simp only at hr; omega))
  rcases key with ⟨h, hn⟩ | ⟨h, h3, e0, e1, e2⟩
  · refine .inl ⟨h, fun h3 h1 h2 e0 e1 e2 => hn ⟨by omega, by omega, ?_, ?_⟩⟩
    · rw [g1 h1]; exact e1
    · rw [g2 h2]; exact e2
  · refine .inr ⟨h, by omega, fun h1 h2 => ⟨by omega, ?_, ?_⟩⟩
    · rw [← g1 h1]; exact e1
    · rw [← g2 h2]; exact e2
theorem valid_step (s : ByteArray) (pos : Nat) (hp : pos < s.size) : Lib.validD (s.data.toList.drop pos) = if (Utf8.decode s pos).1 = 65533 ∧ (Utf8.decode s pos).2 = 1 then false else Lib.validD (s.data.toList.drop (pos + (Utf8.decode s pos).2)) := by
  have hl := bsize_eq s
  rw [Lib.validD_step _ (by
    intro h
    have := congrArg List.length h
    rw [List.length_drop, List.length_nil] at this
    omega), Lib.decodeL_drop, List.drop_drop]

set_option maxRecDepth 100000 in
set_option maxHeartbeats 1000000 in
theorem textOk_any (s : ByteArray) (w : World) (hs : s.size ≤ 4611686018427387904) :
    Calls Tryd.prog 64 #[.string s] w fun e w' => e = .returned (.bool (Lib.validD s.data.toList)) ∧ Below w.heap.size w w' := by
  obtain ⟨V, hV⟩ : ∃ V, Hid (V = Lib.validD s.data.toList) := ⟨_, rfl⟩
  rw [← hV.out]
  go_enter Tryd.func64, Tryd.ntmps64
  go_wp2
  go_loopw [] (fun wr => ∃ pos : Nat, wr.heap[w.heap.size]? = some (.stringIter s pos) ∧ Below w.heap.size w wr ∧ Hid (Lib.validD (s.data.toList.drop pos) = V)) (fun wr => s.size - wr.iterPos w.heap.size)
  case atStart => exact ⟨0, World.iter_heap w s 0, (Below.refl _ _).alloc (Nat.le_refl _) _, by unfold Hid; rw [List.drop_zero]; exact hV.out.symm⟩
  case round =>
    obtain ⟨pos, hit, hbw, hvd⟩ := hrel
    have hsz : w.heap.size < wr.heap.size := (Array.getElem?_eq_some_iff.1 hit).1
    by_cases hp : pos < s.size
    · have hnx : ∀ ty, (Instr.next (.pointer (some ⟨w.heap.size, 0, none⟩)) true ty).run Tryd.prog wr = _ := fun ty => Lib.run_next_any_at wr w.heap.size s pos ty hit hp
      have HE := Lib.hid (dec_err s pos hp)
      have HV := Lib.hid (valid_step s pos hp)
      have HP := Lib.hid (dec_pos s pos hp)
      have HI := Lib.hid (Lib.iterAt_heap wr w.heap.size s pos (pos + (Utf8.decode s pos).2) hit)
      have HB := Lib.hid (Lib.below_iterAt hbw (k := w.heap.size) (Nat.le_refl _) s (pos + (Utf8.decode s pos).2))
      have HM : Hid (wr.iterPos w.heap.size = pos) := by unfold Hid World.iterPos; rw [hit]
      have HN : Hid ((wr.iterAt w.heap.size s (pos + (Utf8.decode s pos).2)).iterPos w.heap.size = pos + (Utf8.decode s pos).2) := by unfold Hid World.iterPos; rw [HI.out]
      go_wp2
      all_goals first
        | (have hr : ((Utf8.decode s pos).1 : Int) = 65533 := (by assumption)
           have hV0 : V = false := (by
             rw [← hvd.out, HV.out]
             rcases HE.out (by omega) with ⟨h1, _⟩ | ⟨_, h3, h⟩
             · rw [if_pos ⟨by omega, h1⟩]
             · exfalso
               have := h (by omega) (by omega)
               have t2 := this.2.2
               first | omega | (rename_i hz _; simp [t2] at hz; omega))
           subst hV0
           go_ret
           exact ⟨rfl, HB.out⟩)
        | (go_roundw
           case rel =>
             refine ⟨pos + (Utf8.decode s pos).2, HI.out, HB.out, ?_⟩
             have h := HV.out
             rw [if_neg (by
               rintro ⟨h1, h2⟩
               rcases HE.out h1 with ⟨_, h⟩ | ⟨h3, _⟩
               · first | omega | (rename_i hz _ _; simp at hz; exact h (by omega) (by omega) (by omega) (by omega) (by omega) (by omega))
               · omega)] at h
             exact h.symm.trans hvd.out
           case measure => have := HP.out; have := HM.out; have := HN.out; omega)
    · have hnx : ∀ ty, (Instr.next (.pointer (some ⟨w.heap.size, 0, none⟩)) true ty).run Tryd.prog wr = _ := fun ty => Lib.run_next_end_at wr w.heap.size s pos ty hit hp
      have hV1 : V = true := by
        rw [← hvd.out, List.drop_of_length_le (by rw [← bsize_eq]; omega)]
        decide +kernel
      subst hV1
      go_wp2
      go_ret
      exact ⟨rfl, hbw⟩
end Go.Proofs.YtbegingiedbldaaDoor
