/- Parent and Name by the program and by the reference: the walks. -/
import Derived.Test.YtkhnchahoidbaaaDoorPd9
import Derived.Test.YtkhnchahoidbaaaDoorShelf
namespace Go.Proofs.YtkhnchahoidbaaaDoor
open Go.RowKit

theorem last_eq (s : ByteArray) (h0 : byteAt s 0 = 47) (hp : 0 < s.size) : Lib.lastIndexByte s 47 = lastS s := by
  obtain ⟨a, b, c⟩ := lastFrom_spec s h0 s.size hp
  change lastS s < s.size at a
  have hb : ∀ j, ((s.data[j]!).toNat : Int) = (byteAt s j : Int) := fun _ => rfl
  rcases Lib.lastIdx_spec s 47 s.size with ⟨_, h⟩ | ⟨i, h1, h2, h3, h4⟩
  · exfalso
    refine h (lastS s) a ?_
    rw [hb]
    unfold lastS
    rw [b]
    rfl
  · unfold Lib.lastIndexByte
    rw [h2]
    rw [hb] at h3
    congr 1
    rcases Nat.lt_trichotomy i (lastS s) with h | h | h
    · exfalso
      refine h4 (lastS s) h a ?_
      rw [hb]
      unfold lastS
      rw [b]
      rfl
    · exact h
    · exact absurd (by omega) (c i h h1)

def parB (s : ByteArray) : Bool := okB s && !(s.toList == [47])
def parT (s : ByteArray) : ByteArray := if parB s = true then parentS s else ⟨#[]⟩
def parE (s : ByteArray) : Int := if parB s = true then 0 else 30
def nameT (s : ByteArray) : ByteArray := if okB s = true then s.extract (lastS s + 1) s.size else ⟨#[]⟩
def nameE (s : ByteArray) : Int := if okB s = true then 0 else 30
theorem par_ret {s t : ByteArray} {e : Int} (h : (parB s = true ∧ t = parentS s ∧ e = 0) ∨ (parB s = false ∧ t = ⟨#[]⟩ ∧ e = 30)) : Ending.returned (.tuple #[.string t, .int .i64 e]) = .returned (.tuple #[.string (parT s), .int .i64 (parE s)]) := by
  unfold parT parE
  rcases h with ⟨h, rfl, rfl⟩ | ⟨h, rfl, rfl⟩ <;> rw [h] <;> rfl
theorem name_ret {s t : ByteArray} {e : Int} (h : (okB s = true ∧ t = s.extract (lastS s + 1) s.size ∧ e = 0) ∨ (okB s = false ∧ t = ⟨#[]⟩ ∧ e = 30)) : Ending.returned (.tuple #[.string t, .int .i64 e]) = .returned (.tuple #[.string (nameT s), .int .i64 (nameE s)]) := by
  unfold nameT nameE
  rcases h with ⟨h, rfl, rfl⟩ | ⟨h, rfl, rfl⟩ <;> rw [h] <;> rfl

theorem rparent_all (s : ByteArray) (w : World) : Calls Tryd.prog 13 #[.string s] w fun e w' => e = .returned (.tuple #[.string (parT s), .int .i64 (parE s)]) ∧ ∃ n, w' = w.drewN n := by
  rcases Bool.eq_false_or_eq_true (okB s) with g1 | g1
  · rcases Bool.eq_false_or_eq_true (s.toList == [47]) with g2 | g2
    · have hB : Hid (parB s = false) := by show _ = _; unfold parB; rw [g1, g2]; rfl
      have HG := Lib.hid g1
      clear g1
      go_enter Tryd.func13, Tryd.ntmps13
      go_wp2_with (go_at_call 31; refine (rvalid_ok s _).mono ?_; rintro e w1 ⟨rfl, n0, rfl⟩; rw [HG.out])
      go_ret2
      exact ⟨par_ret (.inr ⟨hB.out, rfl, rfl⟩), n0, rfl⟩
    · have hB : parB s = true := by unfold parB; rw [g1, g2]; rfl
      refine (rparent_any s g1 g2 w).mono ?_
      rintro e w' ⟨rfl, hw⟩
      exact ⟨par_ret (.inl ⟨hB, rfl, rfl⟩), hw⟩
  · have hB : Hid (parB s = false) := by show _ = _; unfold parB; rw [g1]; rfl
    have HG := Lib.hid g1
    clear g1
    go_enter Tryd.func13, Tryd.ntmps13
    go_wp2_with (go_at_call 31; refine (rvalid_ok s _).mono ?_; rintro e w1 ⟨rfl, n0, rfl⟩; rw [HG.out])
    go_ret2
    exact ⟨par_ret (.inr ⟨hB.out, rfl, rfl⟩), n0, rfl⟩

theorem rname_all (s : ByteArray) (w : World) : Calls Tryd.prog 15 #[.string s] w fun e w' => e = .returned (.tuple #[.string (nameT s), .int .i64 (nameE s)]) ∧ ∃ n, w' = w.drewN n := by
  rcases Bool.eq_false_or_eq_true (okB s) with g1 | g1
  · obtain ⟨x, y, z, _⟩ := ok_parts ((okB_iff s).1 g1)
    have HG := Lib.hid g1
    have hlt := (lastFrom_spec s z s.size x).1
    change lastS s < s.size at hlt
    clear g1
    go_enter Tryd.func15, Tryd.ntmps15
    go_wp2_with (first
      | (go_at_call 31; refine (rvalid_ok s _).mono ?_; rintro e w1 ⟨rfl, n0, rfl⟩; rw [HG.out])
      | (go_at_call 34; refine (rlast_any s z x (by omega) _).mono ?_; rintro e w2 ⟨rfl, rfl⟩))
    go_ret2
    exact ⟨name_ret (.inl ⟨HG.out, (by first | rfl | (congr 1)), rfl⟩), n0, rfl⟩
  · have HG := Lib.hid g1
    clear g1
    go_enter Tryd.func15, Tryd.ntmps15
    go_wp2_with (go_at_call 31; refine (rvalid_ok s _).mono ?_; rintro e w1 ⟨rfl, n0, rfl⟩; rw [HG.out])
    go_ret2
    exact ⟨name_ret (.inr ⟨HG.out, rfl, rfl⟩), n0, rfl⟩

section
variable (s : ByteArray) (w : World) (m : Int) (hm : w.cell? ⟨0, 0, none⟩ = some (.int .i64 m)) (hG : 0 < w.heap.size)
include hm hG
theorem parent_all : Calls Tryd.prog 12 #[.string s] w fun e w' => e = .returned (.tuple #[.string (parT s), .int .i64 (parE s)]) ∧ Below w.heap.size w w' := by
  rcases Bool.eq_false_or_eq_true (okB s) with g1 | g1
  · obtain ⟨x, y, z, _⟩ := ok_parts ((okB_iff s).1 g1)
    have HG := Lib.hid g1
    have hlt := (lastFrom_spec s z s.size x).1
    change lastS s < s.size at hlt
    have HL : Hid (∀ W, Calls Tryd.prog 33 #[.string s, .int .u8 47] W fun e w' => e = .returned (.int .i64 (lastS s)) ∧ w' = W) := fun W => by
      have := Tryd.strings_LastIndexByte s 47 (by omega) W
      rw [last_eq s z x] at this
      exact this
    rcases Bool.eq_false_or_eq_true (s.toList == [47]) with g2 | g2
    · have hB : Hid (parB s = false) := by show _ = _; unfold parB; rw [g1, g2]; rfl
      clear g1
      go_enter Tryd.func12, Tryd.ntmps12
      go_wp2_with (go_at_call 28; refine (valid_ok s _ m hm hG).mono ?_; rintro e w1 ⟨rfl, hb1⟩; rw [HG.out])
      go_ret2
      exact ⟨par_ret (.inr ⟨hB.out, rfl, rfl⟩), hb1⟩
    · have hB : Hid (parB s = true) := by show _ = _; unfold parB; rw [g1, g2]; rfl
      clear g1
      by_cases h0 : lastS s = 0
      · have e : Hid (parentS s = s.extract 0 1) := by
          show _ = _
          unfold parentS
          rw [if_pos h0]
          have hz := size_extract0 s 1 (by omega)
          have hb := byteAt_extract s 1 0 (by omega) (by omega)
          have ht := toList_one (s.extract 0 1) 47
          rw [hz, hb, z] at ht
          have ht : ((s.extract 0 1).toList == [47]) = true := by rw [ht]; decide
          rw [Lib.toList_data, beq_iff_eq] at ht
          rw [← Lib.mk_data (s.extract 0 1), ht]
        rw [h0] at HL
        clear hlt h0
        go_enter Tryd.func12, Tryd.ntmps12
        go_wp2_with (first
          | (go_at_call 28; refine (valid_ok s _ m hm hG).mono ?_; rintro e w1 ⟨rfl, hb1⟩; rw [HG.out])
          | (go_at_call 33; refine (HL.out _).mono ?_; rintro e w2 ⟨rfl, rfl⟩))
        go_ret2
        exact ⟨par_ret (.inl ⟨hB.out, e.out.symm, rfl⟩), hb1⟩
      · have e : Hid (parentS s = s.extract 0 (lastS s)) := by show _ = _; unfold parentS; rw [if_neg h0]
        have hmx : (max (lastS s : Int) 1).toNat = lastS s := by omega
        go_enter Tryd.func12, Tryd.ntmps12
        go_wp2_with (first
          | (go_at_call 28; refine (valid_ok s _ m hm hG).mono ?_; rintro e w1 ⟨rfl, hb1⟩; rw [HG.out])
          | (go_at_call 33; refine (HL.out _).mono ?_; rintro e w2 ⟨rfl, rfl⟩))
        go_ret2
        exact ⟨par_ret (.inl ⟨hB.out, e.out.symm, rfl⟩), hb1⟩
  · have hB : Hid (parB s = false) := by show _ = _; unfold parB; rw [g1]; rfl
    have HG := Lib.hid g1
    clear g1
    go_enter Tryd.func12, Tryd.ntmps12
    go_wp2_with (go_at_call 28; refine (valid_ok s _ m hm hG).mono ?_; rintro e w1 ⟨rfl, hb1⟩; rw [HG.out])
    go_ret2
    exact ⟨par_ret (.inr ⟨hB.out, rfl, rfl⟩), hb1⟩

theorem name_all : Calls Tryd.prog 14 #[.string s] w fun e w' => e = .returned (.tuple #[.string (nameT s), .int .i64 (nameE s)]) ∧ Below w.heap.size w w' := by
  rcases Bool.eq_false_or_eq_true (okB s) with g1 | g1
  · obtain ⟨x, y, z, _⟩ := ok_parts ((okB_iff s).1 g1)
    have HG := Lib.hid g1
    have hlt := (lastFrom_spec s z s.size x).1
    change lastS s < s.size at hlt
    have HL : Hid (∀ W, Calls Tryd.prog 33 #[.string s, .int .u8 47] W fun e w' => e = .returned (.int .i64 (lastS s)) ∧ w' = W) := fun W => by
      have := Tryd.strings_LastIndexByte s 47 (by omega) W
      rw [last_eq s z x] at this
      exact this
    clear g1
    go_enter Tryd.func14, Tryd.ntmps14
    go_wp2_with (first
      | (go_at_call 28; refine (valid_ok s _ m hm hG).mono ?_; rintro e w1 ⟨rfl, hb1⟩; rw [HG.out])
      | (go_at_call 33; refine (HL.out _).mono ?_; rintro e w2 ⟨rfl, rfl⟩))
    go_ret2
    exact ⟨name_ret (.inl ⟨HG.out, (by first | rfl | (congr 1)), rfl⟩), hb1⟩
  · have HG := Lib.hid g1
    clear g1
    go_enter Tryd.func14, Tryd.ntmps14
    go_wp2_with (go_at_call 28; refine (valid_ok s _ m hm hG).mono ?_; rintro e w1 ⟨rfl, hb1⟩; rw [HG.out])
    go_ret2
    exact ⟨name_ret (.inr ⟨HG.out, rfl, rfl⟩), hb1⟩
end
end Go.Proofs.YtkhnchahoidbaaaDoor
