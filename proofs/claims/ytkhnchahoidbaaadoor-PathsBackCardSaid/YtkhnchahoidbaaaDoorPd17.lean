/- Seq; the law PathsSuffixes: the walks. -/
import Derived.Test.YtkhnchahoidbaaaDoorPd16
import Derived.Test.YtkhnchahoidbaaaDoorOpen
import Derived.SizedLaws
import Derived.Lib.LaidTab
import Derived.LaidSub
namespace Go.Proofs.YtkhnchahoidbaaaDoor
open Go.RowKit

def seqB (p : ByteArray) (n : Int) : Bool := (checkOf (p ++ ⟨#[49]⟩)).1 == 0 && decide ((p ++ sufB n).size ≤ 4096)
def seqT (p : ByteArray) (n : Int) : ByteArray := if seqB p n = true then p ++ sufB n else ⟨#[]⟩
def seqE (p : ByteArray) (n : Int) : Int := if seqB p n = true then 0 else 30
theorem seq_ret {p t : ByteArray} {n e : Int} (h : (seqB p n = true ∧ t = p ++ sufB n ∧ e = 0) ∨ (seqB p n = false ∧ t = ⟨#[]⟩ ∧ e = 30)) : Ending.returned (.tuple #[.string t, .int .i64 e]) = .returned (.tuple #[.string (seqT p n), .int .i64 (seqE p n)]) := by
  unfold seqT seqE
  rcases h with ⟨h, rfl, rfl⟩ | ⟨h, rfl, rfl⟩ <;> rw [h] <;> rfl
theorem suf_size (n : Int) (h0 : -2147483648 ≤ n) (h1 : n ≤ 2147483647) : (sufB n).size ≤ 11 := by
  have := suf_split n h0 h1
  unfold sufB
  by_cases hn : n < 0
  · have h := this.1 hn
    rw [if_pos hn, size_append]
    have e : (⟨#[45]⟩ : ByteArray).size = 1 := rfl
    rw [e]
    unfold padB
    rw [size_append, zerosB_size]
    omega
  · have h := this.2 (by omega)
    rw [if_neg hn]
    unfold padB
    rw [size_append, zerosB_size]
    omega

section
variable (p : ByteArray) (hp : p.size ≤ 140737488355327) (n : Int) (h0 : -2147483648 ≤ n) (h1 : n ≤ 2147483647) (w : World) (htab : Lib.TabBelow Tryd.prog w.heap.size w "internal/strconv.uint64pow10" .u64 Lib.pow10Tab)
include hp h0 h1 htab

set_option maxRecDepth 100000 in
set_option maxHeartbeats 1000000 in
theorem rseq_any : Calls Tryd.prog 20 #[.string p, .int .i32 n] w fun e w' => e = .returned (.tuple #[.string (seqT p n), .int .i64 (seqE p n)]) ∧ Below w.heap.size w w' := by
  have hs := suf_size n h0 h1
  have hz : (p ++ sufB n).size = p.size + (sufB n).size := size_append _ _
  have HS : Hid (∀ W, Below w.heap.size w W → Calls Tryd.prog 22 #[.int .i32 n] W fun e w' => e = .returned (.string (sufB n)) ∧ Below w.heap.size w w') :=
    fun W hB => (rsuffix_any n h0 h1 W (fun w' h' => htab w' (hB.trans (h'.mono hB.size)))).mono fun _ _ ⟨he, hb⟩ => ⟨he, hB.trans (hb.mono hB.size)⟩
  have HP : Hid (∀ W, Calls Tryd.prog 37 #[.string p] W fun e w' => e = .returned (.tuple #[.int .i64 (checkOf (p ++ ⟨#[49]⟩)).1, .int .i64 (checkOf (p ++ ⟨#[49]⟩)).2]) ∧ ∃ n, w' = W.drewN n) := fun W => rprefix_any p hp W
  have HB : Hid (seqB p n = ((checkOf (p ++ ⟨#[49]⟩)).1 == 0 && decide ((p ++ sufB n).size ≤ 4096))) := rfl
  have HR : Hid (∀ (t : ByteArray) (e : Int), ((seqB p n = true ∧ t = p ++ sufB n ∧ e = 0) ∨ (seqB p n = false ∧ t = ⟨#[]⟩ ∧ e = 30)) → Ending.returned (.tuple #[.string t, .int .i64 e]) = .returned (.tuple #[.string (seqT p n), .int .i64 (seqE p n)])) := fun t e h => seq_ret h
  clear htab
  generalize checkOf (p ++ ⟨#[49]⟩) = cc at HP HB
  generalize seqT p n = st at HR ⊢
  generalize seqE p n = se at HR ⊢
  generalize sufB n = sf at HS HB HR hs hz
  rcases Bool.eq_false_or_eq_true (cc.1 == 0) with g1 | g1
  · have g1' : (cc.1 != 0) = false := by rw [bne, g1]; rfl
    by_cases g2 : p.size + sf.size ≤ 4096
    · have hb := HB.out
      rw [g1, hz, decide_eq_true g2] at hb
      have HBB := Lib.hid hb
      clear hb HB
      go_enter Tryd.func20, Tryd.ntmps20
      go_wp2_with (first
        | (go_at_call 37; refine (HP.out _).mono ?_; rintro e w1 ⟨rfl, n0, rfl⟩)
        | (go_at_call 22; have F0 := F9; refine (HS.out _ hb2).mono ?_; rintro e w3 ⟨rfl, hb3⟩)
        | (go_at_call 22; refine (HS.out _ (below_drewN' (Below.refl _ _) n0)).mono ?_; rintro e w2 ⟨rfl, hb2⟩; have F9 := trivial))
      go_ret2
      exact ⟨HR.out _ _ (.inl ⟨HBB.out, rfl, rfl⟩), hb3⟩
    · have hb := HB.out
      rw [g1, hz, decide_eq_false g2] at hb
      have HBB := Lib.hid hb
      clear hb HB
      go_enter Tryd.func20, Tryd.ntmps20
      go_wp2_with (first
        | (go_at_call 37; refine (HP.out _).mono ?_; rintro e w1 ⟨rfl, n0, rfl⟩)
        | (go_at_call 22; refine (HS.out _ (below_drewN' (Below.refl _ _) n0)).mono ?_; rintro e w2 ⟨rfl, hb2⟩))
      go_ret2
      exact ⟨HR.out _ _ (.inr ⟨HBB.out, rfl, rfl⟩), hb2⟩
  · have g1' : (cc.1 != 0) = true := by rw [bne, g1]; rfl
    have hb := HB.out
    rw [g1, Bool.false_and] at hb
    have HBB := Lib.hid hb
    clear hb HB
    go_enter Tryd.func20, Tryd.ntmps20
    go_wp2_with (go_at_call 37; refine (HP.out _).mono ?_; rintro e w1 ⟨rfl, n0, rfl⟩)
    go_ret2
    exact ⟨HR.out _ _ (.inr ⟨HBB.out, rfl, rfl⟩), below_drewN' (Below.refl _ _) n0⟩

set_option maxRecDepth 100000 in
set_option maxHeartbeats 1000000 in
theorem seq_any (m : Int) (hm : w.cell? ⟨0, 0, none⟩ = some (.int .i64 m)) (hG : 0 < w.heap.size) : Calls Tryd.prog 19 #[.string p, .int .i32 n] w fun e w' => e = .returned (.tuple #[.string (seqT p n), .int .i64 (seqE p n)]) ∧ Below w.heap.size w w' := by
  have hs := suf_size n h0 h1
  have hz : (p ++ sufB n).size = p.size + (sufB n).size := size_append _ _
  have HS : Hid (∀ W, Below w.heap.size w W → Calls Tryd.prog 21 #[.int .i32 n] W fun e w' => e = .returned (.string (sufB n)) ∧ Below w.heap.size w w') :=
    fun W hB => (suffix_any n h0 h1 W (fun w' h' => htab w' (hB.trans (h'.mono hB.size)))).mono fun _ _ ⟨he, hb⟩ => ⟨he, hB.trans (hb.mono hB.size)⟩
  have HP : Hid (Calls Tryd.prog 36 #[.string p] w fun e w' => e = .returned (.tuple #[.int .i64 (checkOf (p ++ ⟨#[49]⟩)).1, .int .i64 (checkOf (p ++ ⟨#[49]⟩)).2]) ∧ Below w.heap.size w w') := prefix_any p hp w m hm hG
  have HB : Hid (seqB p n = ((checkOf (p ++ ⟨#[49]⟩)).1 == 0 && decide ((p ++ sufB n).size ≤ 4096))) := rfl
  have HR : Hid (∀ (t : ByteArray) (e : Int), ((seqB p n = true ∧ t = p ++ sufB n ∧ e = 0) ∨ (seqB p n = false ∧ t = ⟨#[]⟩ ∧ e = 30)) → Ending.returned (.tuple #[.string t, .int .i64 e]) = .returned (.tuple #[.string (seqT p n), .int .i64 (seqE p n)])) := fun t e h => seq_ret h
  clear htab hm
  generalize checkOf (p ++ ⟨#[49]⟩) = cc at HP HB
  generalize seqT p n = st at HR ⊢
  generalize seqE p n = se at HR ⊢
  generalize sufB n = sf at HS HB HR hs hz
  rcases Bool.eq_false_or_eq_true (cc.1 == 0) with g1 | g1
  · have g1' : (cc.1 != 0) = false := by rw [bne, g1]; rfl
    by_cases g2 : p.size + sf.size ≤ 4096
    · have hb := HB.out
      rw [g1, hz, decide_eq_true g2] at hb
      have HBB := Lib.hid hb
      clear hb HB
      go_enter Tryd.func19, Tryd.ntmps19
      go_wp2_with (first
        | (go_at_call 36; refine HP.out.mono ?_; rintro e w1 ⟨rfl, hb1⟩)
        | (go_at_call 21; refine (HS.out _ hb1).mono ?_; rintro e w2 ⟨rfl, hb2⟩))
      go_ret2
      exact ⟨HR.out _ _ (.inl ⟨HBB.out, rfl, rfl⟩), hb2⟩
    · have hb := HB.out
      rw [g1, hz, decide_eq_false g2] at hb
      have HBB := Lib.hid hb
      clear hb HB
      go_enter Tryd.func19, Tryd.ntmps19
      go_wp2_with (first
        | (go_at_call 36; refine HP.out.mono ?_; rintro e w1 ⟨rfl, hb1⟩)
        | (go_at_call 21; refine (HS.out _ hb1).mono ?_; rintro e w2 ⟨rfl, hb2⟩))
      go_ret2
      exact ⟨HR.out _ _ (.inr ⟨HBB.out, rfl, rfl⟩), hb2⟩
  · have g1' : (cc.1 != 0) = true := by rw [bne, g1]; rfl
    have hb := HB.out
    rw [g1, Bool.false_and] at hb
    have HBB := Lib.hid hb
    clear hb HB
    go_enter Tryd.func19, Tryd.ntmps19
    go_wp2_with (first
      | (go_at_call 36; refine HP.out.mono ?_; rintro e w1 ⟨rfl, hb1⟩)
      | (go_at_call 21; refine (HS.out _ hb1).mono ?_; rintro e w2 ⟨rfl, hb2⟩))
    go_ret2
    exact ⟨HR.out _ _ (.inr ⟨HBB.out, rfl, rfl⟩), hb2⟩
end
end Go.Proofs.YtkhnchahoidbaaaDoor
