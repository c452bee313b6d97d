/- StatRecords: the record of a Stat: the program's walk and the document's. -/
import Derived.Test.YtaojjjcaofhmcaaDoorJe0
import Derived.Test.YtaojjjcaofhmcaaDoorBase
set_option linter.unusedVariables false
set_option linter.unusedSimpArgs false
namespace Go.Proofs.YtaojjjcaofhmcaaDoor
open Go.RowKit

/-- integers, each written by f, one behind the other -/
def bAll (f : Int → List UInt8) (xs : List Int) : List UInt8 := xs.flatMap f
theorem bAll_snoc (f : Int → List UInt8) (xs : List Int) (k : Nat) (h : k < xs.length) : bAll f (xs.take (k + 1)) = bAll f (xs.take k) ++ f xs[k] := by
  unfold bAll; rw [List.take_succ_eq_append_getElem h, List.flatMap_append]; simp
/-- a Stat's record -/
def recB (a0 a1 a2 a3 a4 a5 a6 a7 a8 a9 a10 : Int) : List UInt8 :=
  bAll bLong [a0, a1, a2, a3] ++ bAll bInt [a4, a5, a6] ++ bLong a7 ++ bInt a8 ++ bInt a9 ++ bLong a10
theorem recB_len (a0 a1 a2 a3 a4 a5 a6 a7 a8 a9 a10 : Int) : (recB a0 a1 a2 a3 a4 a5 a6 a7 a8 a9 a10).length = 68 := by
  simp [recB, bAll, bLong_len, bInt_len]
theorem bLongs_le (xs : List Int) : (bAll bLong xs).length = 8 * xs.length := by
  induction xs with
  | nil => rfl
  | cons x r ih => simp only [bAll, List.flatMap_cons, List.length_append, bLong_len, List.length_cons] at ih ⊢; omega
theorem bInts_le (xs : List Int) : (bAll bInt xs).length = 4 * xs.length := by
  induction xs with
  | nil => rfl
  | cons x r ih => simp only [bAll, List.flatMap_cons, List.length_append, bInt_len, List.length_cons] at ih ⊢; omega
theorem lit_cell {w : World} {g : Nat} {t : TypeId} {cs : Array Value} (h : Blk w g t cs) {u : Value} (j : Nat) (hu : cs[j]? = some u) : w.cell? ⟨g, j, none⟩ = some u := (h.cell j).trans hu

theorem own_low {w : World} {b b' size n : Nat} {e : TypeId} {v : Value} {xs : List Value} (h : w.ownsRow b e size v n xs) (hb : b' ≤ b) : w.ownsRow b' e size v n xs :=
  ⟨h.1, h.2.imp id (fun ⟨g, cap, cur, e1, hg, r⟩ => ⟨g, cap, cur, e1, Nat.le_trans hb hg, r⟩)⟩
theorem lits (k : IntKind) (xs : List Int) (j : Nat) (h : j < xs.length) : ((xs.map fun z => Value.int k z).toArray)[j]? = some (.int k xs[j]) := by
  simp [List.getElem?_eq_getElem h]
theorem Blk.wrote {w w' : World} {base g b : Nat} {v v' : Value} {l k : List UInt8} {t : TypeId} {cs : Array Value} (h : Blk w b t cs) (hv : Wr w base g v l) (hp : Wrote base g v v' l k w w') (hb : b ≠ g) (ht : 5 ≠ t) : Blk w' b t cs :=
  h.kp hp.2.1 (fun hm => by
    rcases List.mem_cons.1 hm with e | hm
    · exact hb e
    · exact own_blk_ne hv.2 h ht (by simpa using hm))

set_option maxRecDepth 100000 in
set_option maxHeartbeats 2000000 in
theorem record_any (a0 a1 a2 a3 a4 a5 a6 a7 a8 a9 a10 : Int) (w : World) :
    Calls Tryd.prog 10 #[.agg #[.int .i64 a0, .int .i64 a1, .int .i64 a2, .int .i64 a3, .int .i32 a4, .int .i32 a5, .int .i32 a6, .int .i64 a7, .int .i32 a8, .int .i32 a9, .int .i64 a10]] w fun e w' =>
      ∃ A c, e = .returned (.slice A 68 c) ∧ w'.ownsRow w.heap.size 5 1 (.slice A 68 c) 68 (bcells (recB a0 a1 a2 a3 a4 a5 a6 a7 a8 a9 a10)) ∧ Below w.heap.size w w' := by
  obtain ⟨w1, hw1⟩ : ∃ w1, (w.alloc (.cells #[.int .i64 a0, .int .i64 a1, .int .i64 a2, .int .i64 a3, .int .i32 a4, .int .i32 a5, .int .i32 a6, .int .i64 a7, .int .i32 a8, .int .i32 a9, .int .i64 a10] 23)).alloc (.cells #[.slice none 0 0] 69) = w1 := ⟨_, rfl⟩
  have HS : Hid (Blk w1 w.heap.size 23 #[.int .i64 a0, .int .i64 a1, .int .i64 a2, .int .i64 a3, .int .i32 a4, .int .i32 a5, .int .i32 a6, .int .i64 a7, .int .i32 a8, .int .i32 a9, .int .i64 a10]) := by unfold Hid; rw [← hw1]; exact (Blk.new _ _ _).alloc _
  have HW1 : Hid (Wr w1 (w.heap.size + 1) (w.heap.size + 1) (.slice none 0 0) []) := ⟨by rw [← hw1]; exact Blk.new' (by simp), World.ownsRow_nil _ _ _ _⟩
  have hz1 : w1.heap.size = w.heap.size + 2 := by rw [← hw1]; simp
  have HB1 : Hid (Below w.heap.size w w1) := by unfold Hid; rw [← hw1]; exact ((Below.refl _ _).alloc (Nat.le_refl _) _).alloc (by simp) _
  obtain ⟨xs, hxs⟩ : ∃ xs : List Int, xs = [a0, a1, a2, a3] := ⟨_, rfl⟩
  obtain ⟨ys, hys⟩ : ∃ ys : List Int, ys = [a4, a5, a6] := ⟨_, rfl⟩
  have c0 := lit_cell HS.out 0 rfl
  have c1 := lit_cell HS.out 1 rfl
  have c2 := lit_cell HS.out 2 rfl
  have c3 := lit_cell HS.out 3 rfl
  have HB12 : Hid (∀ o, Below w1.heap.size w1 (w1.alloc o)) := fun o => (Below.refl _ _).alloc (Nat.le_refl _) _
  have HX := Lib.hid hxs
  have HY := Lib.hid hys
  clear hxs hys
  go_enter Tryd.func10, Tryd.ntmps10
  go_wp2
  go_loopw [20] (fun i wr => ∃ (j : Nat) (v1 : Value), j ≤ 4 ∧ i = .int .i64 j ∧ Wrote (w.heap.size + 1) (w.heap.size + 1) (.slice none 0 0) v1 [] (bAll bLong (xs.take j)) w1 wr ∧ Blk wr (w.heap.size + 2) 2 (xs.map fun z => Value.int .i64 z).toArray) (fun i _ => 4 - (intOf i).toNat)
  case atStart => exact ⟨0, _, Nat.zero_le _, rfl, (Wrote.start HW1.out).later (HB12.out _), by rw [HX.out]; exact Blk.new' hz1.symm⟩
  case round =>
    obtain ⟨j, v1, hj, rfl, hW, hL⟩ := hrel
    have hz := hW.size
    have hxl : xs.length = 4 := by rw [HX.out]; rfl
    clear c0 c1 c2 c3
    by_cases hlt : j < 4
    · have hc := lit_cell hL j (lits .i64 xs j (by omega))
      have HW := Lib.hid hW
      have HL := Lib.hid hL
      have HE := Lib.hid (bAll_snoc bLong xs j (by omega))
      have HLN : Hid (([] ++ bAll bLong (xs.take j)).length + 8 ≤ 140737488355328) := by
        unfold Hid; rw [List.nil_append, bLongs_le, List.length_take]; omega
      clear hW hL
      go_wp2_with (go_at_call 32; refine (wLong_any (w.heap.size + 1) (w.heap.size + 1) v1 _ xs[j] wr HW.out.1 (by omega) HLN.out).mono ?_; rintro e w2 ⟨rfl, v3, hp⟩; have HL2 := Lib.hid (Blk.wrote HL.out HW.out.1 hp (by omega) (by decide)); have HP := Lib.hid (HW.out.cat (Below.refl _ _) hp); clear hp)
      go_roundw
      case rel => exact ⟨j + 1, v3, by omega, by go_num, by rw [HE.out]; exact HP.out, HL2.out⟩
      case measure => simp [intOf]; omega
    · have hj4 : j = 4 := by omega
      subst hj4
      rw [show ((4 : Nat) : Int) = 4 from rfl]
      have HW : Hid (Wrote (w.heap.size + 1) (w.heap.size + 1) (.slice none 0 0) v1 [] (bAll bLong xs) w1 wr) := by
        unfold Hid; rw [List.take_of_length_le (by omega)] at hW; exact hW
      clear hW hL hlt hj
      rename World => wa
      have hS := HS.out.wrote HW1.out HW.out (by omega) (by decide)
      have c4 := lit_cell hS 4 rfl
      have c5 := lit_cell hS 5 rfl
      have c6 := lit_cell hS 6 rfl
      clear hS
      go_wp2
      have HB23 : Hid (∀ o, Below wa.heap.size wa (wa.alloc o)) := fun o => (Below.refl _ _).alloc (Nat.le_refl _) _
      clear c4 c5 c6
      go_loopw [36] (fun i wq => ∃ (j : Nat) (v2 : Value), j ≤ 3 ∧ i = .int .i64 j ∧ Wrote (w.heap.size + 1) (w.heap.size + 1) (.slice none 0 0) v2 [] (bAll bLong xs ++ bAll bInt (ys.take j)) w1 wq ∧ Blk wq wa.heap.size 21 (ys.map fun z => Value.int .i32 z).toArray) (fun i _ => 3 - (intOf i).toNat)
      case atStart => exact ⟨0, _, Nat.zero_le _, rfl, by simpa [bAll] using HW.out.later (HB23.out _), by rw [HY.out]; exact Blk.new' rfl⟩
      case round =>
        obtain ⟨j, v2, hj, rfl, hQ, hL⟩ := hrel
        have hzq := hQ.size
        have hyl : ys.length = 3 := by rw [HY.out]; rfl
        by_cases hlt : j < 3
        · have hc := lit_cell hL j (lits .i32 ys j (by omega))
          have HQ := Lib.hid hQ
          have HL := Lib.hid hL
          have HE := Lib.hid (bAll_snoc bInt ys j (by omega))
          have HLN : Hid (([] ++ (bAll bLong xs ++ bAll bInt (ys.take j))).length + 8 ≤ 140737488355328) := by
            unfold Hid; rw [List.nil_append, List.length_append, bLongs_le, bInts_le, List.length_take]; omega
          clear hQ hL
          go_wp2_with (go_at_call 33; refine (wInt_any (w.heap.size + 1) (w.heap.size + 1) v2 _ ys[j] wr HQ.out.1 (by omega) HLN.out).mono ?_; rintro e w2 ⟨rfl, v3, hp⟩; have HL2 := Lib.hid (Blk.wrote HL.out HQ.out.1 hp (by omega) (by decide)); have HP := Lib.hid (HQ.out.cat (Below.refl _ _) hp); clear hp)
          go_roundw
          case rel => exact ⟨j + 1, v3, by omega, by go_num, by rw [HE.out, ← List.append_assoc]; exact HP.out, HL2.out⟩
          case measure => simp [intOf]; omega
        · have hj3 : j = 3 := by omega
          subst hj3
          rw [show ((3 : Nat) : Int) = 3 from rfl]
          have HQ : Hid (Wrote (w.heap.size + 1) (w.heap.size + 1) (.slice none 0 0) v2 [] (bAll bLong xs ++ bAll bInt ys) w1 wr) := by
            unfold Hid; rw [List.take_of_length_le (by omega)] at hQ; exact hQ
          have HLX : Hid ((bAll bLong xs).length = 32) := by unfold Hid; rw [bLongs_le]; omega
          have HLY : Hid ((bAll bInt ys).length = 12) := by unfold Hid; rw [bInts_le]; omega
          clear hQ hL hlt hj HW
          have hS := HS.out.wrote HW1.out HQ.out (by omega) (by decide)
          have c7 := lit_cell hS 7 rfl
          clear hS
          go_wp2_with (go_at_call 32; refine (wLong_any (w.heap.size + 1) (w.heap.size + 1) v2 _ a7 wr HQ.out.1 (by omega) (by simp only [List.nil_append, List.length_append, HLX.out, HLY.out]; omega)).mono ?_; rintro e w5 ⟨rfl, v5, hp⟩; have H5 := Lib.hid (HQ.out.cat (Below.refl _ _) hp); clear hp; have hz5 := H5.out.size; have c8 := lit_cell (HS.out.wrote HW1.out H5.out (by omega) (by decide)) 8 rfl; refine Hid.out ?_)
          clear c7
          refine Lib.hid ?_
          go_wp2_with (go_at_call 33; refine (wInt_any (w.heap.size + 1) (w.heap.size + 1) v5 _ a8 w5 H5.out.1 (by omega) (by simp only [List.nil_append, List.length_append, HLX.out, HLY.out, bLong_len]; omega)).mono ?_; rintro e w6 ⟨rfl, v6, hp⟩; have H6 := Lib.hid (H5.out.cat (Below.refl _ _) hp); clear hp; have hz6 := H6.out.size; have c9 := lit_cell (HS.out.wrote HW1.out H6.out (by omega) (by decide)) 9 rfl; refine Hid.out ?_)
          clear c8
          refine Lib.hid ?_
          go_wp2_with (go_at_call 33; refine (wInt_any (w.heap.size + 1) (w.heap.size + 1) v6 _ a9 w6 H6.out.1 (by omega) (by simp only [List.nil_append, List.length_append, HLX.out, HLY.out, bLong_len, bInt_len]; omega)).mono ?_; rintro e w7 ⟨rfl, v7, hp⟩; have H7 := Lib.hid (H6.out.cat (Below.refl _ _) hp); clear hp; have hz7 := H7.out.size; have c10 := lit_cell (HS.out.wrote HW1.out H7.out (by omega) (by decide)) 10 rfl; refine Hid.out ?_)
          clear c9
          refine Lib.hid ?_
          go_wp2_with (go_at_call 32; refine (wLong_any (w.heap.size + 1) (w.heap.size + 1) v7 _ a10 w7 H7.out.1 (by omega) (by simp only [List.nil_append, List.length_append, HLX.out, HLY.out, bLong_len, bInt_len]; omega)).mono ?_; rintro e w8 ⟨rfl, v8, hp⟩; have H8 := Lib.hid (H7.out.cat (Below.refl _ _) hp); clear hp; have hz8 := H8.out.size; refine Hid.out ?_)
          clear c10
          refine Lib.hid ?_
          have HR : Hid (Wr w8 (w.heap.size + 1) (w.heap.size + 1) v8 (recB a0 a1 a2 a3 a4 a5 a6 a7 a8 a9 a10)) := by
            unfold Hid recB; rw [← HX.out, ← HY.out]; simpa only [List.nil_append] using H8.out.1
          have hrb := wBytes_any (w.heap.size + 1) (w.heap.size + 1) v8 _ w8 HR.out (by rw [recB_len]; omega)
          rw [recB_len] at hrb
          have HRB := Lib.hid hrb
          clear hrb
          go_wp2_with (go_at_call 34; refine HRB.out.mono ?_; rintro e w9 ⟨A, c, rfl, ho, hb⟩; have HO := Lib.hid ho; have HB9 := Lib.hid hb; clear ho hb)
          go_ret
          have hb8 : Below w.heap.size w w8 := HB1.out.trans (H8.out.below (by omega) (fun x e => by simp [Value.ownBlock] at e) (by omega))
          exact ⟨A, c, rfl, own_low HO.out (by omega), hb8.trans (HB9.out.mono (by omega))⟩
end Go.Proofs.YtaojjjcaofhmcaaDoor
