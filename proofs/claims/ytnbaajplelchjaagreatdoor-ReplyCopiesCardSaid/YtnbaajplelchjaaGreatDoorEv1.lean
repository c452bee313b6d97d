/- An event's bytes: the program's EncodeEvent: the walk. (printed by gen_v1.py) -/
import Derived.Test.YtnbaajplelchjaaGreatDoorSuw
set_option linter.unusedVariables false
set_option linter.unusedSimpArgs false
namespace Go.Proofs.YtnbaajplelchjaaGreatDoor
open Go.RowKit
/-- an event's bytes -/
def evB (k : Int) (p : List UInt8) (s : Int) : List UInt8 := bInt (-1) ++ bLong (-1) ++ bInt 0 ++ bInt k ++ bInt 3 ++ bBuf p ++ bLong s
/-- may an event be: by its kind, by whether its path is text, by how long -/
def evX (k : Int) (v : Bool) (n : Nat) : Int := if (1 ≤ k ∧ k ≤ 4) ∧ v = true then (if 4096 < n then 3 else 0) else 1
theorem kind_any (k : Int) (w : World) : Calls Tryz.prog 59 #[.int .i32 k] w fun e w' => e = .returned (.bool (decide (1 ≤ k) && decide (k ≤ 4))) ∧ w = w' := by
  by_cases h1 : 1 ≤ k
  · by_cases h2 : k ≤ 4
    all_goals
      go_enter Tryz.func59, Tryz.ntmps59
      go_wp2
      go_ret
      exact ⟨by simp [h1, h2], rfl⟩
  · go_enter Tryz.func59, Tryz.ntmps59
    go_wp2
    go_ret
    exact ⟨by simp [show ¬ 1 ≤ k by omega], rfl⟩
/-- what EncodeEvent says of text -/
def Vstr (p : ByteArray) (v : Bool) (w : World) : Prop := ∀ W, Below w.heap.size w W → Calls Tryz.prog 60 #[.string p] W fun e w' => e = .returned (.bool v) ∧ Below W.heap.size W w'
set_option maxRecDepth 100000 in
set_option maxHeartbeats 4000000 in
theorem encodeEvent_any (s k : Int) (p : ByteArray) (v : Bool) (w : World) (hv : Vstr p v w) :
    Calls Tryz.prog 19 #[.agg #[.int .i64 s, .int .i32 k, .string p]] w fun e w' => Below w.heap.size w w' ∧
      ((evX k v p.size ≠ 0 ∧ e = .returned (.tuple #[.slice none 0 0, .int .i64 (evX k v p.size)])) ∨
       (evX k v p.size = 0 ∧ ∃ A n c, e = .returned (.tuple #[.slice A n c, .int .i64 0]) ∧ w'.ownsRow w.heap.size 5 1 (.slice A n c) n (bcells (evB k p.data.toList s)))) := by
  obtain ⟨w1, hw1⟩ : ∃ w1, w.alloc (.cells #[.int .i64 s, .int .i32 k, .string p] 55) = w1 := ⟨_, rfl⟩
  have hb1 : Below w.heap.size w w1 := by rw [← hw1]; exact (Below.refl _ _).alloc (Nat.le_refl _) _
  have hS : Blk w1 w.heap.size 55 #[.int .i64 s, .int .i32 k, .string p] := by rw [← hw1]; exact Blk.new _ _ _
  have hz1 : w1.heap.size = w.heap.size + 1 := by rw [← hw1]; simp
  have hvs := hv w1 hb1
  have HB1 := Lib.hid hb1
  have HS := Lib.hid hS
  have HV := Lib.hid hvs
  have HK := Lib.hid (kind_any k w1)
  have kc1 := lit_cell hS 1 rfl
  have kc2 := lit_cell hS 2 rfl
  obtain ⟨E, hE⟩ : ∃ E, E = evX k v p.size := ⟨_, rfl⟩
  rw [← hE]
  obtain ⟨b, hb⟩ : ∃ b, b = (decide (1 ≤ k) && decide (k ≤ 4)) := ⟨_, rfl⟩
  rw [← hb] at HK
  have hXE : E = if b = true ∧ v = true then (if 4096 < p.size then 3 else 0) else 1 := by
    rw [hE, hb]
    unfold evX
    simp only [Bool.and_eq_true, decide_eq_true_eq]
  have HXE := Lib.hid hXE
  clear hb1 hS hvs hv hE hb hXE
  rcases b with _ | _
  · have h0 : E = 1 := by rw [HXE.out, if_neg (by simp)]
    subst h0
    clear HXE
    go_enter Tryz.func19, Tryz.ntmps19
    go_wp2_with (go_at_call 59; refine HK.out.mono ?_; rintro e w2 ⟨rfl, rfl⟩)
    go_ret2
    exact ⟨HB1.out, .inl ⟨by decide, rfl⟩⟩
  rcases v with _ | _
  · have h0 : E = 1 := by rw [HXE.out, if_neg (by simp)]
    subst h0
    clear HXE
    go_enter Tryz.func19, Tryz.ntmps19
    go_wp2_with (first
      | (go_at_call 59; refine HK.out.mono ?_; rintro e w2 ⟨rfl, rfl⟩)
      | (go_at_call 60; refine HV.out.mono ?_; rintro e w2 ⟨rfl, hb⟩; have HB2 := Lib.hid (HB1.out.trans (hb.mono HB1.out.size)); clear hb kc1 kc2))
    go_ret2
    exact ⟨HB2.out, .inl ⟨by decide, rfl⟩⟩
  by_cases hp : 4096 < p.size
  · have h0 : E = 3 := by rw [HXE.out, if_pos (by simp), if_pos hp]
    subst h0
    clear HXE
    have hp2 : (4096 : Int) < (p.size : Int) := by omega
    go_enter Tryz.func19, Tryz.ntmps19
    go_wp2_with (first
      | (go_at_call 59; refine HK.out.mono ?_; rintro e w2 ⟨rfl, rfl⟩)
      | (go_at_call 60; refine HV.out.mono ?_; rintro e w2 ⟨rfl, hb⟩; have HB2 := Lib.hid (HB1.out.trans (hb.mono HB1.out.size)); have kd2 : w2.cell? ⟨w.heap.size, 2, none⟩ = some (.string p) := lit_cell (HS.out.below hb (by omega)) 2 rfl; clear hb kc1 kc2))
    go_ret2
    exact ⟨HB2.out, .inl ⟨by decide, rfl⟩⟩
  have h0 : E = 0 := by rw [HXE.out, if_pos (by simp), if_neg hp]
  subst h0
  clear HXE
  have hp2 : ¬ (4096 : Int) < (p.size : Int) := by omega
  have hps : p.size ≤ 4096 := by omega
  clear hp
  go_enter Tryz.func19, Tryz.ntmps19
  go_wp2_with (first
      | (go_at_call 59; refine HK.out.mono ?_; rintro e w2 ⟨rfl, rfl⟩)
      | (go_at_call 60; refine HV.out.mono ?_; rintro e w2 ⟨rfl, hb⟩; have hz2 := hb.size; have HB12 := Lib.hid hb; have kd2 : w2.cell? ⟨w.heap.size, 2, none⟩ = some (.string p) := lit_cell (HS.out.below hb (by omega)) 2 rfl; clear hb kc1 kc2; refine Hid.out ?_))
  obtain ⟨w3, hw3⟩ : ∃ w3, w2.alloc (.cells #[.slice none 0 0] 73) = w3 := ⟨_, rfl⟩
  have hb23 : Below w2.heap.size w2 w3 := by rw [← hw3]; exact (Below.refl _ _).alloc (Nat.le_refl _) _
  have HW3 : Hid (Wr w3 w2.heap.size w2.heap.size (.slice none 0 0) []) := ⟨by rw [← hw3]; exact Blk.new _ _ _, World.ownsRow_nil _ _ _ _⟩
  have hz3 : w3.heap.size = w2.heap.size + 1 := by rw [← hw3]; simp
  have HB13 : Hid (Below w1.heap.size w1 w3) := HB12.out.trans (hb23.mono hz2)
  have HS3 := Lib.hid (HS.out.below HB13.out (by omega))
  clear hb23
  have H3 : Hid (Wrote w2.heap.size w2.heap.size (.slice none 0 0) (.slice none 0 0) [] [] w3 w3) := Wrote.start HW3.out
  have HBL : ∀ W v k, Wrote w2.heap.size w2.heap.size (.slice none 0 0) v [] k w3 W → Below w.heap.size w W := fun _ _ _ h => HB1.out.trans ((HB13.out.trans ((h.below (B := w2.heap.size) (Nat.le_refl _) (fun x e => by simp [Value.ownBlock] at e) (by omega)).mono (by omega))).mono (by omega))
  have HBLH := Lib.hid HBL
  clear HBL
  refine Lib.hid ?_
  go_wp2_with (go_at_call 32; refine (wInt_any w2.heap.size w2.heap.size (.slice none 0 0) _ (-1) w3 H3.out.1 (by omega) (by simp)).mono ?_; rintro e w4 ⟨rfl, v4, hp⟩; have hz4 := hp.size; have HS4 := Lib.hid (HS3.out.wrote H3.out.1 hp (by omega) (by decide)); have H4 := Lib.hid (H3.out.cat (Below.refl _ _) hp); clear hp; refine Hid.out ?_)
  refine Lib.hid ?_
  go_wp2_with (go_at_call 33; refine (wLong_any w2.heap.size w2.heap.size v4 _ (-1) w4 H4.out.1 (by omega) (by simp only [List.nil_append, List.append_nil, List.length_append, bInt_len, bLong_len, bBuf_len, ← bsize_eq, List.length_nil]; omega)).mono ?_; rintro e w5 ⟨rfl, v5, hp⟩; have hz5 := hp.size; have HS5 := Lib.hid (HS4.out.wrote H4.out.1 hp (by omega) (by decide)); have H5 := Lib.hid (H4.out.cat (Below.refl _ _) hp); clear hp; refine Hid.out ?_)
  refine Lib.hid ?_
  go_wp2_with (go_at_call 32; refine (wInt_any w2.heap.size w2.heap.size v5 _ 0 w5 H5.out.1 (by omega) (by simp only [List.nil_append, List.append_nil, List.length_append, bInt_len, bLong_len, bBuf_len, ← bsize_eq, List.length_nil]; omega)).mono ?_; rintro e w6 ⟨rfl, v6, hp⟩; have hz6 := hp.size; have HS6 := Lib.hid (HS5.out.wrote H5.out.1 hp (by omega) (by decide)); have H6 := Lib.hid (H5.out.cat (Below.refl _ _) hp); have c1 := lit_cell HS6.out 1 rfl; clear hp; refine Hid.out ?_)
  refine Lib.hid ?_
  go_wp2_with (go_at_call 32; refine (wInt_any w2.heap.size w2.heap.size v6 _ k w6 H6.out.1 (by omega) (by simp only [List.nil_append, List.append_nil, List.length_append, bInt_len, bLong_len, bBuf_len, ← bsize_eq, List.length_nil]; omega)).mono ?_; rintro e w7 ⟨rfl, v7, hp⟩; have hz7 := hp.size; have HS7 := Lib.hid (HS6.out.wrote H6.out.1 hp (by omega) (by decide)); have H7 := Lib.hid (H6.out.cat (Below.refl _ _) hp); clear hp; refine Hid.out ?_)
  refine Lib.hid ?_
  go_wp2_with (go_at_call 32; refine (wInt_any w2.heap.size w2.heap.size v7 _ 3 w7 H7.out.1 (by omega) (by simp only [List.nil_append, List.append_nil, List.length_append, bInt_len, bLong_len, bBuf_len, ← bsize_eq, List.length_nil]; omega)).mono ?_; rintro e w8 ⟨rfl, v8, hp⟩; have hz8 := hp.size; have HS8 := Lib.hid (HS7.out.wrote H7.out.1 hp (by omega) (by decide)); have H8 := Lib.hid (H7.out.cat (Below.refl _ _) hp); have c2 := lit_cell HS8.out 2 rfl; clear hp; refine Hid.out ?_)
  refine Lib.hid ?_
  go_wp2_with (go_at_call 61; refine (wText_any w2.heap.size w2.heap.size v8 _ p w8 H8.out.1 (by omega) (by simp only [List.nil_append, List.append_nil, List.length_append, bInt_len, bLong_len, bBuf_len, ← bsize_eq, List.length_nil]; omega)).mono ?_; rintro e w9 ⟨rfl, v9, hp⟩; have hz9 := hp.size; have HS9 := Lib.hid (HS8.out.wrote H8.out.1 hp (by omega) (by decide)); have H9 := Lib.hid (H8.out.cat (Below.refl _ _) hp); have c0 := lit_cell HS9.out 0 rfl; clear hp; refine Hid.out ?_)
  refine Lib.hid ?_
  go_wp2_with (go_at_call 33; refine (wLong_any w2.heap.size w2.heap.size v9 _ s w9 H9.out.1 (by omega) (by simp only [List.nil_append, List.append_nil, List.length_append, bInt_len, bLong_len, bBuf_len, ← bsize_eq, List.length_nil]; omega)).mono ?_; rintro e w10 ⟨rfl, v10, hp⟩; have hz10 := hp.size; have HS10 := Lib.hid (HS9.out.wrote H9.out.1 hp (by omega) (by decide)); have H10 := Lib.hid (H9.out.cat (Below.refl _ _) hp); clear hp; refine Hid.out ?_)
  refine Lib.hid ?_
  have HR : Hid (Wr w10 w2.heap.size w2.heap.size v10 (evB k p.data.toList s)) := by
    have h := H10.out.1
    unfold Hid evB
    simpa only [List.nil_append, List.append_assoc] using h
  have hrb := wBytes_any w2.heap.size w2.heap.size v10 _ w10 HR.out (by unfold evB; simp only [List.length_append, bInt_len, bLong_len, bBuf_len, ← bsize_eq]; omega)
  have HRB := Lib.hid hrb
  clear hrb
  go_wp2_with (go_at_call 36; refine HRB.out.mono ?_; rintro e w11 ⟨A, c, rfl, ho, hb⟩; have HO := Lib.hid ho; have HB11 := Lib.hid hb; clear ho hb)
  go_ret2
  have hb10 := HBLH.out _ _ _ H10.out
  exact ⟨hb10.trans (HB11.out.mono hb10.size), .inr ⟨by first | rfl | trivial, A, _, c, rfl, own_low HO.out hb10.size⟩⟩
end Go.Proofs.YtnbaajplelchjaaGreatDoor
