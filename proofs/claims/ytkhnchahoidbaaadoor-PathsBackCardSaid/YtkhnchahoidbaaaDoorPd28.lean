/- Parts and Above by the program: what is handed out is the call's own. -/
import Derived.Test.YtkhnchahoidbaaaDoorPd27
namespace Go.Proofs.YtkhnchahoidbaaaDoor
open Go.RowKit

/-- cells stored one by one over the whole of an owned row -/
theorem own_cells {base g n cap : Nat} : ∀ (vs : List Value) (o : Nat) (w : World) (xs : List Value), w.ownsRow base 9 1 (.slice (some ⟨g, 0, none⟩) n cap) n xs → o + vs.length = n → (w.setCells g o vs).ownsRow base 9 1 (.slice (some ⟨g, 0, none⟩) n cap) n (xs.take o ++ vs) := by
  intro vs
  induction vs with
  | nil =>
    intro o w xs h ho
    have hl := h.1
    simp only [List.length_nil, Nat.add_zero, Nat.mul_one] at ho hl
    rw [World.setCells, List.append_nil, List.take_of_length_le (by omega)]
    exact h
  | cons v r ih =>
    intro o w xs h ho
    have hl := h.1
    simp only [List.length_cons, Nat.mul_one] at ho hl
    have := ih (o + 1) _ _ (h.stored o v).1 (by omega)
    rw [World.setCells]
    have e : (xs.set o v).take (o + 1) ++ r = xs.take o ++ v :: r := by
      rw [List.take_add_one, List.take_set]
      have h1 : (xs.set o v)[o]? = some v := by rw [List.getElem?_set_self (by omega)]
      rw [h1, List.set_eq_of_length_le (by rw [List.length_take]; omega)]
      simp
    rw [← e]
    exact this

theorem own_new_strs (w : World) (base : Nat) (L : List ByteArray) (n : Nat) (hn : L.length = n) (hm : n ≤ maxLen) (hb : base ≤ w.heap.size) : (w.alloc (.cells (strs L).toArray 9)).ownsRow base 9 1 (.slice (some ⟨w.heap.size, 0, none⟩) n n) n (strs L) := by
  have := World.ownsRow_lit (base := base) (e := 9) (size := 1) w (strs L).toArray n hb hm (by rw [List.size_toArray, strs_length, hn, Nat.mul_one])
  simpa using this

set_option maxRecDepth 100000 in
set_option maxHeartbeats 1000000 in
theorem parts_own (s : ByteArray) (w : World) (m : Int) (hm : w.cell? ⟨0, 0, none⟩ = some (.int .i64 m)) (hG : 0 < w.heap.size) :
    Calls Tryd.prog 10 #[.string s] w fun e w' => (∃ A c, e = .returned (.tuple #[.slice A (partsOf s).length c, .int .i64 (partsE s)]) ∧ w'.ownsRow w.heap.size 9 1 (.slice A (partsOf s).length c) (partsOf s).length (strs (partsOf s))) ∧ Below w.heap.size w w' ∧ (partsOf s).length ≤ 4097 := by
  have hcell : ∀ W, Below w.heap.size w W → W.cell? ⟨0, 0, none⟩ = some (.int .i64 m) := fun W hB => by
    rw [hB.cell (p := ⟨0, 0, none⟩) hG]
    exact hm
  rcases Bool.eq_false_or_eq_true (okB s) with g1 | g1
  · obtain ⟨x, y, z, zz⟩ := ok_parts ((okB_iff s).1 g1)
    have hP : partsOf s = partsF s s.size 1 := by unfold partsOf; rw [if_pos g1]
    have hE : partsE s = 0 := by unfold partsE; rw [if_pos g1]
    rw [hE]
    rcases Bool.eq_false_or_eq_true (s.toList == [47]) with g2 | g2
    · have h1 : s.size = 1 := by
        rw [toList_one] at g2
        exact (of_decide_eq_true g2).1
      have hP0 : partsOf s = [] := by rw [hP, h1, partsF, if_neg (by omega)]
      rw [hP0]
      have HG := Lib.hid g1
      clear g1 hP hP0 hE
      go_enter Tryd.func10, Tryd.ntmps10
      go_wp2_with (go_at_call 28; refine (valid_ok s _ m hm hG).mono ?_; rintro e w1 ⟨rfl, hb1⟩; rw [HG.out])
      go_ret2
      exact ⟨⟨none, 0, rfl, World.ownsRow_nil _ _ _ _⟩, hb1, by simp⟩
    · have h1 : s.size ≠ 1 := by
        intro h
        rw [toList_one] at g2
        exact of_decide_eq_false g2 ⟨h, z⟩
      have hend : byteAt s (s.size - 1) ≠ 47 := by
        rcases zz with h | h
        · exact absurd h h1
        · exact h.1
      have hS := split_parts s hend s.size 1 (by omega) (by omega)
      have hlen := Lib.splitB_all ⟨#[47]⟩ (by decide) 0 _ (s.extract 1 s.size) rfl
      have hcnt := Lib.countB_le ⟨#[47]⟩ (by decide) _ (s.extract 1 s.size) (Nat.le_refl _)
      have hz : (s.extract 1 s.size).size = s.size - 1 := by simp only [ByteArray.size_extract]; omega
      rw [hS, ← hP] at hlen
      have HS : Hid (∀ W, Below w.heap.size w W → Calls Tryd.prog 30 #[.string (s.extract 1 s.size), .string ⟨#[47]⟩] W fun e w' => (∃ A c, e = .returned (.slice A (partsOf s).length c) ∧ w'.ownsRow w.heap.size 9 1 (.slice A (partsOf s).length c) (partsOf s).length (strs (partsOf s))) ∧ Below w.heap.size w w') := by
        intro W hB
        refine (Tryd.strings_Split (s.extract 1 s.size) ⟨#[47]⟩ m W (by omega) (hcell W hB) (by decide)).mono ?_
        rintro e w' ⟨rfl, rfl⟩
        rw [hS, ← hP]
        refine ⟨⟨_, _, by rw [hlen], ?_⟩, hB.alloc hB.size _⟩
        have := own_new_strs W w.heap.size (partsOf s) (partsOf s).length rfl (by simp only [maxLen]; omega) hB.size
        simpa [strs, hlen] using this
      have hbd : (partsOf s).length ≤ 4097 := by omega
      have HG := Lib.hid g1
      clear g1 hP hE hS hlen hcnt hcell
      go_enter Tryd.func10, Tryd.ntmps10
      go_wp2_with (first
        | (go_at_call 28; refine (valid_ok s _ m hm hG).mono ?_; rintro e w1 ⟨rfl, hb1⟩; rw [HG.out])
        | (go_at_call 30; refine (HS.out _ hb1).mono ?_; rintro e w2 ⟨⟨A, c, rfl, hr⟩, hb2⟩))
      go_ret2
      exact ⟨⟨A, c, rfl, hr⟩, hb2, hbd⟩
  · have hP : partsOf s = [] := by unfold partsOf; rw [g1]; rfl
    have hE : partsE s = 30 := by unfold partsE; rw [g1]; rfl
    rw [hP, hE]
    have HG := Lib.hid g1
    clear g1 hP hE
    go_enter Tryd.func10, Tryd.ntmps10
    go_wp2_with (go_at_call 28; refine (valid_ok s _ m hm hG).mono ?_; rintro e w1 ⟨rfl, hb1⟩; rw [HG.out])
    go_ret2
    exact ⟨⟨none, 0, rfl, World.ownsRow_nil _ _ _ _⟩, hb1, by simp⟩

theorem reverse_own {base n c : Nat} {A : Option Addr} {L : List ByteArray} {W : World} (hown : W.ownsRow base 9 1 (.slice A n c) n (strs L)) (hn : n ≤ 4611686018427387904) :
    Calls Tryd.prog 35 #[.slice A n c] W fun e w' => e = .returned (.tuple #[]) ∧ w'.ownsRow base 9 1 (.slice A n c) n (strs L.reverse) ∧ Below base W w' := by
  have hl : L.length = n := by have := hown.1; rw [strs_length, Nat.mul_one] at this; exact this
  subst hl
  rcases hown.2 with ⟨hv, h0⟩ | ⟨g, cap, cur, hv, hb, hh, _, _, hcs, htake⟩
  · have : L = [] := List.eq_nil_of_length_eq_zero h0
    subst this
    refine (Tryd.slices_Reverse_string_empty A c W).mono ?_
    rintro e w' ⟨rfl, rfl⟩
    exact ⟨rfl, hown, Below.refl _ _⟩
  · injection hv with hA hn2 hc
    subst hA
    have hc1 := hown.cells (g := g) rfl
    have hcell : ∀ i, i < L.length → W.cell? ⟨g, 0 + i, none⟩ = some (.string (L[i]?.getD ⟨#[]⟩)) := by
      intro i hi
      have := hc1 i _ (strs_get L i hi)
      rw [Go.WideShapes.add_plain] at this
      rw [this, List.getElem?_eq_getElem hi]
      rfl
    have hfz : ∀ j, j < L.length → W.frozen? ⟨g, 0 + j, none⟩ = false := fun j _ => Blk.frozen (t := 9) hh (0 + j)
    refine (Tryd.slices_Reverse_string_cells g 0 L.length c (fun i => L[i]?.getD ⟨#[]⟩) W (by omega) hcell hfz).mono ?_
    rintro e w' ⟨rfl, q, hw⟩
    have hw : w' = (W.drewN q).setCells g 0 (strs L.reverse) := hw.trans (congrArg _ (strsOf_list L))
    subst hw
    have hB : Below base W ((W.drewN q).setCells g 0 (strs L.reverse)) := Go.below_setCells hb _ _ _ (below_drewN' (Below.refl _ _) q)
    have hd : (W.drewN q).ownsRow base 9 1 (.slice (some ⟨g, 0, none⟩) L.length c) L.length (strs L) := own_below hown (below_drewN' (Below.refl _ _) q)
    have := own_cells (strs L.reverse) 0 _ _ hd (by rw [strs_length, List.length_reverse, Nat.zero_add])
    rw [List.take_zero, List.nil_append] at this
    exact ⟨rfl, this, hB⟩

set_option maxRecDepth 100000 in
set_option maxHeartbeats 1000000 in
theorem above_own (s : ByteArray) (w : World) (m : Int) (hm : w.cell? ⟨0, 0, none⟩ = some (.int .i64 m)) (hG : 0 < w.heap.size) :
    Calls Tryd.prog 16 #[.string s] w fun e w' => (∃ A c, e = .returned (.tuple #[.slice A (aboveOf s).length c, .int .i64 (partsE s)]) ∧ w'.ownsRow w.heap.size 9 1 (.slice A (aboveOf s).length c) (aboveOf s).length (strs (aboveOf s))) ∧ Below w.heap.size w w' ∧ (aboveOf s).length ≤ 4097 := by
  have hcell : ∀ W, Below w.heap.size w W → W.cell? ⟨0, 0, none⟩ = some (.int .i64 m) := fun W hB => by
    rw [hB.cell (p := ⟨0, 0, none⟩) hG]
    exact hm
  rcases Bool.eq_false_or_eq_true (okB s) with g1 | g1
  · obtain ⟨x, y, z, zz⟩ := ok_parts ((okB_iff s).1 g1)
    have hP : aboveOf s = (aboveF s.size s).reverse := by unfold aboveOf; rw [if_pos g1]
    have hE : partsE s = 0 := by unfold partsE; rw [if_pos g1]
    have hbd : (aboveOf s).length ≤ 4097 := by
      have := aboveF_len s.size s
      rw [hP, List.length_reverse]
      omega
    rw [hE]
    have HP := Lib.hid hP
    have HG := Lib.hid g1
    have HC := Lib.hid hcell
    obtain ⟨i0, hi0, hz0, hz1, hz2⟩ := info_parts str_info
    clear g1 hP hE hcell
    go_enter Tryd.func16, Tryd.ntmps16
    go_wp2_with (go_at_call 28; refine (valid_ok s _ m hm hG).mono ?_; rintro e w1 ⟨rfl, hb1⟩; rw [HG.out])
    go_loopw [0, 4] (fun u v wr => ∃ (q : ByteArray) (fuel : Nat) (done : List ByteArray), u = .string q ∧ Hid (okB q = true) ∧ wr.ownsRow w.heap.size 9 1 v done.length (strs done) ∧ Below w.heap.size w wr ∧ Hid (done ++ aboveF fuel q = aboveF s.size s) ∧ q.size ≤ fuel ∧ fuel ≤ s.size ∧ done.length + fuel ≤ s.size) (fun u _ _ => strSize' u)
    case atStart => exact ⟨s, s.size, [], rfl, HG, World.ownsRow_nil _ _ _ _, hb1, rfl, by omega, by omega, by simp⟩
    case round =>
      obtain ⟨q, fuel, done, rfl, HQ, hown, hbw, HD, hq, hf, hdl⟩ := hrel
      rcases Bool.eq_false_or_eq_true (q.toList == [47]) with h2 | h2
      · have hd : aboveOf s = done.reverse := by
          rw [HP.out, ← HD.out]
          cases fuel with
          | zero => simp [aboveF]
          | succ f => rw [aboveF, if_pos h2, List.append_nil]
        have HR := Lib.hid hd
        clear hd HP HD
        obtain ⟨A, c, hv⟩ := slice_form hown
        rw [hv] at hown ⊢
        have HRV := Lib.hid (reverse_own hown (by omega))
        go_wp2_with (go_at_call 35; refine HRV.out.mono ?_; rintro e w5 ⟨rfl, hr5, hb5⟩)
        go_ret2
        exact ⟨⟨A, c, (by rw [HR.out, List.length_reverse]; rfl), (by rw [HR.out, List.length_reverse]; exact hr5)⟩, hbw.trans hb5, hbd⟩
      · have hok := ok_parent ((okB_iff q).1 HQ.out)
        have h2' := ok_one ((okB_iff q).1 HQ.out) h2
        have HQ2 : Hid (okB (parentS q) = true) := (okB_iff _).2 hok.1
        have hlt := hok.2 (by omega)
        obtain ⟨fuel, rfl⟩ : ∃ f', fuel = f' + 1 := ⟨fuel - 1, by omega⟩
        have HD2 : Hid ((done ++ [parentS q]) ++ aboveF fuel (parentS q) = aboveF s.size s) := by
          show _ = _
          rw [← HD.out, aboveF, if_neg (by rw [h2]; decide), List.append_assoc]
          rfl
        have HPC : Hid (∀ W, Below w.heap.size w W → Calls Tryd.prog 12 #[.string q] W fun e w' => e = .returned (.tuple #[.string (parentS q), .int .i64 0]) ∧ Below W.heap.size W w') := fun W hB => by
          have hpb : parB q = true := by unfold parB; rw [HQ.out, h2]; rfl
          have := parent_all q W m (HC.out W hB) (Nat.lt_of_lt_of_le hG hB.size)
          unfold parT parE at this
          rw [hpb] at this
          exact this
        obtain ⟨A, c, hv⟩ := slice_form hown
        rw [hv] at hown ⊢
        clear hok HD hv
        go_wp2_with (first
          | (go_at_call 12; refine (HPC.out _ hbw).mono ?_; rintro e w2 ⟨rfl, hb2⟩
             have hown2 := own_below hown hb2
             have hbw2 : Below w.heap.size w w2 := hbw.trans (hb2.mono hbw.size))
          | (at_builtin
             refine wpList_append_any _ rfl (.tmp 15) (.tmp 17) _ rfl w.heap.size 9 i0 _ 1 16 Tryd.underlying22 hi0 hz0 hz1 hz2 rfl (by decide) (.slice A done.length c) done.length (strs done) rfl (hown2.alloc _) (w2.heap.size + 1) (some ⟨w2.heap.size, 0, none⟩) 1 1 (strs [parentS q]) rfl (reads_new w2 9 [parentS q] 1 rfl) (strs_one _) (by simp only [maxLen]; omega) (by omega) (by have := hbw2.size; simp; omega) ?_
             intro v1 w3 hown3 hg3 hat3
             have hbw3 : Below w.heap.size w w3 := Below.grown (hbw2.alloc hbw2.size _) hg3 (by have := hbw2.size; simp; omega) (fun j hj => by have := (hown2.lt _ hj).1; omega)
             rw [← strs_append, show done.length + 1 = (done ++ [parentS q]).length by simp] at hown3
             clear hat3 hg3))
        go_roundw
        case rel => exact ⟨parentS q, fuel, done ++ [parentS q], rfl, HQ2, hown3, hbw3, HD2, by omega, by omega, by simp; omega⟩
        case measure => simpa [strSize'] using hlt
  · have hP : aboveOf s = [] := by unfold aboveOf; rw [g1]; rfl
    have hE : partsE s = 30 := by unfold partsE; rw [g1]; rfl
    rw [hP, hE]
    have HG := Lib.hid g1
    clear g1 hP hE
    go_enter Tryd.func16, Tryd.ntmps16
    go_wp2_with (go_at_call 28; refine (valid_ok s _ m hm hG).mono ?_; rintro e w1 ⟨rfl, hb1⟩; rw [HG.out])
    go_ret2
    exact ⟨⟨none, 0, rfl, World.ownsRow_nil _ _ _ _⟩, hb1, by simp⟩
end Go.Proofs.YtkhnchahoidbaaaDoor
