/- Above by the program; the law PathsParts: the walks. -/
import Derived.Test.YtkhnchahoidbaaaDoorPd13
import Derived.Lib.LazyBuf
import Derived.Lib.RowBridge
namespace Go.Proofs.YtkhnchahoidbaaaDoor
open Go.RowKit

theorem own_below {w w' : World} {base : Nat} {e : TypeId} {size n : Nat} {v : Value} {xs : List Value} (h : w.ownsRow base e size v n xs) (hb : Below w.heap.size w w') : w'.ownsRow base e size v n xs :=
  h.kept (row := none) ⟨hb.os, hb.tape, hb.output, hb.size, fun k hk _ => hb.block k hk⟩ (by
    cases v.ownBlock <;> simp)

theorem strsOf_list (L : List ByteArray) : (Lib.strsOf (fun i => L[i]?.getD ⟨#[]⟩) L.length).reverse.map (fun l => Value.string ⟨l.toArray⟩) = strs L.reverse := by
  have e : Lib.strsOf (fun i => L[i]?.getD ⟨#[]⟩) L.length = L.map (·.data.toList) := by
    unfold Lib.strsOf
    apply List.ext_getElem?
    intro i
    by_cases h : i < L.length
    · simp [h]
    · simp [h]
  rw [e, ← List.map_reverse, List.map_map]
  unfold strs
  apply List.map_congr_left
  intro x _
  show Value.string ⟨x.data.toList.toArray⟩ = _
  rw [Lib.mk_data]

theorem reverse_row {base n c : Nat} {A : Option Addr} {L : List ByteArray} {W : World} (hown : W.ownsRow base 9 1 (.slice A n c) n (strs L)) (hn : n ≤ 4611686018427387904) :
    Calls Tryd.prog 35 #[.slice A n c] W fun e w' => e = .returned (.tuple #[]) ∧ Reads w' w'.heap.size 1 A n (strs L.reverse) ∧ Below base W w' := by
  have hl : L.length = n := by have := hown.1; rw [strs_length, Nat.mul_one] at this; exact this
  subst hl
  rcases hown.2 with ⟨hv, h0⟩ | ⟨g, cap, cur, hv, hb, hh, _, _, hcs, htake⟩
  · have : L = [] := List.eq_nil_of_length_eq_zero h0
    subst this
    refine (Tryd.slices_Reverse_string_empty A c W).mono ?_
    rintro e w' ⟨rfl, rfl⟩
    exact ⟨rfl, Reads.none_, Below.refl _ _⟩
  · injection hv with hA hn2 hc
    subst hA
    have hc1 := hown.cells (g := g) rfl
    have hcell : ∀ i, i < L.length → W.cell? ⟨g, 0 + i, none⟩ = some (.string (L[i]?.getD ⟨#[]⟩)) := by
      intro i hi
      have := hc1 i _ (strs_get L i hi)
      rw [Go.WideShapes.add_plain] at this
      rw [this, List.getElem?_eq_getElem hi]
      rfl
    have hfz : ∀ j, j < L.length → W.frozen? ⟨g, 0 + j, none⟩ = false := fun j _ => Blk.frozen (t := 9) hh (0 + j)
    refine (Tryd.slices_Reverse_string_cells g 0 L.length c (fun i => L[i]?.getD ⟨#[]⟩) W (by omega) hcell hfz).mono ?_
    rintro e w' ⟨rfl, q, hw⟩
    have hw : w' = (W.drewN q).setCells g 0 (strs L.reverse) := hw.trans (congrArg _ (strsOf_list L))
    subst hw
    have hlt : g < W.heap.size := (Array.getElem?_eq_some_iff.1 hh).1
    have hB : Below base W ((W.drewN q).setCells g 0 (strs L.reverse)) := Go.below_setCells hb _ _ _ (below_drewN' (Below.refl _ _) q)
    refine ⟨rfl, ⟨by rw [strs_length, List.length_reverse, Nat.mul_one], fun _ => ⟨_, rfl, ?_, ?_⟩⟩, hB⟩
    · have := (Go.below_setCells (Nat.zero_le g) (strs L.reverse) 0 (W.drewN q) (below_drewN' (Below.refl 0 W) q)).size
      show g < _
      omega
    · intro j u hu
      have hj : j < (strs L.reverse).length := (List.getElem?_eq_some_iff.1 hu).1
      have hin := World.cell?_setCells_in g (strs L.reverse) 0 (W.drewN q) (fun k hk => by
        rw [strs_length, List.length_reverse] at hk
        show (W.cell? ⟨g, 0 + k, none⟩).isSome = true
        rw [hcell k hk]
        rfl) j hj
      rw [Go.WideShapes.add_plain, hin, ← hu, List.getElem?_eq_getElem hj]

set_option maxRecDepth 100000 in
set_option maxHeartbeats 1000000 in
theorem above_all (s : ByteArray) (w : World) (m : Int) (hm : w.cell? ⟨0, 0, none⟩ = some (.int .i64 m)) (hG : 0 < w.heap.size) :
    Calls Tryd.prog 16 #[.string s] w fun e w' => (∃ A c, e = .returned (.tuple #[.slice A (aboveOf s).length c, .int .i64 (partsE s)]) ∧ Reads w' w'.heap.size 1 A (aboveOf s).length (strs (aboveOf s))) ∧ Below w.heap.size w w' ∧ (aboveOf s).length ≤ 4097 := by
  have hcell : ∀ W, Below w.heap.size w W → W.cell? ⟨0, 0, none⟩ = some (.int .i64 m) := fun W hB => by
    rw [hB.cell (p := ⟨0, 0, none⟩) hG]
    exact hm
  rcases Bool.eq_false_or_eq_true (okB s) with g1 | g1
  · obtain ⟨x, y, z, zz⟩ := ok_parts ((okB_iff s).1 g1)
    have hP : aboveOf s = (aboveF s.size s).reverse := by unfold aboveOf; rw [if_pos g1]
    have hE : partsE s = 0 := by unfold partsE; rw [if_pos g1]
    have hbd : (aboveOf s).length ≤ 4097 := by
      have := aboveF_len s.size s
      rw [hP, List.length_reverse]
      omega
    rw [hE]
    have HP := Lib.hid hP
    have HG := Lib.hid g1
    have HC := Lib.hid hcell
    obtain ⟨i0, hi0, hz0, hz1, hz2⟩ := info_parts str_info
    clear g1 hP hE hcell
    go_enter Tryd.func16, Tryd.ntmps16
    go_wp2_with (go_at_call 28; refine (valid_ok s _ m hm hG).mono ?_; rintro e w1 ⟨rfl, hb1⟩; rw [HG.out])
    go_loopw [0, 4] (fun u v wr => ∃ (q : ByteArray) (fuel : Nat) (done : List ByteArray), u = .string q ∧ Hid (okB q = true) ∧ wr.ownsRow w.heap.size 9 1 v done.length (strs done) ∧ Below w.heap.size w wr ∧ Hid (done ++ aboveF fuel q = aboveF s.size s) ∧ q.size ≤ fuel ∧ fuel ≤ s.size ∧ done.length + fuel ≤ s.size) (fun u _ _ => strSize' u)
    case atStart => exact ⟨s, s.size, [], rfl, HG, World.ownsRow_nil _ _ _ _, hb1, rfl, by omega, by omega, by simp⟩
    case round =>
      obtain ⟨q, fuel, done, rfl, HQ, hown, hbw, HD, hq, hf, hdl⟩ := hrel
      rcases Bool.eq_false_or_eq_true (q.toList == [47]) with h2 | h2
      · have hd : aboveOf s = done.reverse := by
          rw [HP.out, ← HD.out]
          cases fuel with
          | zero => simp [aboveF]
          | succ f => rw [aboveF, if_pos h2, List.append_nil]
        have HR := Lib.hid hd
        clear hd HP HD
        obtain ⟨A, c, hv⟩ := slice_form hown
        rw [hv] at hown ⊢
        have HRV := Lib.hid (reverse_row hown (by omega))
        go_wp2_with (go_at_call 35; refine HRV.out.mono ?_; rintro e w5 ⟨rfl, hr5, hb5⟩)
        go_ret2
        exact ⟨⟨A, c, (by rw [HR.out, List.length_reverse]; rfl), (by rw [HR.out, List.length_reverse]; exact hr5)⟩, hbw.trans hb5, hbd⟩
      · have hok := ok_parent ((okB_iff q).1 HQ.out)
        have h2' := ok_one ((okB_iff q).1 HQ.out) h2
        have HQ2 : Hid (okB (parentS q) = true) := (okB_iff _).2 hok.1
        have hlt := hok.2 (by omega)
        obtain ⟨fuel, rfl⟩ : ∃ f', fuel = f' + 1 := ⟨fuel - 1, by omega⟩
        have HD2 : Hid ((done ++ [parentS q]) ++ aboveF fuel (parentS q) = aboveF s.size s) := by
          show _ = _
          rw [← HD.out, aboveF, if_neg (by rw [h2]; decide), List.append_assoc]
          rfl
        have HPC : Hid (∀ W, Below w.heap.size w W → Calls Tryd.prog 12 #[.string q] W fun e w' => e = .returned (.tuple #[.string (parentS q), .int .i64 0]) ∧ Below W.heap.size W w') := fun W hB => by
          have hpb : parB q = true := by unfold parB; rw [HQ.out, h2]; rfl
          have := parent_all q W m (HC.out W hB) (Nat.lt_of_lt_of_le hG hB.size)
          unfold parT parE at this
          rw [hpb] at this
          exact this
        obtain ⟨A, c, hv⟩ := slice_form hown
        rw [hv] at hown ⊢
        clear hok HD hv
        go_wp2_with (first
          | (go_at_call 12; refine (HPC.out _ hbw).mono ?_; rintro e w2 ⟨rfl, hb2⟩
             have hown2 := own_below hown hb2
             have hbw2 : Below w.heap.size w w2 := hbw.trans (hb2.mono hbw.size))
          | (at_builtin
             refine wpList_append_any _ rfl (.tmp 15) (.tmp 17) _ rfl w.heap.size 9 i0 _ 1 16 Tryd.underlying22 hi0 hz0 hz1 hz2 rfl (by decide) (.slice A done.length c) done.length (strs done) rfl (hown2.alloc _) (w2.heap.size + 1) (some ⟨w2.heap.size, 0, none⟩) 1 1 (strs [parentS q]) rfl (reads_new w2 9 [parentS q] 1 rfl) (strs_one _) (by simp only [maxLen]; omega) (by omega) (by have := hbw2.size; simp; omega) ?_
             intro v1 w3 hown3 hg3 hat3
             have hbw3 : Below w.heap.size w w3 := Below.grown (hbw2.alloc hbw2.size _) hg3 (by have := hbw2.size; simp; omega) (fun j hj => by have := (hown2.lt _ hj).1; omega)
             rw [← strs_append, show done.length + 1 = (done ++ [parentS q]).length by simp] at hown3
             clear hat3 hg3))
        go_roundw
        case rel => exact ⟨parentS q, fuel, done ++ [parentS q], rfl, HQ2, hown3, hbw3, HD2, by omega, by omega, by simp; omega⟩
        case measure => simpa [strSize'] using hlt
  · have hP : aboveOf s = [] := by unfold aboveOf; rw [g1]; rfl
    have hE : partsE s = 30 := by unfold partsE; rw [g1]; rfl
    rw [hP, hE]
    have HG := Lib.hid g1
    clear g1 hP hE
    go_enter Tryd.func16, Tryd.ntmps16
    go_wp2_with (go_at_call 28; refine (valid_ok s _ m hm hG).mono ?_; rintro e w1 ⟨rfl, hb1⟩; rw [HG.out])
    go_ret2
    exact ⟨⟨none, 0, rfl, Reads.none_⟩, hb1, by simp⟩
end Go.Proofs.YtkhnchahoidbaaaDoor
