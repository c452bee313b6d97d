/- The law PathsChain: the walk. -/
import Derived.Test.YtkhnchahoidbaaaDoorPd26
import Derived.Test.YtkhnchahoidbaaaDoorStill
namespace Go.Proofs.YtkhnchahoidbaaaDoor
open Go.RowKit

set_option maxRecDepth 100000 in
set_option maxHeartbeats 2000000 in
theorem chain_law (p : ByteArray) {w : World} (hE : Env w) :
    Calls Tryd.prog 8 #[.string p] w fun e w' => e = .returned (.bool true) ∧ Below w.heap.size w w' := by
  have hm : ∀ W, Below w.heap.size w W → ∃ m, W.cell? ⟨0, 0, none⟩ = some (.int .i64 m) := fun W hB => (hE.on hB).c0
  have hG : ∀ W, Below w.heap.size w W → 0 < W.heap.size := fun W hB => by have := (hE.on hB).hG; omega
  have HA := Lib.hid (alive_any hE)
  have HL : Hid (∀ W, Below w.heap.size w W → Calls Tryd.prog 16 #[.string p] W fun e w' => (∃ A c, e = .returned (.tuple #[.slice A (aboveOf p).length c, .int .i64 (partsE p)]) ∧ Reads w' w'.heap.size 1 A (aboveOf p).length (strs (aboveOf p))) ∧ Below W.heap.size W w' ∧ (aboveOf p).length ≤ 4097) := fun W hB => by
    obtain ⟨m, h⟩ := hm W hB
    exact above_all p W m h (hG W hB)
  have HP : Hid (∀ W, Below w.heap.size w W → Calls Tryd.prog 10 #[.string p] W fun e w' => (∃ A c, e = .returned (.tuple #[.slice A (partsOf p).length c, .int .i64 (partsE p)]) ∧ Reads w' w'.heap.size 1 A (partsOf p).length (strs (partsOf p))) ∧ Below W.heap.size W w' ∧ (partsOf p).length ≤ 4097) := fun W hB => by
    obtain ⟨m, h⟩ := hm W hB
    exact parts_all p W m h (hG W hB)
  have HV : Hid (∀ W, Below w.heap.size w W → Calls Tryd.prog 28 #[.string p] W fun e w' => e = .returned (.bool (okB p)) ∧ Below w.heap.size w w') := fun W hB => e_valid hE hB p
  rcases Bool.eq_false_or_eq_true (okB p) with g1 | g1
  · have hok := (okB_iff p).1 g1
    obtain ⟨x, hp4, _, _⟩ := ok_parts hok
    obtain ⟨cl, c0, cu, cc⟩ := chain_all p.size p hok (by omega)
    have hch : chainF p.size p = aboveOf p ++ [p] := by unfold chainF aboveOf; rw [if_pos g1]
    rw [hch] at cl c0 cu cc
    have e3 : partsE p = 0 := by unfold partsE; rw [if_pos g1]
    have hlen : (aboveOf p).length = (partsOf p).length := by
      rw [List.length_append] at cl
      simp only [List.length_cons, List.length_nil] at cl
      omega
    rw [e3] at HL HP
    rw [hlen] at HL
    rw [g1] at HV
    have CU := Lib.hid cu
    have CC := Lib.hid cc
    have C0 := Lib.hid c0
    have HPar : Hid (∀ q W, Below w.heap.size w W → Calls Tryd.prog 12 #[.string q] W fun e w' => e = .returned (.tuple #[.string (parT q), .int .i64 (parE q)]) ∧ Below W.heap.size W w') := fun q W hB => by
      obtain ⟨m, h⟩ := hm W hB
      exact parent_all q W m h (hG W hB)
    have HNam : Hid (∀ q W, Below w.heap.size w W → Calls Tryd.prog 14 #[.string q] W fun e w' => e = .returned (.tuple #[.string (nameT q), .int .i64 (nameE q)]) ∧ Below W.heap.size W w') := fun q W hB => by
      obtain ⟨m, h⟩ := hm W hB
      exact name_all q W m h (hG W hB)
    have HUnd : Hid (∀ q W, q.size ≤ 140737488355328 → Below w.heap.size w W → Calls Tryd.prog 27 #[.string q, .string p] W fun e w' => e = .returned (.bool (underB q p)) ∧ Below W.heap.size W w') := fun q W hq hB => by
      obtain ⟨m, h⟩ := hm W hB
      exact under_any q p hq W m h (hG W hB)
    obtain ⟨i0, hi0, hz0, hz1, hz2⟩ := info_parts str_info
    have hAL : (aboveOf p).length = (partsOf p).length := hlen
    generalize partsOf p = PL at *
    generalize aboveOf p = AL at *
    clear hm hG hE e3 g1 cl cu cc hch hlen c0
    go_enter Tryd.func8, Tryd.ntmps8
    go_wp2_with (first
      | (go_at_call 25; refine HA.out.mono ?_; rintro e w1 ⟨rfl, hb1⟩)
      | (go_at_call 16; refine (HL.out _ hb1).mono ?_; rintro e w2 ⟨⟨A2, c2, rfl, r2⟩, hb2, hn2⟩; have hB2 : Below w.heap.size w w2 := hb1.trans (hb2.mono hb1.size))
      | (go_at_call 10; refine (HP.out _ hB2).mono ?_; rintro e w3 ⟨⟨A3, c3, rfl, r3⟩, hb3, hn3⟩
         have hB3 : Below w.heap.size w w3 := hB2.trans (hb3.mono hB2.size)
         have r2' := (r2.below hb3).more hb3.size)
      | (at_builtin
         refine wpList_append_any _ rfl (.tmp 49) (.tmp 50) _ rfl w.heap.size 9 i0 _ 1 16 Tryd.underlying22 hi0 hz0 hz1 hz2 rfl (by decide) (.slice (some ⟨w3.heap.size, 0, none⟩) 0 0) 0 [] rfl (owns_empty (Blk.new _ _ _) hB3.size) w3.heap.size A2 PL.length c2 (strs AL) rfl (r2'.alloc (Nat.le_refl _) _) (strs_one _) (by simp only [maxLen]; omega) (by omega) (by have := hB3.size; simp; omega) ?_
         intro v1 w4 hown4 hg4 hat4
         have hB4 : Below w3.heap.size w3 w4 := Below.grown ((Below.refl _ _).alloc (Nat.le_refl _) _) hg4 (by simp) (fun j hj => by simp [Value.ownBlock] at hj; omega)
         have hat4' : ∀ g, v1.ownBlock = some g → w3.heap.size ≤ g := fun g hg => by
           rcases hat4 with h | h
           · rw [h] at hg
             simp [Value.ownBlock] at hg
             omega
           · rw [h] at hg
             injection hg with hg
             simp at hg
             omega
         obtain ⟨A4, c4, hv4⟩ := slice_form hown4
         rw [hv4] at hown4 hat4' ⊢
         simp only [Nat.zero_add, List.nil_append] at hown4 hat4' ⊢
         clear hat4 hg4 hv4)
      | (at_builtin
         refine wpList_append_any _ rfl (.tmp 51) (.tmp 53) _ rfl w.heap.size 9 i0 _ 1 16 Tryd.underlying22 hi0 hz0 hz1 hz2 rfl (by decide) _ _ _ rfl (hown4.alloc _) (w4.heap.size + 1) (some ⟨w4.heap.size, 0, none⟩) 1 1 (strs [p]) rfl (reads_new w4 9 [p] 1 rfl) (strs_one _) (by simp only [maxLen]; omega) (by omega) (by have := hB3.size; have := hB4.size; simp; omega) ?_
         intro v2 w5 hown5 hg5 hat5
         have hB5 : Below w3.heap.size w3 w5 := Below.grown (hB4.alloc hB4.size _) hg5 (by have := hB4.size; simp; omega) (fun j hj => by
           exact hat4' j hj)
         obtain ⟨A5, c5, hv5⟩ := slice_form hown5
         rw [hv5] at hown5 ⊢
         rw [← strs_append] at hown5
         clear hat5 hg5 hv5))
    have hs5 := hB5.size
    have hB5w : Below w.heap.size w w5 := hB3.trans (hB5.mono hB3.size)
    have RA := Lib.hid (Reads.of_own hown5)
    have RP := Lib.hid ((r3.below hB5).more hB5.size)
    have HB5 := Lib.hid hB5w
    clear hown4 hown5 hB4 hB5 hB5w hat4' r2 r2' r3 hb1 hb2 hb3 hB2 hB3 HA HL HP hs5
    go_loopw [8] (fun v wr => ∃ k : Nat, v = .int .i64 ((k : Int) + 1) ∧ k ≤ PL.length ∧ Below w5.heap.size w5 wr) (fun v _ => PL.length + 1 - (intOf v).toNat)
    case atStart => exact ⟨0, rfl, by omega, Below.refl _ _⟩
    case round =>
      obtain ⟨k, rfl, hk, hbw⟩ := hrel
      by_cases hlt : k < PL.length
      · obtain ⟨b, off, y, rfl, hblt, hy, cy⟩ := reads_str RA.out (k + 1) (by omega)
        obtain ⟨_, _, x', hA', _, hx', cx⟩ := reads_str RA.out k (by omega)
        injection hA' with hA'
        injection hA' with h1 h2 _
        subst h1 h2
        obtain ⟨b', off', nm', rfl, hblt', hn', cn⟩ := reads_str RP.out k hlt
        obtain ⟨y1, y2, y3, y4⟩ := CC.out k x' y nm' hx' hy hn'
        have hux := CU.out x' (List.mem_of_getElem? hx')
        have hxs : x'.size ≤ 140737488355328 := by
          have := (ok_parts ((okB_iff x').1 (under_prefix hux).1)).2.1
          omega
        have hpt : parT y = x' ∧ parE y = 0 := by unfold parT parE; rw [y2, if_pos rfl, if_pos rfl]; exact ⟨y3, rfl⟩
        have hnt : nameT y = nm' ∧ nameE y = 0 := by unfold nameT nameE; rw [y1, if_pos rfl, if_pos rfl]; exact ⟨y4, rfl⟩
        have hca : ∀ W, Below w5.heap.size w5 W → W.cell? ⟨b, off + (k + 1), none⟩ = some (.string y) ∧ W.cell? ⟨b, off + k, none⟩ = some (.string x') ∧ W.cell? ⟨b', off' + k, none⟩ = some (.string nm') := fun W hB =>
          ⟨by rw [hB.cell (p := ⟨b, off + (k + 1), none⟩) hblt]; exact cy, by rw [hB.cell (p := ⟨b, off + k, none⟩) hblt]; exact cx, by rw [hB.cell (p := ⟨b', off' + k, none⟩) hblt']; exact cn⟩
        have HCA := Lib.hid hca
        obtain ⟨d1, d2, d3⟩ := hca wr hbw
        have hP1 := Lib.hid (HPar.out y wr (HB5.out.trans (hbw.mono HB5.out.size)))
        rw [hpt.1, hpt.2] at hP1
        clear hca cy cx cn CU CC RA RP
        have hPn : Hid (∀ W, Below w.heap.size w W → Calls Tryd.prog 14 #[.string y] W fun e w' => e = .returned (.tuple #[.string nm', .int .i64 0]) ∧ Below W.heap.size W w') := fun W hB => by
          have := HNam.out y W hB
          rw [hnt.1, hnt.2] at this
          exact this
        have hPu : Hid (∀ W, Below w.heap.size w W → Calls Tryd.prog 27 #[.string x', .string p] W fun e w' => e = .returned (.bool true) ∧ Below W.heap.size W w') := fun W hB => by
          have := HUnd.out x' W hxs hB
          rw [hux] at this
          exact this
        go_wp2_with (first
          | (go_at_call 12; refine hP1.out.mono ?_; rintro e w6 ⟨rfl, hb6⟩
             have hbw6 := hbw.trans (hb6.mono hbw.size)
             obtain ⟨f1, f2, f3⟩ := HCA.out w6 hbw6)
          | (go_at_call 14; refine (hPn.out w6 (HB5.out.trans (hbw6.mono HB5.out.size))).mono ?_; rintro e w7 ⟨rfl, hb7⟩
             have hbw7 := hbw6.trans (hb7.mono hbw6.size)
             obtain ⟨h1, h2, h3⟩ := HCA.out w7 hbw7)
          | (go_at_call 27; refine (hPu.out w7 (HB5.out.trans (hbw7.mono HB5.out.size))).mono ?_; rintro e w8 ⟨rfl, hb8⟩
             have hbw8 := hbw7.trans (hb8.mono hbw7.size)))
        refine ⟨⟨k + 1, rfl, by omega, hbw8⟩, ?_⟩
        simp [intOf]
        omega
      · have hkk : k = PL.length := by omega
        clear hlt hk
        obtain ⟨b, off, y, rfl, hblt, hy, cy⟩ := reads_str RA.out 0 (by omega)
        have hy1 : y = ⟨#[47]⟩ := by
          have h := C0.out
          rw [hy] at h
          injection h
        have hd : wr.cell? ⟨b, off + 0, none⟩ = some (.string ⟨#[47]⟩) := by
          rw [hbw.cell (p := ⟨b, off + 0, none⟩) hblt, cy, hy1]
        simp only [Nat.add_zero] at hd
        have HV1 := Lib.hid (HV.out wr (HB5.out.trans (hbw.mono HB5.out.size)))
        clear hy hy1 cy C0 HV HPar HNam HUnd CU CC RA RP HB5 hbw hblt
        go_wp2_with (first
          | (go_at_call 28; refine HV1.out.mono ?_; rintro e w6 ⟨rfl, hb6⟩))
        all_goals go_ret
        exact ⟨rfl, hb6⟩
  · have e1 : aboveOf p = [] := by unfold aboveOf; rw [g1]; rfl
    have e2 : partsOf p = [] := by unfold partsOf; rw [g1]; rfl
    have e3 : partsE p = 30 := by unfold partsE; rw [g1]; rfl
    rw [e1, e3] at HL
    rw [e2, e3] at HP
    rw [g1] at HV
    clear hm hG hE e1 e2 e3 g1
    go_enter Tryd.func8, Tryd.ntmps8
    go_wp2_with (first
      | (go_at_call 25; refine HA.out.mono ?_; rintro e w1 ⟨rfl, hb1⟩)
      | (go_at_call 16; refine (HL.out _ hb1).mono ?_; rintro e w2 ⟨⟨A2, c2, rfl, r2⟩, hb2, hn2⟩; have hB2 : Below w.heap.size w w2 := hb1.trans (hb2.mono hb1.size))
      | (go_at_call 10; refine (HP.out _ hB2).mono ?_; rintro e w3 ⟨⟨A3, c3, rfl, r3⟩, hb3, hn3⟩; have hB3 : Below w.heap.size w w3 := hB2.trans (hb3.mono hB2.size))
      | (go_at_call 28; refine (HV.out _ hB3).mono ?_; rintro e w4 ⟨rfl, hb4⟩))
    go_ret
    exact ⟨rfl, hb4⟩

theorem pathsChain_walk {H : Type} (p : ByteArray) (_ : p.size ≤ maxLen) (W : World) (_ : (DataW.weightsEach Tryd.prog ([9] : List TypeId) ([DataW.lit (.string p.data.toList)] : List (DataW H))).all (· ≤ reachBytes) = true) (hsh : W.ShapedOpen Tryd.prog)
    (hlaid : laidMetH Tryd.prog Rows.pathsChainRow.laid W) :
    Calls Tryd.prog 8 #[.string p] W fun e w' => e = .returned (.bool true) ∧ Below W.heap.size W w' :=
  chain_law p (env_of hlaid hsh rfl rfl rfl)
end Go.Proofs.YtkhnchahoidbaaaDoor
