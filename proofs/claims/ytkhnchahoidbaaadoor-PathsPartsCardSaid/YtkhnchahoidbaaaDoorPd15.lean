/- The law PathsParts: the walk. -/
import Derived.Test.YtkhnchahoidbaaaDoorPd14
import Derived.Test.YtkhnchahoidbaaaDoorOpen
import Derived.SizedLaws
namespace Go.Proofs.YtkhnchahoidbaaaDoor
open Go.RowKit

set_option maxRecDepth 100000 in
set_option maxHeartbeats 2000000 in
theorem parts_law (s : ByteArray) (w : World) (m : Int) (hm : w.cell? ⟨0, 0, none⟩ = some (.int .i64 m)) (hG : 0 < w.heap.size) :
    Calls Tryd.prog 3 #[.string s] w fun e w' => e = .returned (.bool true) ∧ Below w.heap.size w w' := by
  have hcell : ∀ W, Below w.heap.size w W → W.cell? ⟨0, 0, none⟩ = some (.int .i64 m) := fun W hB => by
    rw [hB.cell (p := ⟨0, 0, none⟩) hG]
    exact hm
  have H1 := Lib.hid (fun W (hB : Below w.heap.size w W) => parts_all s W m (hcell W hB) (Nat.lt_of_lt_of_le hG hB.size))
  have H2 := Lib.hid (fun W => rparts_all s W)
  have H3 := Lib.hid (fun W (hB : Below w.heap.size w W) => parent_all s W m (hcell W hB) (Nat.lt_of_lt_of_le hG hB.size))
  have H4 := Lib.hid (fun W => rparent_all s W)
  have H5 := Lib.hid (fun W (hB : Below w.heap.size w W) => name_all s W m (hcell W hB) (Nat.lt_of_lt_of_le hG hB.size))
  have H6 := Lib.hid (fun W => rname_all s W)
  have H7 := Lib.hid (fun W (hB : Below w.heap.size w W) => above_all s W m (hcell W hB) (Nat.lt_of_lt_of_le hG hB.size))
  have H8 := Lib.hid (fun W => rabove_all s W)
  have HB0 := Lib.hid (Below.refl w.heap.size w)
  clear hcell hm
  generalize partsOf s = PL at H1 H2
  generalize partsE s = pe at H1 H2 H7 H8
  generalize parT s = pt at H3 H4
  generalize parE s = pr at H3 H4
  generalize nameT s = nt at H5 H6
  generalize nameE s = ne at H5 H6
  generalize aboveOf s = AL at H7 H8
  go_enter Tryd.func3, Tryd.ntmps3
  go_wp2_with (first
    | (go_at_call 10; refine (H1.out _ HB0.out).mono ?_; rintro e w1 ⟨⟨A1, c1, rfl, r1⟩, hb1, hn1⟩)
    | (go_at_call 11; refine (H2.out _).mono ?_; rintro e w2 ⟨⟨A2, c2, rfl, r2⟩, hb2⟩
       replace r1 := (r1.below hb2).more hb2.size
       have hB2 := Lib.hid (hb1.trans (hb2.mono hb1.size))
       clear hb1 hb2)
    | (go_at_call 12; refine (H3.out _ hB2.out).mono ?_; rintro e w3 ⟨rfl, hb3⟩
       replace r1 := (r1.below hb3).more hb3.size
       replace r2 := (r2.below hb3).more hb3.size
       have hB3 := Lib.hid (hB2.out.trans (hb3.mono hB2.out.size))
       clear hb3 hB2)
    | (go_at_call 13; refine (H4.out _).mono ?_; rintro e w4 ⟨rfl, n4, rfl⟩)
    | (go_at_call 14; refine (H5.out _ (below_drewN' hB3.out n4)).mono ?_; rintro e w5 ⟨rfl, hb5⟩
       replace r1 := ((r1.drewN n4).below hb5).more hb5.size
       replace r2 := ((r2.drewN n4).below hb5).more hb5.size
       have hB5 := Lib.hid ((below_drewN' hB3.out n4).trans (hb5.mono hB3.out.size))
       clear hb5 hB3)
    | (go_at_call 15; refine (H6.out _).mono ?_; rintro e w6 ⟨rfl, n6, rfl⟩)
    | (go_at_call 16; refine (H7.out _ (below_drewN' hB5.out n6)).mono ?_; rintro e w7 ⟨⟨A3, c3, rfl, r3⟩, hb7, hn2⟩
       replace r1 := ((r1.drewN n6).below hb7).more hb7.size
       replace r2 := ((r2.drewN n6).below hb7).more hb7.size
       have hB7 := Lib.hid ((below_drewN' hB5.out n6).trans (hb7.mono hB5.out.size))
       clear hb7 hB5)
    | (go_at_call 17; refine (H8.out _).mono ?_; rintro e w8 ⟨⟨A4, c4, rfl, r4⟩, hb8⟩
       have R1 := Lib.hid ((r1.below hb8).more hb8.size)
       have R2 := Lib.hid ((r2.below hb8).more hb8.size)
       have R3 := Lib.hid ((r3.below hb8).more hb8.size)
       have R4 := Lib.hid r4
       have hB8 := Lib.hid (hB7.out.trans (hb8.mono hB7.out.size))
       clear hb8 hB7 r1 r2 r3 r4)
    | (go_at_call 18; have F0 := F9; refine (words_true A3 A4 AL.length c3 c4 _ _ AL _ (R3.out.drewN n9) (R4.out.drewN n9) (by omega)).mono ?_; rintro e w10 ⟨rfl, n10, rfl⟩)
    | (go_at_call 18; refine (words_true A1 A2 PL.length c1 c2 _ _ PL _ R1.out R2.out (by omega)).mono ?_; rintro e w9 ⟨rfl, n9, rfl⟩; have F9 := trivial))
  go_ret
  exact ⟨rfl, by first | exact below_drewN' hB8.out (n9 + n10) | exact below_drewN' (below_drewN' hB8.out n9) n10⟩

theorem pathsParts_walk {H : Type} (s : ByteArray) (_ : s.size ≤ maxLen) (W : World) (_ : (DataW.weightsEach Tryd.prog ([9] : List TypeId) ([DataW.lit (.string s.data.toList)] : List (DataW H))).all (· ≤ reachBytes) = true) (hsh : W.ShapedOpen Tryd.prog) :
    Calls Tryd.prog 3 #[.string s] W fun e w' => e = .returned (.bool true) ∧ Below W.heap.size W w' := by
  obtain ⟨m, hm⟩ := Tryd.laysM145.s1_3 W hsh
  exact parts_law s W m hm (cell_lt hm)
end Go.Proofs.YtkhnchahoidbaaaDoor
