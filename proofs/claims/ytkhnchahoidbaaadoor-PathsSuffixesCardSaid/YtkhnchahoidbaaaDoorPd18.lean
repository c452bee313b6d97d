/- The law PathsSuffixes: the walk. -/
import Derived.Test.YtkhnchahoidbaaaDoorPd17
namespace Go.Proofs.YtkhnchahoidbaaaDoor
open Go.RowKit

set_option maxRecDepth 100000 in
set_option maxHeartbeats 1000000 in
theorem suffixes_law (p : ByteArray) (hp : p.size ≤ 140737488355327) (n : Int) (h0 : -2147483648 ≤ n) (h1 : n ≤ 2147483647) (w : World) (htab : Lib.TabBelow Tryd.prog w.heap.size w "internal/strconv.uint64pow10" .u64 Lib.pow10Tab)
    (m : Int) (hm : w.cell? ⟨0, 0, none⟩ = some (.int .i64 m)) (hG : 0 < w.heap.size) :
    Calls Tryd.prog 4 #[.string p, .int .i32 n] w fun e w' => e = .returned (.bool true) ∧ Below w.heap.size w w' := by
  have hcell : ∀ W, Below w.heap.size w W → W.cell? ⟨0, 0, none⟩ = some (.int .i64 m) := fun W hB => by
    rw [hB.cell (p := ⟨0, 0, none⟩) hG]
    exact hm
  have htb : ∀ W, Below w.heap.size w W → Lib.TabBelow Tryd.prog W.heap.size W "internal/strconv.uint64pow10" .u64 Lib.pow10Tab := fun W hB w' h' => htab w' (hB.trans (h'.mono hB.size))
  have H1 : Hid (∀ W, Below w.heap.size w W → Calls Tryd.prog 19 #[.string p, .int .i32 n] W fun e w' => e = .returned (.tuple #[.string (seqT p n), .int .i64 (seqE p n)]) ∧ Below w.heap.size w w') :=
    fun W hB => (seq_any p hp n h0 h1 W (htb W hB) m (hcell W hB) (Nat.lt_of_lt_of_le hG hB.size)).mono fun _ _ ⟨he, hb⟩ => ⟨he, hB.trans (hb.mono hB.size)⟩
  have H2 : Hid (∀ W, Below w.heap.size w W → Calls Tryd.prog 20 #[.string p, .int .i32 n] W fun e w' => e = .returned (.tuple #[.string (seqT p n), .int .i64 (seqE p n)]) ∧ Below w.heap.size w w') :=
    fun W hB => (rseq_any p hp n h0 h1 W (htb W hB)).mono fun _ _ ⟨he, hb⟩ => ⟨he, hB.trans (hb.mono hB.size)⟩
  have H3 : Hid (∀ W, Below w.heap.size w W → Calls Tryd.prog 21 #[.int .i32 n] W fun e w' => e = .returned (.string (sufB n)) ∧ Below w.heap.size w w') :=
    fun W hB => (suffix_any n h0 h1 W (htb W hB)).mono fun _ _ ⟨he, hb⟩ => ⟨he, hB.trans (hb.mono hB.size)⟩
  have H4 : Hid (∀ W, Below w.heap.size w W → Calls Tryd.prog 22 #[.int .i32 n] W fun e w' => e = .returned (.string (sufB n)) ∧ Below w.heap.size w w') :=
    fun W hB => (rsuffix_any n h0 h1 W (htb W hB)).mono fun _ _ ⟨he, hb⟩ => ⟨he, hB.trans (hb.mono hB.size)⟩
  have HB0 := Lib.hid (Below.refl w.heap.size w)
  clear hcell hm htb htab
  generalize seqT p n = st at H1 H2
  generalize seqE p n = se at H1 H2
  generalize sufB n = sf at H3 H4
  go_enter Tryd.func4, Tryd.ntmps4
  go_wp2_with (first
    | (go_at_call 19; refine (H1.out _ HB0.out).mono ?_; rintro e w1 ⟨rfl, hb1⟩)
    | (go_at_call 20; refine (H2.out _ hb1).mono ?_; rintro e w2 ⟨rfl, hb2⟩)
    | (go_at_call 21; refine (H3.out _ (by first | exact hb2 | exact below_drewN' hb2 _)).mono ?_; rintro e w3 ⟨rfl, hb3⟩)
    | (go_at_call 22; refine (H4.out _ hb3).mono ?_; rintro e w4 ⟨rfl, hb4⟩))
  go_ret
  exact ⟨rfl, hb4⟩

theorem pathsSuffixes_walk {H : Type} (p : ByteArray) (_ : p.size ≤ maxLen) (n : Int) (wn : (Lit.int .i32 n).wf = true) (W : World) (hsz : (DataW.weightsEach Tryd.prog ([9, 21] : List TypeId) ([DataW.lit (.string p.data.toList), DataW.lit (.int .i32 n)] : List (DataW H))).all (· ≤ reachBytes) = true) (hsh : W.ShapedOpen Tryd.prog)
    (hlaid : laidMetH Tryd.prog Rows.pathsSuffixesRow.laid W) :
    Calls Tryd.prog 4 #[.string p, .int .i32 n] W fun e w' => e = .returned (.bool true) ∧ Below W.heap.size W w' := by
  have h := sized_string (j := 0) hsz rfl rfl
  rw [← Lib.size_eq] at h
  unfold reachBytes at h
  have hn := bounds_i32 wn
  obtain ⟨m, hm⟩ := Tryd.laysM145.s1_3 W hsh
  have hl := hlaid.filter (fun x => x.1 == "internal/strconv.uint64pow10")
  have ht : Lib.TabIs Tryd.prog W "internal/strconv.uint64pow10" .u64 Lib.pow10Tab :=
    Lib.tabIs_of_head (rest := []) (g := 1) (by kernel_rfl) (by kernel_rfl) Tryd.underlying104 Tryd.underlying82 (by kernel_rfl) (by kernel_rfl) hl
  exact suffixes_law p (by omega) n hn.1 hn.2 W (Lib.tabBelow_of_tabIs ht) m hm (cell_lt hm)
end Go.Proofs.YtkhnchahoidbaaaDoor
