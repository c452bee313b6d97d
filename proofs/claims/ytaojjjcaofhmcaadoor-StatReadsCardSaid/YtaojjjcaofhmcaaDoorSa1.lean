/- What must be so of any program that has this layer: the walk. (printed by gen_a1.py) -/
import Derived.Test.YtaojjjcaofhmcaaDoorSa0
import Derived.Test.YtaojjjcaofhmcaaDoorSt5
import Derived.Lib.SlBytesConst
set_option linter.unusedVariables false
set_option linter.unusedSimpArgs false
namespace Go.Proofs.YtaojjjcaofhmcaaDoor
open Go.RowKit

theorem reads_litf (w : World) (t : TypeId) (fr : Nat × Nat) (xs : List Value) : Reads (w.alloc (.cells xs.toArray t fr)) (w.heap.size + 1) 1 (some ⟨w.heap.size, 0, none⟩) xs.length xs :=
  ⟨by simp, fun _ => ⟨_, rfl, Nat.lt_succ_self _, fun j u hu => by
    have h := cell_of_row (w.alloc (.cells xs.toArray t fr)) w.heap.size j xs.toArray t fr (heap_alloc_new w _)
    rw [Go.WideShapes.add_plain, Nat.zero_add, h]
    simpa using hu⟩⟩
theorem own_cap {w : World} {base size n c : Nat} {e : TypeId} {A : Option Addr} {xs : List Value} (h : w.ownsRow base e size (.slice A n c) n xs) : n ≤ c := by
  rcases h.2 with ⟨h1, h2⟩ | ⟨g, cap, cur, h1, _, _, hc, _⟩
  · injection h1 with _ h3 h4
    omega
  · injection h1 with _ _ h3
    omega
theorem alive_next (w : World) : Calls Tryd.prog 29 #[.int .i32 0] w fun e w' => e = .returned (.int .i32 1) ∧ w = w' := by
  have h := next_any 0 (by omega) (by omega) w
  rwa [show nextOf 0 = 1 by kernel_rfl] at h
theorem alive_len : aliveB.length ≤ 4096 := by decide +kernel
theorem alive_enc {e : Ending} {w w' : World} (h : (rightE ⟨#[47, 97]⟩ 1 [] false 0 0 ≠ 0 ∧ e = .returned (.tuple #[.slice none 0 0, .int .i64 (rightE ⟨#[47, 97]⟩ 1 [] false 0 0)])) ∨
       (rightE ⟨#[47, 97]⟩ 1 [] false 0 0 = 0 ∧ ∃ A n c, e = .returned (.tuple #[.slice A n c, .int .i64 0]) ∧ w'.ownsRow w.heap.size 5 1 (.slice A n c) n (bcells (nodeB ⟨#[47, 97]⟩ [120] [] [0, 7, 7, 7, 0, 0, 1000, 1000] [0, 0, 0] false 0 0)))) :
    ∃ A n c, e = .returned (.tuple #[.slice A n c, .int .i64 0]) ∧ w'.ownsRow w.heap.size 5 1 (.slice A n c) n (bcells aliveB) := by
  rcases h with ⟨h, _⟩ | ⟨_, h⟩
  · exact absurd alive_right h
  · exact h
theorem alive_decd {e : Ending} {w w' : World} (h : match decN aliveB with
  | .inl E => E ≠ 0 ∧ e = .returned (.tuple #[.agg #[.string ⟨#[]⟩, .slice none 0 0, .slice none 0 0, .int .i64 0, .int .i64 0, .int .i64 0, .int .i64 0, .int .i64 0, .int .i64 0, .int .i64 0, .int .i64 0, .int .i32 0, .int .i32 0, .int .i32 0, .bool false, .int .i64 0, .int .i64 0], .int .i64 E])
  | .inr x => ∃ dA dc aA ac, e = .returned (.tuple #[.agg (nodeCs (.slice dA x.l.length dc) (.slice aA x.L.length ac) x), .int .i64 0]) ∧ x.xs.length = 8 ∧ x.ys.length = 3 ∧
    w'.ownsRow w.heap.size 5 1 (.slice dA x.l.length dc) x.l.length (bcells x.l) ∧ w'.ownsRow w.heap.size 57 3 (.slice aA x.L.length ac) x.L.length (aclCells x.L)) :
    ∃ D2 k2 A2 m2, e = .returned (.tuple #[.agg #[.string ⟨#[47, 97]⟩, .slice D2 1 k2, .slice A2 0 m2, .int .i64 0, .int .i64 7, .int .i64 7, .int .i64 7, .int .i64 0, .int .i64 0, .int .i64 1000, .int .i64 1000, .int .i32 0, .int .i32 0, .int .i32 0, .bool false, .int .i64 0, .int .i64 0], .int .i64 0]) := by
  rw [alive_dec] at h
  obtain ⟨dA, dc, aA, ac, h1, _⟩ := h
  unfold aliveN at h1
  dsimp only at h1
  rw [nodeCs_lit] at h1
  exact ⟨dA, dc, aA, ac, h1⟩
theorem alive_recd {e : Ending} (h : match decS (recB 0 0 0 0 0 0 0 0 0 0 1) with
  | .inl E => E ≠ 0 ∧ e = .returned (.tuple #[.agg #[.int .i64 0, .int .i64 0, .int .i64 0, .int .i64 0, .int .i32 0, .int .i32 0, .int .i32 0, .int .i64 0, .int .i32 0, .int .i32 0, .int .i64 0], .int .i64 E])
  | .inr x => e = .returned (.tuple #[.agg (statCs x), .int .i64 0]) ∧ x.xs.length = 4 ∧ x.ys.length = 3) : e = .returned (.tuple #[.agg #[.int .i64 0, .int .i64 0, .int .i64 0, .int .i64 0, .int .i32 0, .int .i32 0, .int .i32 0, .int .i64 0, .int .i32 0, .int .i32 0, .int .i64 1], .int .i64 0]) := by
  rw [alive_rec] at h
  obtain ⟨h1, _⟩ := h
  rw [statCs_lit] at h1
  exact h1
set_option maxRecDepth 100000 in
set_option maxHeartbeats 4000000 in
theorem alive_any (w : World) (hE : EnvS w) : Calls Tryd.prog 27 #[] w fun e w' => e = .returned (.bool true) ∧ Below w.heap.size w w' := by
  have HE := Lib.hid hE
  have hb0 : Below w.heap.size w (w.alloc (.cells #[.int .u8 120] 5 (1, 2))) := (Below.refl _ _).alloc (Nat.le_refl _) _
  have hr0 : Reads (w.alloc (.cells #[.int .u8 120] 5 (1, 2))) (w.heap.size + 1) 1 (some ⟨w.heap.size, 0, none⟩) 1 (bcells [120]) := reads_litf w 5 (1, 2) [.int .u8 120]
  have hnew := new_any ⟨#[47, 97]⟩ (some ⟨w.heap.size, 0, none⟩) 1 1 none 0 0 0 7 1000 (bcells [120]) (aclCells []) (w.heap.size + 1) (w.alloc (.cells #[.int .u8 120] 5 (1, 2))) hr0 Reads.none_ (bcells_one _) (aclCells_one _) (by simp) (by omega) (by omega) (fun h => by cases h) (fun _ => ⟨rfl, rfl⟩)
  have HB0 := Lib.hid hb0
  have HNEW := Lib.hid hnew
  have hE1 := Lib.hid (fun W (h : Below w.heap.size w W) => hE.below h)
  have kcv := fun (w : World) (C : Array Value) (n c : Nat) => Lib.run_convert_bytes_const (P := Tryd.prog) w 24 5 C n c Tryd.underlying24 Tryd.underlying5
  clear hb0 hr0 hnew hE
  go_enter Tryd.func27, Tryd.ntmps27
  go_wp2_with (first
    | (go_at_call 28
       refine HNEW.out.mono ?_
       rintro e w1 ⟨D1, k1, A1, m1, rfl, ho1, ho2, hb1⟩
       have HB1 : Hid (Below w.heap.size w w1) := HB0.out.trans (hb1.mono HB0.out.size)
       have HD1 := Lib.hid (Reads.of_own ho1)
       have HA1 := Lib.hid (Reads.of_own ho2)
       clear ho1 ho2 hb1)
    | (refine wpList_store_row rfl 32 (.tmp 1) (.tmp 10) rfl w1.heap.size #[.string ⟨#[47, 97]⟩, .slice D1 1 k1, .slice A1 0 m1, .int .i64 0, .int .i64 7, .int .i64 7, .int .i64 7, .int .i64 0, .int .i64 0, .int .i64 1000, .int .i64 1000, .int .i32 0, .int .i32 0, .int .i32 0, .bool false, .int .i64 0, .int .i64 0] rfl rfl 32 _ (Blk.new _ _ _) (by rw [node_size]; rfl) rfl (by simp [Value.oneCell']) ?_
       generalize hww : World.setRow _ _ _ = w2
       have hb2 : Below w1.heap.size w1 w2 := by rw [← hww]; exact below_setRow' (by go_grown) (Nat.le_refl _) _
       have HN2 : Hid (Blk w2 w1.heap.size 32 #[.string ⟨#[47, 97]⟩, .slice D1 1 k1, .slice A1 0 m1, .int .i64 0, .int .i64 7, .int .i64 7, .int .i64 7, .int .i64 0, .int .i64 0, .int .i64 1000, .int .i64 1000, .int .i32 0, .int .i32 0, .int .i32 0, .bool false, .int .i64 0, .int .i64 0]) := by unfold Hid; rw [← hww]; exact cells_setRow (Blk.new _ _ _)
       have HB2 := Lib.hid (HB1.out.trans (hb2.mono HB1.out.size))
       have henc := encode_any ⟨#[47, 97]⟩ 0 7 7 7 0 0 1000 1000 0 0 0 false 0 0 D1 1 k1 A1 0 m1 [120] [] w2.heap.size w2 (Nat.le_refl _) ((HD1.out.below hb2).more hb2.size) ((HA1.out.below hb2).more hb2.size) (by omega) (by omega) (fun a ha => by cases ha) (hE1.out _ HB2.out)
       have HENC := Lib.hid henc
       clear hb2 hww henc)
    | (refine wpList_load_row rfl 32 (.tmp 1) rfl w1.heap.size rfl 32 _ _ _ HN2.out Tryd.underlying32 rfl (by rw [node_size]; rfl) ?_)
    | (go_at_call 15
       refine HENC.out.mono ?_
       rintro e w3 ⟨hb3, h⟩
       obtain ⟨BA, bn, bc, rfl, ho⟩ := (alive_enc h)
       have HB3 := Lib.hid (HB2.out.trans (hb3.mono HB2.out.size))
       have HN3 := Lib.hid (HN2.out.below hb3 HN2.out.lt)
       have hbl : aliveB.length = bn := (by have := ho.1; rw [bcells_length] at this; omega)
       have hbs : aliveB.length ≤ 4096 := alive_len
       have hdec := decode_any bc bn BA aliveB w3 (Reads.of_own ho) (own_cap ho) (by omega) (fun h => (own_nil ho h).2) (hE1.out _ HB3.out)
       have HDEC := Lib.hid hdec
       clear hb3 h ho hdec hbl hbs)
    | (go_at_call 23
       refine HDEC.out.mono ?_
       rintro e w4 ⟨hb4, h⟩
       obtain ⟨D2, k2, A2, m2, rfl⟩ := (alive_decd h)
       have HB4 := Lib.hid (HB3.out.trans (hb4.mono HB3.out.size))
       have HN4 := Lib.hid (HN3.out.below hb4 HN3.out.lt)
       clear hb4 h)
    | (refine wpList_store_row rfl 32 (.tmp 4) (.tmp 19) rfl w4.heap.size #[.string ⟨#[47, 97]⟩, .slice D2 1 k2, .slice A2 0 m2, .int .i64 0, .int .i64 7, .int .i64 7, .int .i64 7, .int .i64 0, .int .i64 0, .int .i64 1000, .int .i64 1000, .int .i32 0, .int .i32 0, .int .i32 0, .bool false, .int .i64 0, .int .i64 0] rfl rfl 32 _ (Blk.new _ _ _) (by rw [node_size]; rfl) rfl (by simp [Value.oneCell']) ?_
       generalize hww : World.setRow _ _ _ = w5
       have hb5 : Below w4.heap.size w4 w5 := by rw [← hww]; exact below_setRow' (by go_grown) (Nat.le_refl _) _
       have HM5 : Hid (Blk w5 w4.heap.size 32 #[.string ⟨#[47, 97]⟩, .slice D2 1 k2, .slice A2 0 m2, .int .i64 0, .int .i64 7, .int .i64 7, .int .i64 7, .int .i64 0, .int .i64 0, .int .i64 1000, .int .i64 1000, .int .i32 0, .int .i32 0, .int .i32 0, .bool false, .int .i64 0, .int .i64 0]) := by unfold Hid; rw [← hww]; exact cells_setRow (Blk.new _ _ _)
       have HN5 := Lib.hid (HN4.out.below hb5 HN4.out.lt)
       have HB5 := Lib.hid (HB4.out.trans (hb5.mono HB4.out.size))
       clear hb5 hww)
    | (go_at_call 10
       refine (record_any 0 0 0 0 0 0 0 0 0 0 1 w5).mono ?_
       rintro e w6 ⟨RA, rc, rfl, ho, hb6⟩
       have HB6 := Lib.hid (HB5.out.trans (hb6.mono HB5.out.size))
       have HN6 := Lib.hid (HN5.out.below hb6 HN5.out.lt)
       have HM6 := Lib.hid (HM5.out.below hb6 HM5.out.lt)
       have hrr := readRecord_any rc 68 RA (recB 0 0 0 0 0 0 0 0 0 0 1) w6 (Reads.of_own ho) (own_cap ho) (by omega) (fun h => (own_nil ho h).2) (hE1.out _ HB6.out).u8
       have HRR := Lib.hid hrr
       clear hb6 ho hrr)
    | (go_at_call 25
       refine HRR.out.mono ?_
       rintro e w7 ⟨hb7, h⟩
       obtain rfl := (alive_recd h)
       have HB7 := Lib.hid (HB6.out.trans (hb7.mono HB6.out.size))
       have HN7 := Lib.hid (HN6.out.below hb7 HN6.out.lt)
       have HM7 := Lib.hid (HM6.out.below hb7 HM6.out.lt)
       clear hb7 h)
    | (refine wpList_store_row rfl 23 (.tmp 6) (.tmp 25) rfl w7.heap.size #[.int .i64 0, .int .i64 0, .int .i64 0, .int .i64 0, .int .i32 0, .int .i32 0, .int .i32 0, .int .i64 0, .int .i32 0, .int .i32 0, .int .i64 1] rfl rfl 23 _ (Blk.new _ _ _) (by rw [stat_sizeR]; rfl) rfl (by simp [Value.oneCell']) ?_
       generalize hww : World.setRow _ _ _ = w8
       have hb8 : Below w7.heap.size w7 w8 := by rw [← hww]; exact below_setRow' (by go_grown) (Nat.le_refl _) _
       have hs8 : Blk w8 w7.heap.size 23 #[.int .i64 0, .int .i64 0, .int .i64 0, .int .i64 0, .int .i32 0, .int .i32 0, .int .i32 0, .int .i64 0, .int .i32 0, .int .i32 0, .int .i64 1] := by rw [← hww]; exact cells_setRow (Blk.new _ _ _)
       have HB8 := Lib.hid (HB7.out.trans (hb8.mono HB7.out.size))
       have hc1 := (HN7.out.below hb8 HN7.out.lt).cell
       have hc2 := (HM7.out.below hb8 HM7.out.lt).cell
       have hc3 := hs8.cell
       clear hb8 hs8 hww)
    | (go_at_call 29
       refine (alive_next _).mono ?_
       rintro e w9 ⟨rfl, rfl⟩))
  go_ret
  exact ⟨rfl, HB8.out⟩
end Go.Proofs.YtaojjjcaofhmcaaDoor
