/- The law ZxidIssues: the walk: a loop over a script; the issuer's cell holds what the reference tells. -/
import Derived.Test.YtgbifmcdkigbgaaZx4
import Derived.Lib.Hide
namespace Go.Proofs.Ytgbifmcdkigbgaa
open Go.RowKit Go.WideShapes Go.ChangeShapes Go.Deep

theorem zN_ok (z : Int) (h0 : 0 ≤ z) (h1 : z ≤ 9223372036854775807) (h : (zN2 z == 0) = true) : z < zN1 z ∧ zN1 z ≤ 9223372036854775807 := by
  unfold zN2 at h
  unfold zN1
  by_cases hc : z < 0 ∨ z % 4294967296 = 4294967295
  · rw [if_pos hc] at h; simp at h
  · rw [if_neg hc]; omega
theorem zU_ok (z x : Int) (h0 : 0 ≤ z) (h : (zU2 z x == 0) = true) : z < zU1 z x := by
  by_cases hx : x < 0
  · rw [(zU_neg z x hx).2] at h; simp at h
  have key : ∀ e : Int, zE z ≤ e → (zM2 (e + 1) 0 == 0) = true → z < zM1 (e + 1) 0 := by
    intro e he hm
    unfold zM2 at hm
    unfold zM1
    by_cases hc : 0 ≤ e + 1 ∧ e + 1 ≤ 2147483647 ∧ (0 : Int) ≤ 0 ∧ (0 : Int) ≤ 4294967295
    · rw [if_pos hc]
      have e1 : zE z = z / 4294967296 := by unfold zE; rw [if_neg (by omega)]
      omega
    · rw [if_neg hc] at hm; simp at hm
  by_cases hl : zE z < zE x
  · obtain ⟨e1, e2⟩ := zU_lt z x (by omega) hl
    rw [e1]; rw [e2] at h
    exact key _ (by omega) h
  · obtain ⟨e1, e2⟩ := zU_ge z x (by omega) hl
    rw [e1]; rw [e2] at h
    exact key _ (by omega) h

set_option maxRecDepth 100000 in
set_option maxHeartbeats 1000000 in
theorem issues_neg (last : Int) (s : Value) (h : last < 0) (w : World) :
    Calls Try.prog 6 #[.int .i64 last, s] w fun r w' => r = .returned (.bool true) ∧ Below w.heap.size w w' := by
  go_enter Try.func6, Try.ntmps6
  go_wp2_with (first
    | (go_at_call 18; refine (new_no _ (by assumption) _).mono ?_; rintro e w' ⟨rfl, rfl⟩)
    | (go_at_call 7; refine (live_any _).mono ?_; rintro e w' ⟨rfl, hg⟩)
    | go_in)
  go_ret
  exact ⟨rfl, by assumption⟩

set_option maxRecDepth 100000 in
set_option maxHeartbeats 4000000 in
theorem issues_pos (last : Int) (h : 0 ≤ last) (hm : last ≤ 9223372036854775807) (a : Option Addr) (len cap : Nat) (hlen : len ≤ 9223372036854775807) (K Z : Nat → Int) (hZ : ∀ i, Z i ≤ 9223372036854775807) (w : World)
    (hcell : ∀ i, i < len → ∃ b off, a = some ⟨b, off, none⟩ ∧ b < w.heap.size ∧ w.cell? ⟨b, off + i * 2, none⟩ = some (.int .i64 (K i)) ∧ w.cell? ⟨b, off + i * 2 + 1, none⟩ = some (.int .i64 (Z i))) :
    Calls Try.prog 6 #[.int .i64 last, .slice a len cap] w fun r w' => r = .returned (.bool true) ∧ Below w.heap.size w w' := by
  have Hcell := Lib.hid hcell
  have HZ := Lib.hid hZ
  have H0 := Lib.hid h
  have Hm := Lib.hid hm
  clear hcell hZ
  go_enter Try.func6, Try.ntmps6
  go_wp2_with (first
    | (go_at_call 18; refine (new_ok _ (by assumption) _).mono ?_; rintro e w' ⟨rfl, rfl⟩)
    | (go_at_call 7; refine (live_any _).mono ?_; rintro e w1 ⟨rfl, hb1⟩)
    | go_in)
  have hc1 : w1.cell? ⟨w.heap.size, 0, none⟩ = some (.int .i64 last) := by rw [hb1.cell (by simp)]; simp [go_sem]
  have hf1 : w1.frozen? ⟨w.heap.size, 0, none⟩ = false := by rw [hb1.frozen (by simp)]; simp [go_sem]
  have hB1 : Below w.heap.size w w1 := ((Below.refl _ _).alloc (Nat.le_refl _) _).trans (hb1.mono (by simp))
  clear hb1
  go_loopw [7, 8] (fun at' k' wr => ∃ (z : Int) (k : Nat), 0 ≤ z ∧ z ≤ 9223372036854775807 ∧ k ≤ len ∧ at' = .int .i64 z ∧ k' = .int .i64 k ∧ wr.cell? ⟨w.heap.size, 0, none⟩ = some (.int .i64 z) ∧ wr.frozen? ⟨w.heap.size, 0, none⟩ = false ∧ Below w.heap.size w wr) (fun _ k' _ => len - (intOf k').toNat)
  case atStart => exact ⟨last, 0, H0.out, Hm.out, Nat.zero_le _, rfl, rfl, hc1, hf1, hB1⟩
  case round =>
    clear hc1 hf1 hB1
    obtain ⟨z, k, hz0, hz1, hk, rfl, rfl, hc, hf, hB⟩ := hrel
    by_cases hlt : k < len
    · obtain ⟨b, off, rfl, hbw, hK, hZc⟩ := Hcell.out k hlt
      have hzk := HZ.out k
      have hK1 : wr.cell? ⟨b, off + k * 2, none⟩ = some (.int .i64 (K k)) := by rw [hB.cell hbw]; exact hK
      have hZ1 : wr.cell? ⟨b, off + k * 2 + 1, none⟩ = some (.int .i64 (Z k)) := by rw [hB.cell hbw]; exact hZc
      clear hK hZc
      by_cases k1 : K k = 1
      · rw [k1] at hK1
        clear k1 hZ1 hzk
        by_cases hn : (zN2 z == 0) = true
        · obtain ⟨n1, n2b⟩ := zN_ok z hz0 hz1 hn
          have hc2 : (wr.setCell ⟨w.heap.size, 0, none⟩ (.int .i64 (zN1 z))).cell? ⟨w.heap.size, 0, none⟩ = some (.int .i64 (zN1 z)) := World.cell?_setCell_same _ _ _ hc
          have hf2 : (wr.setCell ⟨w.heap.size, 0, none⟩ (.int .i64 (zN1 z))).frozen? ⟨w.heap.size, 0, none⟩ = false := by rw [World.frozen?_setCell]; exact hf
          have hB2 : Below w.heap.size w (wr.setCell ⟨w.heap.size, 0, none⟩ (.int .i64 (zN1 z))) := hB.setCell (Nat.le_refl _) _
          have hcb := zC_bd (zN1 z)
          go_wp2_with (first
            | (go_at_call 19; refine (take_ok _ _ _ hz1 _ hc hf hn).mono ?_; rintro e w' ⟨rfl, rfl⟩)
            | (go_at_call 15; refine (rnext_any _ _ hz1).mono ?_; rintro e w' ⟨rfl, rfl⟩)
            | (go_at_call 22; refine (last_any _ _ _ _ hc2).mono ?_; rintro e w' ⟨rfl, rfl⟩)
            | (go_at_call 23; refine (left_any _ _ _ n2b _ hc2).mono ?_; rintro e w' ⟨rfl, rfl⟩)
            | (go_at_call 17; refine (rcounter_any _ _ n2b).mono ?_; rintro e w' ⟨rfl, rfl⟩)
            | go_in)
          go_roundw
          case rel => exact ⟨zN1 z, k + 1, by omega, n2b, by omega, rfl, by go_num, hc2, hf2, hB2⟩
          case measure => simp [intOf]; omega
        · have hn' : (zN2 z == 0) = false := by simpa using hn
          clear hn
          have hcb := zC_bd z
          go_wp2_with (first
            | (go_at_call 19; refine (take_no _ _ _ hz1 _ hc hn').mono ?_; rintro e w' ⟨rfl, rfl⟩)
            | (go_at_call 15; refine (rnext_any _ _ hz1).mono ?_; rintro e w' ⟨rfl, rfl⟩)
            | (go_at_call 22; refine (last_any _ _ _ _ hc).mono ?_; rintro e w' ⟨rfl, rfl⟩)
            | (go_at_call 23; refine (left_any _ _ _ hz1 _ hc).mono ?_; rintro e w' ⟨rfl, rfl⟩)
            | (go_at_call 17; refine (rcounter_any _ _ hz1).mono ?_; rintro e w' ⟨rfl, rfl⟩)
            | go_in)
          go_roundw
          case rel => exact ⟨z, k + 1, hz0, hz1, by omega, rfl, by go_num, hc, hf, hB⟩
          case measure => simp [intOf]; omega
      by_cases k2 : K k = 2
      · rw [k2] at hK1
        clear k1 k2
        by_cases hn : (zU2 z (Z k) == 0) = true
        · have n1 := zU_ok z (Z k) hz0 hn
          obtain ⟨n2a, n2b⟩ := zU1_bd z (Z k)
          have hc2 : (wr.setCell ⟨w.heap.size, 0, none⟩ (.int .i64 (zU1 z (Z k)))).cell? ⟨w.heap.size, 0, none⟩ = some (.int .i64 (zU1 z (Z k))) := World.cell?_setCell_same _ _ _ hc
          have hf2 : (wr.setCell ⟨w.heap.size, 0, none⟩ (.int .i64 (zU1 z (Z k)))).frozen? ⟨w.heap.size, 0, none⟩ = false := by rw [World.frozen?_setCell]; exact hf
          have hB2 : Below w.heap.size w (wr.setCell ⟨w.heap.size, 0, none⟩ (.int .i64 (zU1 z (Z k)))) := hB.setCell (Nat.le_refl _) _
          have hcb := zC_bd (zU1 z (Z k))
          have hZ2 : (wr.setCell ⟨w.heap.size, 0, none⟩ (.int .i64 (zU1 z (Z k)))).cell? ⟨b, off + k * 2 + 1, none⟩ = some (.int .i64 (Z k)) := by rw [hB2.cell hbw]; rw [hB.cell hbw] at hZ1; exact hZ1
          go_wp2_with (first
            | (go_at_call 20; refine (up_ok _ _ _ _ hz1 hzk _ hc hf hn).mono ?_; rintro e w' ⟨rfl, rfl⟩)
            | (go_at_call 21; refine (rup_any _ _ hz1 hzk _).mono ?_; rintro e w' ⟨rfl, rfl⟩)
            | (go_at_call 22; refine (last_any _ _ _ _ hc2).mono ?_; rintro e w' ⟨rfl, rfl⟩)
            | (go_at_call 23; refine (left_any _ _ _ n2b _ hc2).mono ?_; rintro e w' ⟨rfl, rfl⟩)
            | (go_at_call 17; refine (rcounter_any _ _ n2b).mono ?_; rintro e w' ⟨rfl, rfl⟩)
            | go_in)
          go_roundw
          case rel => exact ⟨zU1 z (Z k), k + 1, n2a, n2b, by omega, rfl, by go_num, hc2, hf2, hB2⟩
          case measure => simp [intOf]; omega
        · have hn' : (zU2 z (Z k) == 0) = false := by simpa using hn
          clear hn
          have hcb := zC_bd z
          go_wp2_with (first
            | (go_at_call 20; refine (up_no _ _ _ _ hz1 hzk _ hc hn').mono ?_; rintro e w' ⟨rfl, rfl⟩)
            | (go_at_call 21; refine (rup_any _ _ hz1 hzk _).mono ?_; rintro e w' ⟨rfl, rfl⟩)
            | (go_at_call 22; refine (last_any _ _ _ _ hc).mono ?_; rintro e w' ⟨rfl, rfl⟩)
            | (go_at_call 23; refine (left_any _ _ _ hz1 _ hc).mono ?_; rintro e w' ⟨rfl, rfl⟩)
            | (go_at_call 17; refine (rcounter_any _ _ hz1).mono ?_; rintro e w' ⟨rfl, rfl⟩)
            | go_in)
          go_roundw
          case rel => exact ⟨z, k + 1, hz0, hz1, by omega, rfl, by go_num, hc, hf, hB⟩
          case measure => simp [intOf]; omega
      · have k1b : (K k == 1) = false := by simpa using k1
        have k2b : (K k == 2) = false := by simpa using k2
        clear k1 k2 hZ1
        have hcb := zC_bd z
        go_wp2_with (first
          | (go_at_call 22; refine (last_any _ _ _ _ hc).mono ?_; rintro e w' ⟨rfl, rfl⟩)
          | (go_at_call 23; refine (left_any _ _ _ hz1 _ hc).mono ?_; rintro e w' ⟨rfl, rfl⟩)
          | (go_at_call 17; refine (rcounter_any _ _ hz1).mono ?_; rintro e w' ⟨rfl, rfl⟩)
          | go_in)
        go_roundw
        case rel => exact ⟨z, k + 1, hz0, hz1, by omega, rfl, by go_num, hc, hf, hB⟩
        case measure => simp [intOf]; omega
    · go_wp2_with (first
        | (go_at_call 19; refine (take_nil _).mono ?_; rintro e w' ⟨rfl, rfl⟩)
        | (go_at_call 20; refine (up_nil _ _).mono ?_; rintro e w' ⟨rfl, rfl⟩)
        | (go_at_call 22; refine (last_nil _).mono ?_; rintro e w' ⟨rfl, rfl⟩)
        | (go_at_call 23; refine (left_nil _).mono ?_; rintro e w' ⟨rfl, rfl⟩)
        | go_in)
      go_ret
      exact ⟨rfl, hB⟩

/-- the script as it was read -/
theorem ops_cells {H : Type} {enc : TypeId × Value → H} {base : Nat} {W : World} {v : Value} {d : DataW H} {p : List MemPlace} (hv : Value.okWide Try.prog W .any base 35 v) (h : DataW.Trod enc Try.prog W 0 (fun _ => true) true 35 v d p) :
    ∃ (a : Option Addr) (len cap : Nat) (K Z : Nat → Int), v = .slice a len cap ∧ len ≤ 9223372036854775807 ∧ (∀ i, Z i ≤ 9223372036854775807) ∧ ∀ i, i < len → ∃ b off, a = some ⟨b, off, none⟩ ∧ b < W.heap.size ∧ W.cell? ⟨b, off + i * 2, none⟩ = some (.int .i64 (K i)) ∧ W.cell? ⟨b, off + i * 2 + 1, none⟩ = some (.int .i64 (Z i)) := by
  obtain ⟨a0, len0, cap0, rfl⟩ := okWide_slice Try.underlying35 hv
  obtain ⟨fuel, hf⟩ := h
  rcases open_slice_fields Try.underlying35 (Try.underlying40) (by kernel_rfl) (by kernel_rfl) hf with ⟨hcs, _⟩ | ⟨a, len, cap, m, D, Pl, hcs, _, hl, hm, hmm, _, hi⟩
  · simp [Value.cells] at hcs
    obtain ⟨rfl, rfl, rfl⟩ := hcs
    exact ⟨_, _, _, fun _ => 0, fun _ => 0, rfl, by omega, fun _ => by show (0 : Int) ≤ _; omega, fun i hi => by omega⟩
  · simp [Value.cells] at hcs
    obtain ⟨rfl, rfl, rfl⟩ := hcs
    unfold maxLen at hm
    have key : ∀ i, ∃ K Z : Int, Z ≤ 9223372036854775807 ∧ (i < len0 → ∃ b off, a = ⟨b, off, none⟩ ∧ b < W.heap.size ∧ W.cell? ⟨b, off + i * 2, none⟩ = some (.int .i64 K) ∧ W.cell? ⟨b, off + i * 2 + 1, none⟩ = some (.int .i64 Z)) := by
      intro i
      by_cases hlt : i < len0
      · obtain ⟨ys, n, _, _, _, hj⟩ := hi i (by simp at hmm; omega)
        obtain ⟨v0, y0, hc0, _, ht0⟩ := hj 0 _ rfl
        obtain ⟨v1, y1, hc1, _, ht1⟩ := hj 1 _ rfl
        obtain ⟨K, e0, _, _⟩ := DataW.trod_int Try.underlying3 ht0
        obtain ⟨Z, e1, _, wZ⟩ := DataW.trod_int Try.underlying2 ht1
        simp at e0 e1
        subst e0 e1
        have hb := bd64 wZ
        obtain ⟨b, off, spot⟩ := a
        have hspot : spot = none := by
          obtain ⟨ys', n', _, _, _, hj'⟩ := hi 0 (by simp at hmm; omega)
          obtain ⟨v', y', hc', _, _⟩ := hj' 0 _ rfl
          simpa [Addr.add] using World.cell?_spot hc'
        subst hspot
        rw [Go.WideShapes.add_plain] at hc0 hc1
        exact ⟨K, Z, hb.2, fun _ => ⟨b, off, rfl, cell_lt hc1, by simpa using hc0, by simpa [Nat.add_assoc] using hc1⟩⟩
      · exact ⟨0, 0, by omega, fun h => absurd h hlt⟩
    exact ⟨_, _, _, fun i => (key i).choose, fun i => (key i).choose_spec.choose, rfl, by omega, fun i => (key i).choose_spec.choose_spec.1, fun i hlt => by
      obtain ⟨b, off, e, h1, h2, h3⟩ := (key i).choose_spec.choose_spec.2 hlt
      exact ⟨b, off, by rw [e], h1, h2, h3⟩⟩

theorem zxidIssues_walk {H : Type} (enc : TypeId × Value → H) (base : Nat) (W : World) (last : Int) (wl : (Lit.int .i64 last).wf = true) (v : Value) (d : DataW H) (p : List MemPlace) (hv : Value.okWide Try.prog W .any base 35 v) (h : DataW.Trod enc Try.prog W 0 (fun _ => true) true 35 v d p) (_ : (DataW.weightsEach Try.prog [2, 35] [DataW.lit (.int .i64 last), d]).all (· ≤ reachBytes) = true) :
    Calls Try.prog 6 #[.int .i64 last, v] W fun r w' => r = .returned (.bool true) ∧ Below W.heap.size W w' := by
  by_cases h0 : last < 0
  · exact issues_neg last v h0 W
  · obtain ⟨a, len, cap, K, Z, rfl, h1, h2, h3⟩ := ops_cells hv h
    exact issues_pos last (by omega) (bd64 wl).2 a len cap h1 K Z h2 W h3
end Go.Proofs.Ytgbifmcdkigbgaa
