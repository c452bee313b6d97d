/- The law PathsOwn: the walk. -/
import Derived.Test.YtkhnchahoidbaaaDoorPd28
namespace Go.Proofs.YtkhnchahoidbaaaDoor
open Go.RowKit

theorem blk_lt_of {w : World} {base size n : Nat} {e : TypeId} {v : Value} {xs : List Value} (h : w.ownsRow base e size v n xs) : ∀ g, v.ownBlock = some g → base ≤ g ∧ g < w.heap.size := fun g hg => h.lt g hg

/-- a store into a row that the call owns: what the walk asks of the cell -/
theorem own_at {w : World} {base n c : Nat} {A : Option Addr} {xs : List Value} (h : w.ownsRow base 9 1 (.slice A n c) n xs) {k : Nat} (hk : k < n) : ∃ g u, A = some ⟨g, 0, none⟩ ∧ w.cell? ⟨g, k, none⟩ = some u ∧ w.frozen? ⟨g, k, none⟩ = false := by
  obtain ⟨g, cap, hv, _, _⟩ := h.form (by omega)
  injection hv with h1 h2 h3
  subst h1 h3
  have hl := h.1
  exact ⟨g, xs[k]'(by omega), rfl, by rw [h.cellAt k (by omega)]; exact List.getElem?_eq_getElem (by omega), h.frozenAt k⟩

set_option maxRecDepth 100000 in
set_option maxHeartbeats 2000000 in
theorem own_law (p : ByteArray) {w : World} (hE : Env w) :
    Calls Tryd.prog 7 #[.string p] w fun e w' => e = .returned (.bool true) ∧ Below w.heap.size w w' := by
  have hm : ∀ W, Below w.heap.size w W → ∃ m, W.cell? ⟨0, 0, none⟩ = some (.int .i64 m) := fun W hB => (hE.on hB).c0
  have hG : ∀ W, Below w.heap.size w W → 0 < W.heap.size := fun W hB => by have := (hE.on hB).hG; omega
  have HA := Lib.hid (alive_any hE)
  have HL : Hid (∀ W, Below w.heap.size w W → Calls Tryd.prog 16 #[.string p] W fun e w' => (∃ A c, e = .returned (.tuple #[.slice A (aboveOf p).length c, .int .i64 (partsE p)]) ∧ w'.ownsRow W.heap.size 9 1 (.slice A (aboveOf p).length c) (aboveOf p).length (strs (aboveOf p))) ∧ Below W.heap.size W w' ∧ (aboveOf p).length ≤ 4097) := fun W hB => by
    obtain ⟨m, h⟩ := hm W hB
    exact above_own p W m h (hG W hB)
  have HP : Hid (∀ W, Below w.heap.size w W → Calls Tryd.prog 10 #[.string p] W fun e w' => (∃ A c, e = .returned (.tuple #[.slice A (partsOf p).length c, .int .i64 (partsE p)]) ∧ w'.ownsRow W.heap.size 9 1 (.slice A (partsOf p).length c) (partsOf p).length (strs (partsOf p))) ∧ Below W.heap.size W w' ∧ (partsOf p).length ≤ 4097) := fun W hB => by
    obtain ⟨m, h⟩ := hm W hB
    exact parts_own p W m h (hG W hB)
  obtain ⟨i0, hi0, hz0, hz1, hz2⟩ := info_parts str_info
  generalize partsOf p = PL at *
  generalize aboveOf p = AL at *
  generalize partsE p = ER at *
  clear hm hG hE
  have HPC := HP
  have HLC := HL
  have HW : Hid (∀ (A A' : Option Addr) (n c c' B B' : Nat) (L : List ByteArray) (W : World), Reads W B 1 A n (strs L) → Reads W B' 1 A' n (strs L) → n ≤ 140737488355328 → Calls Tryd.prog 18 #[.slice A n c, .slice A' n c'] W fun e w' => e = .returned (.bool true) ∧ ∃ q, w' = W.drewN q) := words_true
  go_enter Tryd.func7, Tryd.ntmps7
  go_wp2_with (first
    | (go_at_call 25; refine HA.out.mono ?_; rintro e w1 ⟨rfl, hb1⟩)
    | (go_at_call 10; refine (HP.out _ hb1).mono ?_; rintro e w2 ⟨⟨A2, c2, rfl, o2⟩, hb2, hn2⟩; have hB2 : Below w.heap.size w w2 := hb1.trans (hb2.mono hb1.size))
    | (go_at_call 16; refine (HL.out _ hB2).mono ?_; rintro e w3 ⟨⟨A3, c3, rfl, o3⟩, hb3, hn3⟩
       have hB3 : Below w.heap.size w w3 := hB2.trans (hb3.mono hB2.size)
       have o2' := own_below o2 hb3
       have r2' := (Reads.of_own o2')
       have r3' := (Reads.of_own o3))
    | (have F0 := F9
       at_builtin
       refine wpList_append_any _ rfl (.tmp 31) (.tmp 32) _ rfl w3.heap.size 9 i0 _ 1 16 Tryd.underlying22 hi0 hz0 hz1 hz2 rfl (by decide) (.slice (some ⟨w4.heap.size, 0, none⟩) 0 0) 0 [] rfl (owns_empty (Blk.new _ _ _) hB4.size) w4.heap.size A3 AL.length c3 (strs AL) rfl (r4'.alloc (Nat.le_refl _) _) (strs_one _) (by simp only [maxLen]; omega) (by omega) (by have := hB4.size; simp; omega) ?_
       intro v2 w5 hown5 hg5 hat5
       have hB5 : Below w4.heap.size w4 w5 := Below.grown ((Below.refl _ _).alloc (Nat.le_refl _) _) hg5 (by simp) (fun j hj => by simp [Value.ownBlock] at hj; omega)
       obtain ⟨A5, c5, hv5⟩ := slice_form hown5
       rw [hv5] at hown5 ⊢
       simp only [Nat.zero_add, List.nil_append] at hown5 ⊢
       clear hat5 hg5 hv5)
    | (have F9 := trivial
       at_builtin
       refine wpList_append_any _ rfl (.tmp 28) (.tmp 29) _ rfl w3.heap.size 9 i0 _ 1 16 Tryd.underlying22 hi0 hz0 hz1 hz2 rfl (by decide) (.slice (some ⟨w3.heap.size, 0, none⟩) 0 0) 0 [] rfl (owns_empty (Blk.new _ _ _) (Nat.le_refl _)) w3.heap.size A2 PL.length c2 (strs PL) rfl (r2'.alloc (Nat.le_refl _) _) (strs_one _) (by simp only [maxLen]; omega) (by omega) (by simp) ?_
       intro v1 w4 hown4 hg4 hat4
       have hB4 : Below w3.heap.size w3 w4 := Below.grown ((Below.refl _ _).alloc (Nat.le_refl _) _) hg4 (by simp) (fun j hj => by simp [Value.ownBlock] at hj; omega)
       obtain ⟨A4, c4, hv4⟩ := slice_form hown4
       rw [hv4] at hown4 ⊢
       simp only [Nat.zero_add, List.nil_append] at hown4 ⊢
       have r4' := r3'.below hB4
       have r4' := r4'.more hB4.size
       clear hat4 hg4 hv4))
  have o2l := own_below o2' (hB4.trans (hB5.mono hB4.size))
  have o3l := own_below o3 (hB4.trans (hB5.mono hB4.size))
  have o4l := own_below hown4 hB5
  have hBw5 : Below w.heap.size w w5 := hB3.trans ((hB4.trans (hB5.mono hB4.size)).mono hB3.size)
  have s1 := hb1.size
  have s2 := hb2.size
  have s3 := hb3.size
  have p2 := o2.lt
  have p3 := o3.lt
  have O3 := Lib.hid o3l
  have O4 := Lib.hid o4l
  have O5 := Lib.hid hown5
  clear hown4 hown5 o2 o2' o3 o3l o4l r2' r3' r4' hb2 hb3 HP HL HA F9 hb1
  go_loopw [9] (fun v wr => ∃ (k : Nat) (xs : List Value), v = .int .i64 k ∧ k ≤ PL.length ∧ wr.ownsRow w1.heap.size 9 1 (.slice A2 PL.length c2) PL.length xs ∧ w5.grownBy wr (Value.slice A2 PL.length c2).ownBlock) (fun v _ => PL.length - (intOf v).toNat)
  case atStart => exact ⟨0, strs PL, rfl, by omega, o2l, World.grownBy.refl _ _⟩
  case round =>
    obtain ⟨k, xs, rfl, hk, hown, hgr⟩ := hrel
    by_cases hlt : k < PL.length
    · obtain ⟨g, u, rfl, hc, hf⟩ := own_at hown hlt
      go_wp2
      have hst := hown.stored k (.string ⟨#[126]⟩)
      go_roundw
      case rel => exact ⟨k + 1, xs.set k (.string ⟨#[126]⟩), by simp, by omega, hst.1, hgr.trans hst.2⟩
      case measure => simp [intOf]; omega
    · obtain ⟨wa, rfl⟩ : ∃ wa, wa = wr := ⟨_, rfl⟩
      have hkk : k = PL.length := by omega
      subst hkk
      clear hlt hk
      have O3m := O3.out.kept hgr (by
        rcases hz : (Value.slice A3 AL.length c3).ownBlock with _ | g
        · exact .inl rfl
        · refine .inr fun e => ?_
          have h1 := p3 g hz
          have h2 := p2 g e.symm
          omega)
      have O4m := O4.out.kept hgr (by
        rcases hz : (Value.slice A4 PL.length c4).ownBlock with _ | g
        · exact .inl rfl
        · refine .inr fun e => ?_
          have h1 := O4.out.lt g hz
          have h2 := p2 g e.symm
          omega)
      have O5m := O5.out.kept hgr (by
        rcases hz : (Value.slice A5 AL.length c5).ownBlock with _ | g
        · exact .inl rfl
        · refine .inr fun e => ?_
          have h1 := O5.out.lt g hz
          have h2 := p2 g e.symm
          omega)
      have hBr : Below w.heap.size w wa := hBw5.grown hgr hBw5.size (fun j hj => by have := p2 j hj; omega)
      have O4m' := Lib.hid O4m
      have O5m' := Lib.hid O5m
      clear O3 O4 O5 O4m O5m hgr hown hBw5
      go_wp2
      go_loopw [10] (fun v wq => ∃ (k : Nat) (xs : List Value), v = .int .i64 k ∧ k ≤ AL.length ∧ wq.ownsRow w2.heap.size 9 1 (.slice A3 AL.length c3) AL.length xs ∧ wa.grownBy wq (Value.slice A3 AL.length c3).ownBlock) (fun v _ => AL.length - (intOf v).toNat)
      case atStart => exact ⟨0, strs AL, rfl, by omega, O3m, World.grownBy.refl _ _⟩
      case round =>
        obtain ⟨k2, xs2, rfl, hk2, hown2, hgr2⟩ := hrel
        by_cases hlt2 : k2 < AL.length
        · obtain ⟨g, u, rfl, hc, hf⟩ := own_at hown2 hlt2
          go_wp2
          have hst := hown2.stored k2 (.string ⟨#[126]⟩)
          go_roundw
          case rel => exact ⟨k2 + 1, xs2.set k2 (.string ⟨#[126]⟩), by simp, by omega, hst.1, hgr2.trans hst.2⟩
          case measure => simp [intOf]; omega
        · have hkk2 : k2 = AL.length := by omega
          subst hkk2
          clear hlt2 hk2
          have O4n := O4m'.out.kept hgr2 (by
            rcases hz : (Value.slice A4 PL.length c4).ownBlock with _ | g
            · exact .inl rfl
            · refine .inr fun e => ?_
              have h1 := O4m'.out.lt g hz
              have h2 := p3 g e.symm
              omega)
          have O5n := O5m'.out.kept hgr2 (by
            rcases hz : (Value.slice A5 AL.length c5).ownBlock with _ | g
            · exact .inl rfl
            · refine .inr fun e => ?_
              have h1 := O5m'.out.lt g hz
              have h2 := p3 g e.symm
              omega)
          have hBq : Below w.heap.size w wr := hBr.grown hgr2 hBr.size (fun j hj => by have := p3 j hj; omega)
          have R4 := Lib.hid (Reads.of_own O4n)
          have R5 := Lib.hid (Reads.of_own O5n)
          clear O4m' O5m' O4n O5n hgr2 hown2 hBr O3m
          go_wp2_with (first
            | (go_at_call 10; refine (HPC.out _ hBq).mono ?_; rintro e w6 ⟨⟨A6, c6, rfl, o6⟩, hb6, hn6⟩; have hB6 : Below w.heap.size w w6 := hBq.trans (hb6.mono hBq.size))
            | (go_at_call 16; refine (HLC.out _ hB6).mono ?_; rintro e w7 ⟨⟨A7, c7, rfl, o7⟩, hb7, hn7⟩
               have hB7 : Below w.heap.size w w7 := hB6.trans (hb7.mono hB6.size)
               have r6 := Reads.of_own (own_below o6 hb7)
               have r7 := Reads.of_own o7
               have hbq7 := hb6.trans (hb7.mono hb6.size)
               have r4 := R4.out.below hbq7
               have r5 := R5.out.below hbq7
               have W1 := Lib.hid (HW.out _ _ _ c4 c6 _ _ _ w7 r4 r6 (by omega))
               have W2 := Lib.hid (fun q => HW.out _ _ _ c5 c7 _ _ _ (w7.drewN q) (r5.drewN q) (r7.drewN q) (by omega)))
            | (have F0 := F8; go_at_call 18; refine (W2.out q1).mono ?_; rintro e w9 ⟨rfl, q2, rfl⟩)
            | (have F8 := trivial; go_at_call 18; refine W1.out.mono ?_; rintro e w8 ⟨rfl, q1, rfl⟩))
          go_ret
          exact ⟨rfl, below_drewN' hB7 (q1 + q2)⟩

theorem pathsOwn_walk {H : Type} (p : ByteArray) (_ : p.size ≤ maxLen) (W : World) (_ : (DataW.weightsEach Tryd.prog ([9] : List TypeId) ([DataW.lit (.string p.data.toList)] : List (DataW H))).all (· ≤ reachBytes) = true) (hsh : W.ShapedOpen Tryd.prog)
    (hlaid : laidMetH Tryd.prog Rows.pathsOwnRow.laid W) :
    Calls Tryd.prog 7 #[.string p] W fun e w' => e = .returned (.bool true) ∧ Below W.heap.size W w' :=
  own_law p (env_of hlaid hsh rfl rfl rfl)
end Go.Proofs.YtkhnchahoidbaaaDoor
