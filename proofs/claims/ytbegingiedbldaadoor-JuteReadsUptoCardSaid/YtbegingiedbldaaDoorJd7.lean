/- The document's reading of a step: the walk. -/
import Derived.Test.YtbegingiedbldaaDoorJd6
namespace Go.Proofs.YtbegingiedbldaaDoor
open Go.RowKit

theorem OneE.from_ {base gbase R gb : Nat} {A : Option Addr} {c : Nat} {l : List UInt8} {vN vT : Value} {N : List Int} {T : List ByteArray} {r : (Gt × Nat) ⊕ (Int × Nat)} {w wa w2 : World} {e : Ending} (hk : Kp [R] w wa) (h : OneE base gbase R gb A c l vN vT N T r wa e w2) : OneE base gbase R gb A c l vN vT N T r w e w2 :=
  ⟨h.1, hk.to h.2.1 (fun x hx _ => by rw [List.mem_singleton.1 hx]; simp) (fun _ hx _ => hx), h.2.2⟩

set_option maxRecDepth 100000 in
set_option maxHeartbeats 8000000 in
theorem one_any (base gbase R gb : Nat) (A : Option Addr) (c : Nat) (l : List UInt8) (p : Nat) (vN vT : Value) (N : List Int) (T : List ByteArray) (s : St) (w : World)
    (hR : RR w base R A c l p 0) (hg : GotSt w gbase gb vN vT N T) (hbg : base ≤ gbase) (hgb : base ≤ gb) (hgz : gbase ≤ w.heap.size) (hNl : N.length ≤ 1099511627776) (hTl : T.length ≤ 1099511627776) :
    Calls Tryd.prog 50 #[.pointer (some ⟨R, 0, none⟩), .agg #[.int .i64 s.k, .int .i64 s.most, .int .i64 s.least, .int .i64 s.n], .pointer (some ⟨gb, 0, none⟩)] w (OneE base gbase R gb A c l vN vT N T (stepR s l p) w) := by
  obtain ⟨i0, hi0, hz0, hz1, hz2⟩ := info_parts i64_info
  obtain ⟨j0, hj0, hy0, hy1, hy2⟩ := info_parts str_info
  obtain ⟨wa, hwa⟩ : ∃ wa, w.alloc (.cells #[.int .i64 s.k, .int .i64 s.most, .int .i64 s.least, .int .i64 s.n] 53) = wa := ⟨_, rfl⟩
  have hba : Below w.heap.size w wa := by rw [← hwa]; exact (Below.refl _ _).alloc (Nat.le_refl _) _
  have bA : Blk wa w.heap.size 53 #[.int .i64 s.k, .int .i64 s.most, .int .i64 s.least, .int .i64 s.n] := by rw [← hwa]; exact Blk.new _ _ _
  have a0 : wa.cell? ⟨w.heap.size, 0, none⟩ = some (.int .i64 s.k) := by rw [bA.cell 0]; rfl
  have a1 : wa.cell? ⟨w.heap.size, 1, none⟩ = some (.int .i64 s.most) := by rw [bA.cell 1]; rfl
  have a2 : wa.cell? ⟨w.heap.size, 2, none⟩ = some (.int .i64 s.least) := by rw [bA.cell 2]; rfl
  have a3 : wa.cell? ⟨w.heap.size, 3, none⟩ = some (.int .i64 s.n) := by rw [bA.cell 3]; rfl
  have HbA := Lib.hid bA
  have HBA := Lib.hid hba
  have HRa := Lib.hid (hR.later hba)
  have HGa := Lib.hid (hg.later hba)
  have HKA : Hid (Kp [R] w wa) := Kp.of_below hba
  have hzb : base ≤ wa.heap.size := Nat.le_trans (Nat.le_trans hbg hgz) hba.size
  clear hR hg hba bA
  by_cases k1 : s.k = 1
  · as_aux_lemma =>
      have n1 : (s.k == 1) = true := by simp [k1]
      have n5 : (s.k == 5) = false := by simp [k1]
      have n6 : (s.k == 6) = false := by simp [k1]
      have hT := dBool base R A c l p wa HRa.out
      rcases hres : gBool l p with ⟨b, q⟩ | ⟨er, q⟩
      · rw [hres] at hT
        have HT := Lib.hid hT
        rcases b
        · have HST : Hid (stepR s l p = .inl (([0], []), q)) := by unfold Hid; simp [stepR, k1, Rg.map, hres]
          clear hT hres k1
          go_enter Tryd.func50, Tryd.ntmps50
          go_wp2_with (first | (go_at_call 65; (with_reducible refine (HT.out).mono ?_); rintro e w2 ⟨⟨v, rfl, rfl⟩, hk2, hR2⟩; have HK2 : Hid (Kp [R] w w2) := HKA.out.trans hk2; have HG2 := Lib.hid (HGa.out.kpR HRa.out hk2); have HS2 := Lib.hid (HbA.out.kp hk2 (by have := HbA.out.ne_ HRa.out.blk (by decide); simpa using this)); have b0 : w2.cell? ⟨w.heap.size, 0, none⟩ = some (.int .i64 s.k) := (by rw [HS2.out.cell 0]; rfl); obtain ⟨k0, k1, k2, kf1, kf2⟩ := hR2.cells; obtain ⟨g0, g1, gf0, gf1⟩ := HG2.out.cells; have HR2 := Lib.hid hR2; have HZ2 : Hid (gbase ≤ w2.heap.size) := Nat.le_trans hgz HK2.out.size; clear hk2 hR2) | (at_builtin; refine wpList_append_any _ rfl (.tmp 92) (.tmp 94) _ rfl gbase 2 i0 _ 1 8 Tryd.underlying25 hi0 hz0 hz1 hz2 rfl (by decide) vN N.length (icells N) rfl (World.ownsRow.alloc HG2.out.nums _) (w2.heap.size + 1) (some ⟨w2.heap.size, 0, none⟩) 1 1 (icells [0]) rfl (reads_lit w2 2 [_]) (icells_one _) (by simp only [maxLen]; omega) (by omega) (by have := HZ2.out; simp; omega) ?_; intro v3 w3 ho3 hg3 hat3; have hb3 := (HG2.out.later ((Below.refl _ _).alloc (Nat.le_refl _) _)).gN hg3; have q0 : w3.cell? ⟨gb, 0, none⟩ = some vN := (by rw [hb3.cell 0]; rfl); have qf := hb3.frozen 0; have HE3 := Lib.hid (OneE.num HK2.out HG2.out HR2.out HST.out hbg hgb ho3 hg3); obtain ⟨A3, c3, rfl⟩ := slice_form ho3; clear hb3 ho3 hg3 hat3))
          go_end0
          exact HE3.out
        · have HST : Hid (stepR s l p = .inl (([1], []), q)) := by unfold Hid; simp [stepR, k1, Rg.map, hres]
          clear hT hres k1
          go_enter Tryd.func50, Tryd.ntmps50
          go_wp2_with (first | (go_at_call 65; (with_reducible refine (HT.out).mono ?_); rintro e w2 ⟨⟨v, rfl, rfl⟩, hk2, hR2⟩; have HK2 : Hid (Kp [R] w w2) := HKA.out.trans hk2; have HG2 := Lib.hid (HGa.out.kpR HRa.out hk2); have HS2 := Lib.hid (HbA.out.kp hk2 (by have := HbA.out.ne_ HRa.out.blk (by decide); simpa using this)); have b0 : w2.cell? ⟨w.heap.size, 0, none⟩ = some (.int .i64 s.k) := (by rw [HS2.out.cell 0]; rfl); obtain ⟨k0, k1, k2, kf1, kf2⟩ := hR2.cells; obtain ⟨g0, g1, gf0, gf1⟩ := HG2.out.cells; have HR2 := Lib.hid hR2; have HZ2 : Hid (gbase ≤ w2.heap.size) := Nat.le_trans hgz HK2.out.size; clear hk2 hR2) | (at_builtin; refine wpList_append_any _ rfl (.tmp 92) (.tmp 94) _ rfl gbase 2 i0 _ 1 8 Tryd.underlying25 hi0 hz0 hz1 hz2 rfl (by decide) vN N.length (icells N) rfl (World.ownsRow.alloc HG2.out.nums _) (w2.heap.size + 1) (some ⟨w2.heap.size, 0, none⟩) 1 1 (icells [1]) rfl (reads_lit w2 2 [_]) (icells_one _) (by simp only [maxLen]; omega) (by omega) (by have := HZ2.out; simp; omega) ?_; intro v3 w3 ho3 hg3 hat3; have hb3 := (HG2.out.later ((Below.refl _ _).alloc (Nat.le_refl _) _)).gN hg3; have q0 : w3.cell? ⟨gb, 0, none⟩ = some vN := (by rw [hb3.cell 0]; rfl); have qf := hb3.frozen 0; have HE3 := Lib.hid (OneE.num HK2.out HG2.out HR2.out HST.out hbg hgb ho3 hg3); obtain ⟨A3, c3, rfl⟩ := slice_form ho3; clear hb3 ho3 hg3 hat3))
          go_end0
          exact HE3.out
      · rw [hres] at hT
        have HT := Lib.hid hT
        have HST : Hid (stepR s l p = .inr (er, q)) := by unfold Hid; simp [stepR, k1, Rg.map, gByte, hres]
        clear hT hres k1
        go_enter Tryd.func50, Tryd.ntmps50
        go_wp2_with (go_at_call 65; (with_reducible refine (HT.out).mono ?_); rintro e w2 ⟨rfl, hne, hk2, hR2⟩; have HK2 : Hid (Kp [R] w w2) := HKA.out.trans hk2; have HG2 := Lib.hid (HGa.out.kpR HRa.out hk2); have HS2 := Lib.hid (HbA.out.kp hk2 (by have := HbA.out.ne_ HRa.out.blk (by decide); simpa using this)); have b0 : w2.cell? ⟨w.heap.size, 0, none⟩ = some (.int .i64 s.k) := (by rw [HS2.out.cell 0]; rfl); obtain ⟨k0, k1, k2, kf1, kf2⟩ := hR2.cells; obtain ⟨g0, g1, gf0, gf1⟩ := HG2.out.cells; have HR2 := Lib.hid hR2; have HZ2 : Hid (gbase ≤ w2.heap.size) := Nat.le_trans hgz HK2.out.size; have hnb : (er != 0) = true := (by simp [hne]); have HNE := Lib.hid hne; clear hk2 hR2 hne)
        refine bodyPost_ret (results_none rfl _ _ _) rfl ?_
        exact OneE.no HK2.out HG2.out HR2.out HNE.out HST.out
  ·
    by_cases k2 : s.k = 2
    · as_aux_lemma =>
        have n1 : (s.k == 1) = false := by simp [k1]
        have n2 : (s.k == 2) = true := by simp [k2]
        have n5 : (s.k == 5) = false := by simp [k2]
        have n6 : (s.k == 6) = false := by simp [k2]
        have hT : Calls Tryd.prog 66 #[.pointer (some ⟨R, 0, none⟩), .int .i64 1] wa (RefE base R A c l vU64 (.int .u64 0) (gNum 1 l p) wa) := dTake base R A c l p wa 1 (by omega) HRa.out
        rcases hres : gNum 1 l p with ⟨n, q⟩ | ⟨er, q⟩
        · rw [hres] at hT
          have HT := Lib.hid hT
          have HST : Hid (stepR s l p = .inl (([(n : Int)], []), q)) := by unfold Hid; simp [stepR, k2, Rg.map, gByte, hres]
          have hn : n < 256 := (gNum1_one hres).2.2
          clear hT hres k1 k2
          go_enter Tryd.func50, Tryd.ntmps50
          go_wp2_with (first | (go_at_call 66; (with_reducible refine (HT.out).mono ?_); rintro e w2 ⟨⟨v, rfl, rfl⟩, hk2, hR2⟩; have HK2 : Hid (Kp [R] w w2) := HKA.out.trans hk2; have HG2 := Lib.hid (HGa.out.kpR HRa.out hk2); have HS2 := Lib.hid (HbA.out.kp hk2 (by have := HbA.out.ne_ HRa.out.blk (by decide); simpa using this)); have b0 : w2.cell? ⟨w.heap.size, 0, none⟩ = some (.int .i64 s.k) := (by rw [HS2.out.cell 0]; rfl); obtain ⟨k0, k1, k2, kf1, kf2⟩ := hR2.cells; obtain ⟨g0, g1, gf0, gf1⟩ := HG2.out.cells; have HR2 := Lib.hid hR2; have HZ2 : Hid (gbase ≤ w2.heap.size) := Nat.le_trans hgz HK2.out.size; clear hk2 hR2) | (at_builtin; refine wpList_append_any _ rfl (.tmp 92) (.tmp 94) _ rfl gbase 2 i0 _ 1 8 Tryd.underlying25 hi0 hz0 hz1 hz2 rfl (by decide) vN N.length (icells N) rfl (World.ownsRow.alloc HG2.out.nums _) (w2.heap.size + 1) (some ⟨w2.heap.size, 0, none⟩) 1 1 (icells [(n : Int)]) rfl (reads_lit w2 2 [_]) (icells_one _) (by simp only [maxLen]; omega) (by omega) (by have := HZ2.out; simp; omega) ?_; intro v3 w3 ho3 hg3 hat3; have hb3 := (HG2.out.later ((Below.refl _ _).alloc (Nat.le_refl _) _)).gN hg3; have q0 : w3.cell? ⟨gb, 0, none⟩ = some vN := (by rw [hb3.cell 0]; rfl); have qf := hb3.frozen 0; have HE3 := Lib.hid (OneE.num HK2.out HG2.out HR2.out HST.out hbg hgb ho3 hg3); obtain ⟨A3, c3, rfl⟩ := slice_form ho3; clear hb3 ho3 hg3 hat3))
          go_end0
          exact HE3.out
        · rw [hres] at hT
          have HT := Lib.hid hT
          have HST : Hid (stepR s l p = .inr (er, q)) := by unfold Hid; simp [stepR, k2, Rg.map, gByte, hres]
          clear hT hres k1 k2
          go_enter Tryd.func50, Tryd.ntmps50
          go_wp2_with (go_at_call 66; (with_reducible refine (HT.out).mono ?_); rintro e w2 ⟨rfl, hne, hk2, hR2⟩; have HK2 : Hid (Kp [R] w w2) := HKA.out.trans hk2; have HG2 := Lib.hid (HGa.out.kpR HRa.out hk2); have HS2 := Lib.hid (HbA.out.kp hk2 (by have := HbA.out.ne_ HRa.out.blk (by decide); simpa using this)); have b0 : w2.cell? ⟨w.heap.size, 0, none⟩ = some (.int .i64 s.k) := (by rw [HS2.out.cell 0]; rfl); obtain ⟨k0, k1, k2, kf1, kf2⟩ := hR2.cells; obtain ⟨g0, g1, gf0, gf1⟩ := HG2.out.cells; have HR2 := Lib.hid hR2; have HZ2 : Hid (gbase ≤ w2.heap.size) := Nat.le_trans hgz HK2.out.size; have hnb : (er != 0) = true := (by simp [hne]); have HNE := Lib.hid hne; clear hk2 hR2 hne)
          refine bodyPost_ret (results_none rfl _ _ _) rfl ?_
          exact OneE.no HK2.out HG2.out HR2.out HNE.out HST.out
    ·
      by_cases k3 : s.k = 3
      · as_aux_lemma =>
          have n1 : (s.k == 1) = false := by simp [k1]
          have n2 : (s.k == 2) = false := by simp [k2]
          have n3 : (s.k == 3) = true := by simp [k3]
          have n5 : (s.k == 5) = false := by simp [k3]
          have n6 : (s.k == 6) = false := by simp [k3]
          have hT := dInt base R A c l p wa HRa.out
          rcases hres : gInt l p with ⟨z, q⟩ | ⟨er, q⟩
          · rw [hres] at hT
            have HT := Lib.hid hT
            have HST : Hid (stepR s l p = .inl (([z], []), q)) := by unfold Hid; simp [stepR, k3, Rg.map, gByte, hres]
            have hzb2 : -2147483648 ≤ z ∧ z ≤ 2147483647 := by obtain ⟨_, hz, _⟩ := gInt_inl hres; rw [hz]; exact wrap32_bd _
            clear hT hres k1 k2 k3
            go_enter Tryd.func50, Tryd.ntmps50
            go_wp2_with (first | (go_at_call 67; (with_reducible refine (HT.out).mono ?_); rintro e w2 ⟨⟨v, rfl, rfl⟩, hk2, hR2⟩; have HK2 : Hid (Kp [R] w w2) := HKA.out.trans hk2; have HG2 := Lib.hid (HGa.out.kpR HRa.out hk2); have HS2 := Lib.hid (HbA.out.kp hk2 (by have := HbA.out.ne_ HRa.out.blk (by decide); simpa using this)); have b0 : w2.cell? ⟨w.heap.size, 0, none⟩ = some (.int .i64 s.k) := (by rw [HS2.out.cell 0]; rfl); obtain ⟨k0, k1, k2, kf1, kf2⟩ := hR2.cells; obtain ⟨g0, g1, gf0, gf1⟩ := HG2.out.cells; have HR2 := Lib.hid hR2; have HZ2 : Hid (gbase ≤ w2.heap.size) := Nat.le_trans hgz HK2.out.size; clear hk2 hR2) | (at_builtin; refine wpList_append_any _ rfl (.tmp 92) (.tmp 94) _ rfl gbase 2 i0 _ 1 8 Tryd.underlying25 hi0 hz0 hz1 hz2 rfl (by decide) vN N.length (icells N) rfl (World.ownsRow.alloc HG2.out.nums _) (w2.heap.size + 1) (some ⟨w2.heap.size, 0, none⟩) 1 1 (icells [z]) rfl (reads_lit w2 2 [_]) (icells_one _) (by simp only [maxLen]; omega) (by omega) (by have := HZ2.out; simp; omega) ?_; intro v3 w3 ho3 hg3 hat3; have hb3 := (HG2.out.later ((Below.refl _ _).alloc (Nat.le_refl _) _)).gN hg3; have q0 : w3.cell? ⟨gb, 0, none⟩ = some vN := (by rw [hb3.cell 0]; rfl); have qf := hb3.frozen 0; have HE3 := Lib.hid (OneE.num HK2.out HG2.out HR2.out HST.out hbg hgb ho3 hg3); obtain ⟨A3, c3, rfl⟩ := slice_form ho3; clear hb3 ho3 hg3 hat3))
            go_end0
            exact HE3.out
          · rw [hres] at hT
            have HT := Lib.hid hT
            have HST : Hid (stepR s l p = .inr (er, q)) := by unfold Hid; simp [stepR, k3, Rg.map, gByte, hres]
            clear hT hres k1 k2 k3
            go_enter Tryd.func50, Tryd.ntmps50
            go_wp2_with (go_at_call 67; (with_reducible refine (HT.out).mono ?_); rintro e w2 ⟨rfl, hne, hk2, hR2⟩; have HK2 : Hid (Kp [R] w w2) := HKA.out.trans hk2; have HG2 := Lib.hid (HGa.out.kpR HRa.out hk2); have HS2 := Lib.hid (HbA.out.kp hk2 (by have := HbA.out.ne_ HRa.out.blk (by decide); simpa using this)); have b0 : w2.cell? ⟨w.heap.size, 0, none⟩ = some (.int .i64 s.k) := (by rw [HS2.out.cell 0]; rfl); obtain ⟨k0, k1, k2, kf1, kf2⟩ := hR2.cells; obtain ⟨g0, g1, gf0, gf1⟩ := HG2.out.cells; have HR2 := Lib.hid hR2; have HZ2 : Hid (gbase ≤ w2.heap.size) := Nat.le_trans hgz HK2.out.size; have hnb : (er != 0) = true := (by simp [hne]); have HNE := Lib.hid hne; clear hk2 hR2 hne)
            refine bodyPost_ret (results_none rfl _ _ _) rfl ?_
            exact OneE.no HK2.out HG2.out HR2.out HNE.out HST.out
      ·
        by_cases k4 : s.k = 4
        · as_aux_lemma =>
            have n1 : (s.k == 1) = false := by simp [k1]
            have n2 : (s.k == 2) = false := by simp [k2]
            have n3 : (s.k == 3) = false := by simp [k3]
            have n4 : (s.k == 4) = true := by simp [k4]
            have n5 : (s.k == 5) = false := by simp [k4]
            have n6 : (s.k == 6) = false := by simp [k4]
            have hT := dLong base R A c l p wa HRa.out
            rcases hres : gLong l p with ⟨z, q⟩ | ⟨er, q⟩
            · rw [hres] at hT
              have HT := Lib.hid hT
              have HST : Hid (stepR s l p = .inl (([z], []), q)) := by unfold Hid; simp [stepR, k4, Rg.map, gByte, hres]
              clear hT hres k1 k2 k3 k4
              go_enter Tryd.func50, Tryd.ntmps50
              go_wp2_with (first | (go_at_call 68; (with_reducible refine (HT.out).mono ?_); rintro e w2 ⟨⟨v, rfl, rfl⟩, hk2, hR2⟩; have HK2 : Hid (Kp [R] w w2) := HKA.out.trans hk2; have HG2 := Lib.hid (HGa.out.kpR HRa.out hk2); have HS2 := Lib.hid (HbA.out.kp hk2 (by have := HbA.out.ne_ HRa.out.blk (by decide); simpa using this)); have b0 : w2.cell? ⟨w.heap.size, 0, none⟩ = some (.int .i64 s.k) := (by rw [HS2.out.cell 0]; rfl); obtain ⟨k0, k1, k2, kf1, kf2⟩ := hR2.cells; obtain ⟨g0, g1, gf0, gf1⟩ := HG2.out.cells; have HR2 := Lib.hid hR2; have HZ2 : Hid (gbase ≤ w2.heap.size) := Nat.le_trans hgz HK2.out.size; clear hk2 hR2) | (at_builtin; refine wpList_append_any _ rfl (.tmp 92) (.tmp 94) _ rfl gbase 2 i0 _ 1 8 Tryd.underlying25 hi0 hz0 hz1 hz2 rfl (by decide) vN N.length (icells N) rfl (World.ownsRow.alloc HG2.out.nums _) (w2.heap.size + 1) (some ⟨w2.heap.size, 0, none⟩) 1 1 (icells [z]) rfl (reads_lit w2 2 [_]) (icells_one _) (by simp only [maxLen]; omega) (by omega) (by have := HZ2.out; simp; omega) ?_; intro v3 w3 ho3 hg3 hat3; have hb3 := (HG2.out.later ((Below.refl _ _).alloc (Nat.le_refl _) _)).gN hg3; have q0 : w3.cell? ⟨gb, 0, none⟩ = some vN := (by rw [hb3.cell 0]; rfl); have qf := hb3.frozen 0; have HE3 := Lib.hid (OneE.num HK2.out HG2.out HR2.out HST.out hbg hgb ho3 hg3); obtain ⟨A3, c3, rfl⟩ := slice_form ho3; clear hb3 ho3 hg3 hat3))
              go_end0
              exact HE3.out
            · rw [hres] at hT
              have HT := Lib.hid hT
              have HST : Hid (stepR s l p = .inr (er, q)) := by unfold Hid; simp [stepR, k4, Rg.map, gByte, hres]
              clear hT hres k1 k2 k3 k4
              go_enter Tryd.func50, Tryd.ntmps50
              go_wp2_with (go_at_call 68; (with_reducible refine (HT.out).mono ?_); rintro e w2 ⟨rfl, hne, hk2, hR2⟩; have HK2 : Hid (Kp [R] w w2) := HKA.out.trans hk2; have HG2 := Lib.hid (HGa.out.kpR HRa.out hk2); have HS2 := Lib.hid (HbA.out.kp hk2 (by have := HbA.out.ne_ HRa.out.blk (by decide); simpa using this)); have b0 : w2.cell? ⟨w.heap.size, 0, none⟩ = some (.int .i64 s.k) := (by rw [HS2.out.cell 0]; rfl); obtain ⟨k0, k1, k2, kf1, kf2⟩ := hR2.cells; obtain ⟨g0, g1, gf0, gf1⟩ := HG2.out.cells; have HR2 := Lib.hid hR2; have HZ2 : Hid (gbase ≤ w2.heap.size) := Nat.le_trans hgz HK2.out.size; have hnb : (er != 0) = true := (by simp [hne]); have HNE := Lib.hid hne; clear hk2 hR2 hne)
              refine bodyPost_ret (results_none rfl _ _ _) rfl ?_
              exact OneE.no HK2.out HG2.out HR2.out HNE.out HST.out
        ·
          by_cases k5 : s.k = 5
          · as_aux_lemma =>
              have n1 : (s.k == 1) = false := by simp [k1]
              have n2 : (s.k == 2) = false := by simp [k2]
              have n3 : (s.k == 3) = false := by simp [k3]
              have n4 : (s.k == 4) = false := by simp [k4]
              have n5 : (s.k == 5) = true := by simp [k5]
              have hT := dBuf base R A c l p wa s.most HRa.out hzb
              rcases hres : gBuf s.most l p with ⟨x, q⟩ | ⟨er, q⟩
              · rw [hres] at hT
                have HT := Lib.hid hT
                have HST : Hid (stepR s l p = .inl (([], [x]), q)) := by unfold Hid; simp [stepR, k5, Rg.map, hres]
                clear hT hres k1 k2 k3 k4 k5
                go_enter Tryd.func50, Tryd.ntmps50
                go_wp2_with (first | (go_at_call 69; (with_reducible refine (HT.out).mono ?_); rintro e w2 ⟨⟨v, rfl, A', c', rfl, ho⟩, hk2, hR2⟩; have HK2 : Hid (Kp [R] w w2) := HKA.out.trans hk2; have HG2 := Lib.hid (HGa.out.kpR HRa.out hk2); have HS2 := Lib.hid (HbA.out.kp hk2 (by have := HbA.out.ne_ HRa.out.blk (by decide); simpa using this)); have b0 : w2.cell? ⟨w.heap.size, 0, none⟩ = some (.int .i64 s.k) := (by rw [HS2.out.cell 0]; rfl); obtain ⟨k0, k1, k2, kf1, kf2⟩ := hR2.cells; obtain ⟨g0, g1, gf0, gf1⟩ := HG2.out.cells; have HR2 := Lib.hid hR2; have HZ2 : Hid (gbase ≤ w2.heap.size) := Nat.le_trans hgz HK2.out.size; have hcv := run_string_of_bytes (P := Tryd.prog) (w := w2) (src := 22) (e := 5) Tryd.underlying22 Tryd.underlying5 (Reads.of_own ho) (c := c') 9 Tryd.underlying9; clear ho; clear hk2 hR2) | (at_builtin; refine wpList_append_any _ rfl (.tmp 82) (.tmp 84) _ rfl gbase 9 j0 _ 1 16 Tryd.underlying26 hj0 hy0 hy1 hy2 rfl (by decide) vT T.length (scells T) rfl (World.ownsRow.alloc HG2.out.txts _) (w2.heap.size + 1) (some ⟨w2.heap.size, 0, none⟩) 1 1 [.string ⟨x.toArray⟩] rfl (reads_lit w2 9 [_]) (by simp [Value.oneCell']) (by simp only [maxLen]; omega) (by omega) (by have := HZ2.out; simp; omega) ?_; intro v3 w3 ho3 hg3 hat3; have hb3 := (HG2.out.later ((Below.refl _ _).alloc (Nat.le_refl _) _)).gT hg3; have q0 : w3.cell? ⟨gb, 1, none⟩ = some vT := (by rw [hb3.cell 1]; rfl); have qf := hb3.frozen 1; have HE3 := Lib.hid (OneE.txt HK2.out HG2.out HR2.out HST.out hbg hgb ho3 hg3); obtain ⟨A3, c3, rfl⟩ := slice_form ho3; clear hb3 ho3 hg3 hat3))
                go_end0
                exact HE3.out
              · rw [hres] at hT
                have HT := Lib.hid hT
                have HST : Hid (stepR s l p = .inr (er, q)) := by unfold Hid; simp [stepR, k5, Rg.map, gByte, hres]
                clear hT hres k1 k2 k3 k4 k5
                go_enter Tryd.func50, Tryd.ntmps50
                go_wp2_with (go_at_call 69; (with_reducible refine (HT.out).mono ?_); rintro e w2 ⟨rfl, hne, hk2, hR2⟩; have HK2 : Hid (Kp [R] w w2) := HKA.out.trans hk2; have HG2 := Lib.hid (HGa.out.kpR HRa.out hk2); have HS2 := Lib.hid (HbA.out.kp hk2 (by have := HbA.out.ne_ HRa.out.blk (by decide); simpa using this)); have b0 : w2.cell? ⟨w.heap.size, 0, none⟩ = some (.int .i64 s.k) := (by rw [HS2.out.cell 0]; rfl); obtain ⟨k0, k1, k2, kf1, kf2⟩ := hR2.cells; obtain ⟨g0, g1, gf0, gf1⟩ := HG2.out.cells; have HR2 := Lib.hid hR2; have HZ2 : Hid (gbase ≤ w2.heap.size) := Nat.le_trans hgz HK2.out.size; have hcv := run_string_of_bytes (P := Tryd.prog) (w := w2) (src := 22) (e := 5) Tryd.underlying22 Tryd.underlying5 (B := 0) (A := none) (n := 0) (l := []) (reads_zero _ _ _) (c := 0) 9 Tryd.underlying9; have hnb : (er != 0) = true := (by simp [hne]); have HNE := Lib.hid hne; clear hk2 hR2 hne)
                refine bodyPost_ret (results_none rfl _ _ _) rfl ?_
                exact OneE.no HK2.out HG2.out HR2.out HNE.out HST.out
          ·
            by_cases k6 : s.k = 6
            · as_aux_lemma =>
                have n1 : (s.k == 1) = false := by simp [k1]
                have n2 : (s.k == 2) = false := by simp [k2]
                have n3 : (s.k == 3) = false := by simp [k3]
                have n4 : (s.k == 4) = false := by simp [k4]
                have n5 : (s.k == 5) = false := by simp [k5]
                have n6 : (s.k == 6) = true := by simp [k6]
                have hT := dText base R A c l p wa s.most HRa.out hzb
                rcases hres : gText s.most l p with ⟨x, q⟩ | ⟨er, q⟩
                · rw [hres] at hT
                  have HT := Lib.hid hT
                  have HST : Hid (stepR s l p = .inl (([], [x]), q)) := by unfold Hid; simp [stepR, k6, Rg.map, hres]
                  clear hT hres k1 k2 k3 k4 k5 k6
                  go_enter Tryd.func50, Tryd.ntmps50
                  go_wp2_with (first | (go_at_call 70; (with_reducible refine (HT.out).mono ?_); rintro e w2 ⟨⟨v, rfl, rfl⟩, hk2, hR2⟩; have HK2 : Hid (Kp [R] w w2) := HKA.out.trans hk2; have HG2 := Lib.hid (HGa.out.kpR HRa.out hk2); have HS2 := Lib.hid (HbA.out.kp hk2 (by have := HbA.out.ne_ HRa.out.blk (by decide); simpa using this)); have b0 : w2.cell? ⟨w.heap.size, 0, none⟩ = some (.int .i64 s.k) := (by rw [HS2.out.cell 0]; rfl); obtain ⟨k0, k1, k2, kf1, kf2⟩ := hR2.cells; obtain ⟨g0, g1, gf0, gf1⟩ := HG2.out.cells; have HR2 := Lib.hid hR2; have HZ2 : Hid (gbase ≤ w2.heap.size) := Nat.le_trans hgz HK2.out.size; clear hk2 hR2) | (at_builtin; refine wpList_append_any _ rfl (.tmp 82) (.tmp 84) _ rfl gbase 9 j0 _ 1 16 Tryd.underlying26 hj0 hy0 hy1 hy2 rfl (by decide) vT T.length (scells T) rfl (World.ownsRow.alloc HG2.out.txts _) (w2.heap.size + 1) (some ⟨w2.heap.size, 0, none⟩) 1 1 [.string ⟨x.toArray⟩] rfl (reads_lit w2 9 [_]) (by simp [Value.oneCell']) (by simp only [maxLen]; omega) (by omega) (by have := HZ2.out; simp; omega) ?_; intro v3 w3 ho3 hg3 hat3; have hb3 := (HG2.out.later ((Below.refl _ _).alloc (Nat.le_refl _) _)).gT hg3; have q0 : w3.cell? ⟨gb, 1, none⟩ = some vT := (by rw [hb3.cell 1]; rfl); have qf := hb3.frozen 1; have HE3 := Lib.hid (OneE.txt HK2.out HG2.out HR2.out HST.out hbg hgb ho3 hg3); obtain ⟨A3, c3, rfl⟩ := slice_form ho3; clear hb3 ho3 hg3 hat3))
                  go_end0
                  exact HE3.out
                · rw [hres] at hT
                  have HT := Lib.hid hT
                  have HST : Hid (stepR s l p = .inr (er, q)) := by unfold Hid; simp [stepR, k6, Rg.map, gByte, hres]
                  clear hT hres k1 k2 k3 k4 k5 k6
                  go_enter Tryd.func50, Tryd.ntmps50
                  go_wp2_with (go_at_call 70; (with_reducible refine (HT.out).mono ?_); rintro e w2 ⟨rfl, hne, hk2, hR2⟩; have HK2 : Hid (Kp [R] w w2) := HKA.out.trans hk2; have HG2 := Lib.hid (HGa.out.kpR HRa.out hk2); have HS2 := Lib.hid (HbA.out.kp hk2 (by have := HbA.out.ne_ HRa.out.blk (by decide); simpa using this)); have b0 : w2.cell? ⟨w.heap.size, 0, none⟩ = some (.int .i64 s.k) := (by rw [HS2.out.cell 0]; rfl); obtain ⟨k0, k1, k2, kf1, kf2⟩ := hR2.cells; obtain ⟨g0, g1, gf0, gf1⟩ := HG2.out.cells; have HR2 := Lib.hid hR2; have HZ2 : Hid (gbase ≤ w2.heap.size) := Nat.le_trans hgz HK2.out.size; have hnb : (er != 0) = true := (by simp [hne]); have HNE := Lib.hid hne; clear hk2 hR2 hne)
                  refine bodyPost_ret (results_none rfl _ _ _) rfl ?_
                  exact OneE.no HK2.out HG2.out HR2.out HNE.out HST.out
            ·
              by_cases k7 : s.k = 7
              · as_aux_lemma =>
                  have n1 : (s.k == 1) = false := by simp [k1]
                  have n2 : (s.k == 2) = false := by simp [k2]
                  have n3 : (s.k == 3) = false := by simp [k3]
                  have n4 : (s.k == 4) = false := by simp [k4]
                  have n5 : (s.k == 5) = false := by simp [k5]
                  have n6 : (s.k == 6) = false := by simp [k6]
                  have n7 : (s.k == 7) = true := by simp [k7]
                  have hT := dCount base R A c l p wa s.most s.least HRa.out
                  rcases hres : gCount s.most s.least l p with ⟨n, q⟩ | ⟨er, q⟩
                  · rw [hres] at hT
                    have HT := Lib.hid hT
                    have HST : Hid (stepR s l p = .inl (([(n : Int)], []), q)) := by unfold Hid; simp [stepR, k7, Rg.map, gByte, hres]
                    clear hT hres k1 k2 k3 k4 k5 k6 k7
                    go_enter Tryd.func50, Tryd.ntmps50
                    go_wp2_with (first | (go_at_call 71; (with_reducible refine (HT.out).mono ?_); rintro e w2 ⟨⟨v, rfl, rfl⟩, hk2, hR2⟩; have HK2 : Hid (Kp [R] w w2) := HKA.out.trans hk2; have HG2 := Lib.hid (HGa.out.kpR HRa.out hk2); have HS2 := Lib.hid (HbA.out.kp hk2 (by have := HbA.out.ne_ HRa.out.blk (by decide); simpa using this)); have b0 : w2.cell? ⟨w.heap.size, 0, none⟩ = some (.int .i64 s.k) := (by rw [HS2.out.cell 0]; rfl); obtain ⟨k0, k1, k2, kf1, kf2⟩ := hR2.cells; obtain ⟨g0, g1, gf0, gf1⟩ := HG2.out.cells; have HR2 := Lib.hid hR2; have HZ2 : Hid (gbase ≤ w2.heap.size) := Nat.le_trans hgz HK2.out.size; clear hk2 hR2) | (at_builtin; refine wpList_append_any _ rfl (.tmp 92) (.tmp 94) _ rfl gbase 2 i0 _ 1 8 Tryd.underlying25 hi0 hz0 hz1 hz2 rfl (by decide) vN N.length (icells N) rfl (World.ownsRow.alloc HG2.out.nums _) (w2.heap.size + 1) (some ⟨w2.heap.size, 0, none⟩) 1 1 (icells [(n : Int)]) rfl (reads_lit w2 2 [_]) (icells_one _) (by simp only [maxLen]; omega) (by omega) (by have := HZ2.out; simp; omega) ?_; intro v3 w3 ho3 hg3 hat3; have hb3 := (HG2.out.later ((Below.refl _ _).alloc (Nat.le_refl _) _)).gN hg3; have q0 : w3.cell? ⟨gb, 0, none⟩ = some vN := (by rw [hb3.cell 0]; rfl); have qf := hb3.frozen 0; have HE3 := Lib.hid (OneE.num HK2.out HG2.out HR2.out HST.out hbg hgb ho3 hg3); obtain ⟨A3, c3, rfl⟩ := slice_form ho3; clear hb3 ho3 hg3 hat3))
                    go_end0
                    exact HE3.out
                  · rw [hres] at hT
                    have HT := Lib.hid hT
                    have HST : Hid (stepR s l p = .inr (er, q)) := by unfold Hid; simp [stepR, k7, Rg.map, gByte, hres]
                    clear hT hres k1 k2 k3 k4 k5 k6 k7
                    go_enter Tryd.func50, Tryd.ntmps50
                    go_wp2_with (go_at_call 71; (with_reducible refine (HT.out).mono ?_); rintro e w2 ⟨rfl, hne, hk2, hR2⟩; have HK2 : Hid (Kp [R] w w2) := HKA.out.trans hk2; have HG2 := Lib.hid (HGa.out.kpR HRa.out hk2); have HS2 := Lib.hid (HbA.out.kp hk2 (by have := HbA.out.ne_ HRa.out.blk (by decide); simpa using this)); have b0 : w2.cell? ⟨w.heap.size, 0, none⟩ = some (.int .i64 s.k) := (by rw [HS2.out.cell 0]; rfl); obtain ⟨k0, k1, k2, kf1, kf2⟩ := hR2.cells; obtain ⟨g0, g1, gf0, gf1⟩ := HG2.out.cells; have HR2 := Lib.hid hR2; have HZ2 : Hid (gbase ≤ w2.heap.size) := Nat.le_trans hgz HK2.out.size; have hnb : (er != 0) = true := (by simp [hne]); have HNE := Lib.hid hne; clear hk2 hR2 hne)
                    refine bodyPost_ret (results_none rfl _ _ _) rfl ?_
                    exact OneE.no HK2.out HG2.out HR2.out HNE.out HST.out
              ·
                by_cases k8 : s.k = 8
                · as_aux_lemma =>
                    have n1 : (s.k == 1) = false := by simp [k1]
                    have n2 : (s.k == 2) = false := by simp [k2]
                    have n3 : (s.k == 3) = false := by simp [k3]
                    have n4 : (s.k == 4) = false := by simp [k4]
                    have n5 : (s.k == 5) = false := by simp [k5]
                    have n6 : (s.k == 6) = false := by simp [k6]
                    have n7 : (s.k == 7) = false := by simp [k7]
                    have n8 : (s.k == 8) = true := by simp [k8]
                    have HT := Lib.hid (list_any base gbase R gb A c l p vN vT N T s wa k8 HRa.out HGa.out hbg hgb (Nat.le_trans hgz HBA.out.size) hNl hTl)
                    clear k1 k2 k3 k4 k5 k6 k7 k8
                    go_enter Tryd.func50, Tryd.ntmps50
                    go_wp2_with (go_at_call 72; (with_reducible refine (HT.out).mono ?_); rintro e w2 h2; have H2 := Lib.hid h2; obtain rfl := h2.1; clear h2)
                    refine bodyPost_ret (results_none rfl _ _ _) rfl ?_
                    exact OneE.from_ HKA.out H2.out
                ·
                  by_cases k9 : s.k = 9
                  · as_aux_lemma =>
                      have n1 : (s.k == 1) = false := by simp [k1]
                      have n2 : (s.k == 2) = false := by simp [k2]
                      have n3 : (s.k == 3) = false := by simp [k3]
                      have n4 : (s.k == 4) = false := by simp [k4]
                      have n5 : (s.k == 5) = false := by simp [k5]
                      have n6 : (s.k == 6) = false := by simp [k6]
                      have n7 : (s.k == 7) = false := by simp [k7]
                      have n8 : (s.k == 8) = false := by simp [k8]
                      have n9 : (s.k == 9) = true := by simp [k9]
                      have hT := dLeft base R A c l p wa HRa.out
                      rcases hres : gLeft l p with ⟨z, q⟩ | ⟨er, q⟩
                      · rw [hres] at hT
                        have HT := Lib.hid hT
                        have HST : Hid (stepR s l p = .inl (([z], []), q)) := by unfold Hid; simp [stepR, k9, Rg.map, gByte, hres]
                        clear hT hres k1 k2 k3 k4 k5 k6 k7 k8 k9
                        go_enter Tryd.func50, Tryd.ntmps50
                        go_wp2_with (first | (go_at_call 73; (with_reducible refine (HT.out).mono ?_); rintro e w2 ⟨⟨v, rfl, rfl⟩, hk2, hR2⟩; have HK2 : Hid (Kp [R] w w2) := HKA.out.trans hk2; have HG2 := Lib.hid (HGa.out.kpR HRa.out hk2); have HS2 := Lib.hid (HbA.out.kp hk2 (by have := HbA.out.ne_ HRa.out.blk (by decide); simpa using this)); have b0 : w2.cell? ⟨w.heap.size, 0, none⟩ = some (.int .i64 s.k) := (by rw [HS2.out.cell 0]; rfl); obtain ⟨k0, k1, k2, kf1, kf2⟩ := hR2.cells; obtain ⟨g0, g1, gf0, gf1⟩ := HG2.out.cells; have HR2 := Lib.hid hR2; have HZ2 : Hid (gbase ≤ w2.heap.size) := Nat.le_trans hgz HK2.out.size; clear hk2 hR2) | (at_builtin; refine wpList_append_any _ rfl (.tmp 92) (.tmp 94) _ rfl gbase 2 i0 _ 1 8 Tryd.underlying25 hi0 hz0 hz1 hz2 rfl (by decide) vN N.length (icells N) rfl (World.ownsRow.alloc HG2.out.nums _) (w2.heap.size + 1) (some ⟨w2.heap.size, 0, none⟩) 1 1 (icells [z]) rfl (reads_lit w2 2 [_]) (icells_one _) (by simp only [maxLen]; omega) (by omega) (by have := HZ2.out; simp; omega) ?_; intro v3 w3 ho3 hg3 hat3; have hb3 := (HG2.out.later ((Below.refl _ _).alloc (Nat.le_refl _) _)).gN hg3; have q0 : w3.cell? ⟨gb, 0, none⟩ = some vN := (by rw [hb3.cell 0]; rfl); have qf := hb3.frozen 0; have HE3 := Lib.hid (OneE.num HK2.out HG2.out HR2.out HST.out hbg hgb ho3 hg3); obtain ⟨A3, c3, rfl⟩ := slice_form ho3; clear hb3 ho3 hg3 hat3))
                        go_end0
                        exact HE3.out
                      · cases hres
                  ·
                    by_cases k10 : s.k = 10
                    · as_aux_lemma =>
                        have n1 : (s.k == 1) = false := by simp [k1]
                        have n2 : (s.k == 2) = false := by simp [k2]
                        have n3 : (s.k == 3) = false := by simp [k3]
                        have n4 : (s.k == 4) = false := by simp [k4]
                        have n5 : (s.k == 5) = false := by simp [k5]
                        have n6 : (s.k == 6) = false := by simp [k6]
                        have n7 : (s.k == 7) = false := by simp [k7]
                        have n8 : (s.k == 8) = false := by simp [k8]
                        have n9 : (s.k == 9) = false := by simp [k9]
                        have n10 : (s.k == 10) = true := by simp [k10]
                        by_cases hz : s.n = 0
                        · have HST : Hid (stepR s l p = .inl (([], []), p)) := by unfold Hid; simp [stepR, k10, Rg.map, gFail, hz]
                          have HT := Lib.hid (dFailU base R A c l p wa s.n HRa.out)
                          have HZ := Lib.hid hz
                          clear hz k1 k2 k3 k4 k5 k6 k7 k8 k9 k10
                          go_enter Tryd.func50, Tryd.ntmps50
                          go_wp2_with (go_at_call 74; (with_reducible refine (HT.out).mono ?_); rintro e w2 ⟨rfl, hk2, hR2⟩; have HK2 : Hid (Kp [R] w w2) := HKA.out.trans hk2; have HG2 := Lib.hid (HGa.out.kpR HRa.out hk2); have HS2 := Lib.hid (HbA.out.kp hk2 (by have := HbA.out.ne_ HRa.out.blk (by decide); simpa using this)); have b0 : w2.cell? ⟨w.heap.size, 0, none⟩ = some (.int .i64 s.k) := (by rw [HS2.out.cell 0]; rfl); obtain ⟨k0, k1, k2, kf1, kf2⟩ := hR2.cells; obtain ⟨g0, g1, gf0, gf1⟩ := HG2.out.cells; have HR2 := Lib.hid hR2; have HZ2 : Hid (gbase ≤ w2.heap.size) := Nat.le_trans hgz HK2.out.size; clear hk2 hR2)
                          refine bodyPost_ret (results_none rfl _ _ _) rfl ?_
                          exact OneE.skip HK2.out HG2.out (by have h := HR2.out; rw [HZ.out] at h; exact h) HST.out
                        · have HST : Hid (stepR s l p = .inr (s.n, p)) := by unfold Hid; simp [stepR, k10, Rg.map, gFail, hz]
                          have HT := Lib.hid (dFailU base R A c l p wa s.n HRa.out)
                          have HNE := Lib.hid hz
                          clear hz k1 k2 k3 k4 k5 k6 k7 k8 k9 k10
                          go_enter Tryd.func50, Tryd.ntmps50
                          go_wp2_with (go_at_call 74; (with_reducible refine (HT.out).mono ?_); rintro e w2 ⟨rfl, hk2, hR2⟩; have HK2 : Hid (Kp [R] w w2) := HKA.out.trans hk2; have HG2 := Lib.hid (HGa.out.kpR HRa.out hk2); have HS2 := Lib.hid (HbA.out.kp hk2 (by have := HbA.out.ne_ HRa.out.blk (by decide); simpa using this)); have b0 : w2.cell? ⟨w.heap.size, 0, none⟩ = some (.int .i64 s.k) := (by rw [HS2.out.cell 0]; rfl); obtain ⟨k0, k1, k2, kf1, kf2⟩ := hR2.cells; obtain ⟨g0, g1, gf0, gf1⟩ := HG2.out.cells; have HR2 := Lib.hid hR2; have HZ2 : Hid (gbase ≤ w2.heap.size) := Nat.le_trans hgz HK2.out.size; clear hk2 hR2)
                          refine bodyPost_ret (results_none rfl _ _ _) rfl ?_
                          exact OneE.no HK2.out HG2.out HR2.out HNE.out HST.out
                    ·
                      as_aux_lemma =>
                        have n1 : (s.k == 1) = false := by simp [k1]
                        have n2 : (s.k == 2) = false := by simp [k2]
                        have n3 : (s.k == 3) = false := by simp [k3]
                        have n4 : (s.k == 4) = false := by simp [k4]
                        have n5 : (s.k == 5) = false := by simp [k5]
                        have n6 : (s.k == 6) = false := by simp [k6]
                        have n7 : (s.k == 7) = false := by simp [k7]
                        have n8 : (s.k == 8) = false := by simp [k8]
                        have n9 : (s.k == 9) = false := by simp [k9]
                        have n10 : (s.k == 10) = false := by simp [k10]
                        have HST : Hid (stepR s l p = .inl (([], []), p)) := by unfold Hid; simp [stepR, Rg.ret, k1, k2, k3, k4, k5, k6, k7, k8, k9, k10]
                        clear k1 k2 k3 k4 k5 k6 k7 k8 k9 k10
                        go_enter Tryd.func50, Tryd.ntmps50
                        go_wp2
                        refine bodyPost_ret (results_none rfl _ _ _) rfl ?_
                        exact OneE.skip HKA.out HGa.out HRa.out HST.out
end Go.Proofs.YtbegingiedbldaaDoor
