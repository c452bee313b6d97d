/- Are two nodes the same: the program's walk and the document's. (printed by gen_n7.py) -/
import Derived.Test.YtaojjjcaofhmcaaDoorSq
set_option linter.unusedVariables false
set_option linter.unusedSimpArgs false
namespace Go.Proofs.YtaojjjcaofhmcaaDoor
open Go.RowKit


set_option maxRecDepth 100000 in
set_option maxHeartbeats 8000000 in
theorem same_any (p : ByteArray) (o cz mz pz az qz ct mt ve cr av : Int) (qh : Bool) (qc qb : Int) (dA : Option Addr) (dn dc : Nat) (aA : Option Addr) (an ac : Nat) (l : List UInt8) (L : List AclT) (B : Nat) (p' : ByteArray) (o' cz' mz' pz' az' qz' ct' mt' ve' cr' av' : Int) (qh' : Bool) (qc' qb' : Int) (dA' : Option Addr) (dn' dc' : Nat) (aA' : Option Addr) (an' ac' : Nat) (l' : List UInt8) (L' : List AclT) (B' : Nat) (w : World) (hB : B ≤ w.heap.size) (hd : Reads w B 1 dA dn (bcells l)) (ha : Reads w B 3 aA an (aclCells L)) (hn : an ≤ 9223372036854775807) (hB' : B' ≤ w.heap.size) (hd' : Reads w B' 1 dA' dn' (bcells l')) (ha' : Reads w B' 3 aA' an' (aclCells L')) (hn' : an' ≤ 9223372036854775807) :
    Calls Tryd.prog 20 #[.agg #[.string p, .slice dA dn dc, .slice aA an ac, .int .i64 o, .int .i64 cz, .int .i64 mz, .int .i64 pz, .int .i64 az, .int .i64 qz, .int .i64 ct, .int .i64 mt, .int .i32 ve, .int .i32 cr, .int .i32 av, .bool qh, .int .i64 qc, .int .i64 qb], .agg #[.string p', .slice dA' dn' dc', .slice aA' an' ac', .int .i64 o', .int .i64 cz', .int .i64 mz', .int .i64 pz', .int .i64 az', .int .i64 qz', .int .i64 ct', .int .i64 mt', .int .i32 ve', .int .i32 cr', .int .i32 av', .bool qh', .int .i64 qc', .int .i64 qb']] w fun e w' => e = .returned (.bool (decide ((⟨p, o, cz, mz, pz, az, qz, ct, mt, ve, cr, av, qh, qc, qb, l, L⟩ : Nd) = (⟨p', o', cz', mz', pz', az', qz', ct', mt', ve', cr', av', qh', qc', qb', l', L'⟩ : Nd)))) ∧ Below w.heap.size w w' := by
  obtain ⟨w1, hw1⟩ : ∃ w1, w.alloc (.cells #[.string p, .slice dA dn dc, .slice aA an ac, .int .i64 o, .int .i64 cz, .int .i64 mz, .int .i64 pz, .int .i64 az, .int .i64 qz, .int .i64 ct, .int .i64 mt, .int .i32 ve, .int .i32 cr, .int .i32 av, .bool qh, .int .i64 qc, .int .i64 qb] 32) = w1 := ⟨_, rfl⟩
  obtain ⟨w2, hw2⟩ : ∃ w2, w1.alloc (.cells #[.string p', .slice dA' dn' dc', .slice aA' an' ac', .int .i64 o', .int .i64 cz', .int .i64 mz', .int .i64 pz', .int .i64 az', .int .i64 qz', .int .i64 ct', .int .i64 mt', .int .i32 ve', .int .i32 cr', .int .i32 av', .bool qh', .int .i64 qc', .int .i64 qb'] 32) = w2 := ⟨_, rfl⟩
  have hz1 : w1.heap.size = w.heap.size + 1 := by rw [← hw1]; simp
  have hz2 : w2.heap.size = w.heap.size + 2 := by rw [← hw2]; simp [hz1]
  have hb1 : Below w.heap.size w w1 := by rw [← hw1]; exact (Below.refl _ _).alloc (Nat.le_refl _) _
  have hb2 : Below w.heap.size w w2 := by rw [← hw2]; exact hb1.alloc (by omega) _
  have hS1 : Blk w2 w.heap.size 32 #[.string p, .slice dA dn dc, .slice aA an ac, .int .i64 o, .int .i64 cz, .int .i64 mz, .int .i64 pz, .int .i64 az, .int .i64 qz, .int .i64 ct, .int .i64 mt, .int .i32 ve, .int .i32 cr, .int .i32 av, .bool qh, .int .i64 qc, .int .i64 qb] := by rw [← hw2, ← hw1]; exact (Blk.new _ _ _).alloc _
  have hS2 : Blk w2 (w.heap.size + 1) 32 #[.string p', .slice dA' dn' dc', .slice aA' an' ac', .int .i64 o', .int .i64 cz', .int .i64 mz', .int .i64 pz', .int .i64 az', .int .i64 qz', .int .i64 ct', .int .i64 mt', .int .i32 ve', .int .i32 cr', .int .i32 av', .bool qh', .int .i64 qc', .int .i64 qb'] := by rw [← hw2]; exact Blk.new' hz1.symm
  have HS1 : Hid (∀ W, Below w2.heap.size w2 W → ∀ i, W.cell? ⟨w.heap.size, i, none⟩ = #[.string p, .slice dA dn dc, .slice aA an ac, .int .i64 o, .int .i64 cz, .int .i64 mz, .int .i64 pz, .int .i64 az, .int .i64 qz, .int .i64 ct, .int .i64 mt, .int .i32 ve, .int .i32 cr, .int .i32 av, .bool qh, .int .i64 qc, .int .i64 qb][i]?) := fun W h => (hS1.below h (by omega)).cell
  have HS2 : Hid (∀ W, Below w2.heap.size w2 W → ∀ i, W.cell? ⟨w.heap.size + 1, i, none⟩ = #[.string p', .slice dA' dn' dc', .slice aA' an' ac', .int .i64 o', .int .i64 cz', .int .i64 mz', .int .i64 pz', .int .i64 az', .int .i64 qz', .int .i64 ct', .int .i64 mt', .int .i32 ve', .int .i32 cr', .int .i32 av', .bool qh', .int .i64 qc', .int .i64 qb'][i]?) := fun W h => (hS2.below h (by omega)).cell
  have HFIN : Hid (∀ W, Below w2.heap.size w2 W → Below w.heap.size w W) := fun W h => hb2.trans (h.mono hb2.size)
  have c1 := bytesEq_any dA dn dc B l dA' dn' dc' B' l' w2 (hd.below (hb2.mono hB)) (hd'.below (hb2.mono hB'))
  have c2 : Hid (∀ W, Below w2.heap.size w2 W → Calls Tryd.prog 60 #[.slice aA an ac, .slice aA' an' ac'] W fun e w' => e = .returned (.bool (decide (L = L'))) ∧ Below W.heap.size W w') := fun W h => aclsEq_any aA aA' an an' ac ac' L L' (max B B') W hn hn' (Nat.le_trans (Nat.max_le.2 ⟨hB, hB'⟩) (HFIN.out W h).size) ((ha.below ((HFIN.out W h).mono hB)).more (Nat.le_max_left _ _)) ((ha'.below ((HFIN.out W h).mono hB')).more (Nat.le_max_right _ _))
  have D1 := Lib.hid c1
  clear c1
  have k1 := HS1.out w2 (Below.refl _ _)
  have k2 := HS2.out w2 (Below.refl _ _)
  have HB2 : Hid (Below w2.heap.size w2 w2) := Below.refl _ _
  clear hb1 hb2 hS1 hS2 hd ha hd' ha' hB hB' hn hn'

  by_cases e0 : l = l'
  rotate_left
  · rw [decide_eq_false e0] at D1
    as_aux_lemma =>
      go_enter Tryd.func20, Tryd.ntmps20
      go_wp2_with (first
        | (go_at_call 59; (with_reducible refine D1.out.mono ?_); rintro e w3 ⟨rfl, hb⟩; have HB3 := Lib.hid hb; have k1 := HS1.out w3 hb; have k2 := HS2.out w3 hb; clear hb)
        | (go_at_call 60; (with_reducible refine (c2.out w3 HB3.out).mono ?_); rintro e w4 ⟨rfl, hb⟩; have HB4 : Hid (Below w2.heap.size w2 w4) := HB3.out.trans (hb.mono HB3.out.size); have k1 := HS1.out w4 HB4.out; have k2 := HS2.out w4 HB4.out; clear hb))
      go_ret
      exact ⟨by simp [e0], HFIN.out _ (by first | exact HB4.out | exact HB3.out | exact HB2.out)⟩
  rw [decide_eq_true e0] at D1
  subst e0
  by_cases e1 : L = L'
  rotate_left
  · rw [decide_eq_false e1] at c2
    as_aux_lemma =>
      go_enter Tryd.func20, Tryd.ntmps20
      go_wp2_with (first
        | (go_at_call 59; (with_reducible refine D1.out.mono ?_); rintro e w3 ⟨rfl, hb⟩; have HB3 := Lib.hid hb; have k1 := HS1.out w3 hb; have k2 := HS2.out w3 hb; clear hb)
        | (go_at_call 60; (with_reducible refine (c2.out w3 HB3.out).mono ?_); rintro e w4 ⟨rfl, hb⟩; have HB4 : Hid (Below w2.heap.size w2 w4) := HB3.out.trans (hb.mono HB3.out.size); have k1 := HS1.out w4 HB4.out; have k2 := HS2.out w4 HB4.out; clear hb))
      go_ret
      exact ⟨by simp [e1], HFIN.out _ (by first | exact HB4.out | exact HB3.out | exact HB2.out)⟩
  rw [decide_eq_true e1] at c2
  subst e1
  by_cases e2 : p = p'
  rotate_left
  · have e2' : ¬ p.toList = p'.toList := fun e => e2 ((toL_iff _ _).1 e)
    as_aux_lemma =>
      go_enter Tryd.func20, Tryd.ntmps20
      go_wp2_with (first
        | (go_at_call 59; (with_reducible refine D1.out.mono ?_); rintro e w3 ⟨rfl, hb⟩; have HB3 := Lib.hid hb; have k1 := HS1.out w3 hb; have k2 := HS2.out w3 hb; clear hb)
        | (go_at_call 60; (with_reducible refine (c2.out w3 HB3.out).mono ?_); rintro e w4 ⟨rfl, hb⟩; have HB4 : Hid (Below w2.heap.size w2 w4) := HB3.out.trans (hb.mono HB3.out.size); have k1 := HS1.out w4 HB4.out; have k2 := HS2.out w4 HB4.out; clear hb))
      go_ret
      exact ⟨by simp [e2], HFIN.out _ (by first | exact HB4.out | exact HB3.out | exact HB2.out)⟩
  subst e2
  by_cases eo : o = o'
  rotate_left
  · skip
    as_aux_lemma =>
      go_enter Tryd.func20, Tryd.ntmps20
      go_wp2_with (first
        | (go_at_call 59; (with_reducible refine D1.out.mono ?_); rintro e w3 ⟨rfl, hb⟩; have HB3 := Lib.hid hb; have k1 := HS1.out w3 hb; have k2 := HS2.out w3 hb; clear hb)
        | (go_at_call 60; (with_reducible refine (c2.out w3 HB3.out).mono ?_); rintro e w4 ⟨rfl, hb⟩; have HB4 : Hid (Below w2.heap.size w2 w4) := HB3.out.trans (hb.mono HB3.out.size); have k1 := HS1.out w4 HB4.out; have k2 := HS2.out w4 HB4.out; clear hb))
      go_ret
      exact ⟨by simp [eo], HFIN.out _ (by first | exact HB4.out | exact HB3.out | exact HB2.out)⟩
  subst eo
  by_cases ecz : cz = cz'
  rotate_left
  · skip
    as_aux_lemma =>
      go_enter Tryd.func20, Tryd.ntmps20
      go_wp2_with (first
        | (go_at_call 59; (with_reducible refine D1.out.mono ?_); rintro e w3 ⟨rfl, hb⟩; have HB3 := Lib.hid hb; have k1 := HS1.out w3 hb; have k2 := HS2.out w3 hb; clear hb)
        | (go_at_call 60; (with_reducible refine (c2.out w3 HB3.out).mono ?_); rintro e w4 ⟨rfl, hb⟩; have HB4 : Hid (Below w2.heap.size w2 w4) := HB3.out.trans (hb.mono HB3.out.size); have k1 := HS1.out w4 HB4.out; have k2 := HS2.out w4 HB4.out; clear hb))
      go_ret
      exact ⟨by simp [ecz], HFIN.out _ (by first | exact HB4.out | exact HB3.out | exact HB2.out)⟩
  subst ecz
  by_cases emz : mz = mz'
  rotate_left
  · skip
    as_aux_lemma =>
      go_enter Tryd.func20, Tryd.ntmps20
      go_wp2_with (first
        | (go_at_call 59; (with_reducible refine D1.out.mono ?_); rintro e w3 ⟨rfl, hb⟩; have HB3 := Lib.hid hb; have k1 := HS1.out w3 hb; have k2 := HS2.out w3 hb; clear hb)
        | (go_at_call 60; (with_reducible refine (c2.out w3 HB3.out).mono ?_); rintro e w4 ⟨rfl, hb⟩; have HB4 : Hid (Below w2.heap.size w2 w4) := HB3.out.trans (hb.mono HB3.out.size); have k1 := HS1.out w4 HB4.out; have k2 := HS2.out w4 HB4.out; clear hb))
      go_ret
      exact ⟨by simp [emz], HFIN.out _ (by first | exact HB4.out | exact HB3.out | exact HB2.out)⟩
  subst emz
  by_cases epz : pz = pz'
  rotate_left
  · skip
    as_aux_lemma =>
      go_enter Tryd.func20, Tryd.ntmps20
      go_wp2_with (first
        | (go_at_call 59; (with_reducible refine D1.out.mono ?_); rintro e w3 ⟨rfl, hb⟩; have HB3 := Lib.hid hb; have k1 := HS1.out w3 hb; have k2 := HS2.out w3 hb; clear hb)
        | (go_at_call 60; (with_reducible refine (c2.out w3 HB3.out).mono ?_); rintro e w4 ⟨rfl, hb⟩; have HB4 : Hid (Below w2.heap.size w2 w4) := HB3.out.trans (hb.mono HB3.out.size); have k1 := HS1.out w4 HB4.out; have k2 := HS2.out w4 HB4.out; clear hb))
      go_ret
      exact ⟨by simp [epz], HFIN.out _ (by first | exact HB4.out | exact HB3.out | exact HB2.out)⟩
  subst epz
  by_cases eaz : az = az'
  rotate_left
  · skip
    as_aux_lemma =>
      go_enter Tryd.func20, Tryd.ntmps20
      go_wp2_with (first
        | (go_at_call 59; (with_reducible refine D1.out.mono ?_); rintro e w3 ⟨rfl, hb⟩; have HB3 := Lib.hid hb; have k1 := HS1.out w3 hb; have k2 := HS2.out w3 hb; clear hb)
        | (go_at_call 60; (with_reducible refine (c2.out w3 HB3.out).mono ?_); rintro e w4 ⟨rfl, hb⟩; have HB4 : Hid (Below w2.heap.size w2 w4) := HB3.out.trans (hb.mono HB3.out.size); have k1 := HS1.out w4 HB4.out; have k2 := HS2.out w4 HB4.out; clear hb))
      go_ret
      exact ⟨by simp [eaz], HFIN.out _ (by first | exact HB4.out | exact HB3.out | exact HB2.out)⟩
  subst eaz
  by_cases eqz : qz = qz'
  rotate_left
  · skip
    as_aux_lemma =>
      go_enter Tryd.func20, Tryd.ntmps20
      go_wp2_with (first
        | (go_at_call 59; (with_reducible refine D1.out.mono ?_); rintro e w3 ⟨rfl, hb⟩; have HB3 := Lib.hid hb; have k1 := HS1.out w3 hb; have k2 := HS2.out w3 hb; clear hb)
        | (go_at_call 60; (with_reducible refine (c2.out w3 HB3.out).mono ?_); rintro e w4 ⟨rfl, hb⟩; have HB4 : Hid (Below w2.heap.size w2 w4) := HB3.out.trans (hb.mono HB3.out.size); have k1 := HS1.out w4 HB4.out; have k2 := HS2.out w4 HB4.out; clear hb))
      go_ret
      exact ⟨by simp [eqz], HFIN.out _ (by first | exact HB4.out | exact HB3.out | exact HB2.out)⟩
  subst eqz
  by_cases ect : ct = ct'
  rotate_left
  · skip
    as_aux_lemma =>
      go_enter Tryd.func20, Tryd.ntmps20
      go_wp2_with (first
        | (go_at_call 59; (with_reducible refine D1.out.mono ?_); rintro e w3 ⟨rfl, hb⟩; have HB3 := Lib.hid hb; have k1 := HS1.out w3 hb; have k2 := HS2.out w3 hb; clear hb)
        | (go_at_call 60; (with_reducible refine (c2.out w3 HB3.out).mono ?_); rintro e w4 ⟨rfl, hb⟩; have HB4 : Hid (Below w2.heap.size w2 w4) := HB3.out.trans (hb.mono HB3.out.size); have k1 := HS1.out w4 HB4.out; have k2 := HS2.out w4 HB4.out; clear hb))
      go_ret
      exact ⟨by simp [ect], HFIN.out _ (by first | exact HB4.out | exact HB3.out | exact HB2.out)⟩
  subst ect
  by_cases emt : mt = mt'
  rotate_left
  · skip
    as_aux_lemma =>
      go_enter Tryd.func20, Tryd.ntmps20
      go_wp2_with (first
        | (go_at_call 59; (with_reducible refine D1.out.mono ?_); rintro e w3 ⟨rfl, hb⟩; have HB3 := Lib.hid hb; have k1 := HS1.out w3 hb; have k2 := HS2.out w3 hb; clear hb)
        | (go_at_call 60; (with_reducible refine (c2.out w3 HB3.out).mono ?_); rintro e w4 ⟨rfl, hb⟩; have HB4 : Hid (Below w2.heap.size w2 w4) := HB3.out.trans (hb.mono HB3.out.size); have k1 := HS1.out w4 HB4.out; have k2 := HS2.out w4 HB4.out; clear hb))
      go_ret
      exact ⟨by simp [emt], HFIN.out _ (by first | exact HB4.out | exact HB3.out | exact HB2.out)⟩
  subst emt
  by_cases eve : ve = ve'
  rotate_left
  · skip
    as_aux_lemma =>
      go_enter Tryd.func20, Tryd.ntmps20
      go_wp2_with (first
        | (go_at_call 59; (with_reducible refine D1.out.mono ?_); rintro e w3 ⟨rfl, hb⟩; have HB3 := Lib.hid hb; have k1 := HS1.out w3 hb; have k2 := HS2.out w3 hb; clear hb)
        | (go_at_call 60; (with_reducible refine (c2.out w3 HB3.out).mono ?_); rintro e w4 ⟨rfl, hb⟩; have HB4 : Hid (Below w2.heap.size w2 w4) := HB3.out.trans (hb.mono HB3.out.size); have k1 := HS1.out w4 HB4.out; have k2 := HS2.out w4 HB4.out; clear hb))
      go_ret
      exact ⟨by simp [eve], HFIN.out _ (by first | exact HB4.out | exact HB3.out | exact HB2.out)⟩
  subst eve
  by_cases ecr : cr = cr'
  rotate_left
  · skip
    as_aux_lemma =>
      go_enter Tryd.func20, Tryd.ntmps20
      go_wp2_with (first
        | (go_at_call 59; (with_reducible refine D1.out.mono ?_); rintro e w3 ⟨rfl, hb⟩; have HB3 := Lib.hid hb; have k1 := HS1.out w3 hb; have k2 := HS2.out w3 hb; clear hb)
        | (go_at_call 60; (with_reducible refine (c2.out w3 HB3.out).mono ?_); rintro e w4 ⟨rfl, hb⟩; have HB4 : Hid (Below w2.heap.size w2 w4) := HB3.out.trans (hb.mono HB3.out.size); have k1 := HS1.out w4 HB4.out; have k2 := HS2.out w4 HB4.out; clear hb))
      go_ret
      exact ⟨by simp [ecr], HFIN.out _ (by first | exact HB4.out | exact HB3.out | exact HB2.out)⟩
  subst ecr
  by_cases eav : av = av'
  rotate_left
  · skip
    as_aux_lemma =>
      go_enter Tryd.func20, Tryd.ntmps20
      go_wp2_with (first
        | (go_at_call 59; (with_reducible refine D1.out.mono ?_); rintro e w3 ⟨rfl, hb⟩; have HB3 := Lib.hid hb; have k1 := HS1.out w3 hb; have k2 := HS2.out w3 hb; clear hb)
        | (go_at_call 60; (with_reducible refine (c2.out w3 HB3.out).mono ?_); rintro e w4 ⟨rfl, hb⟩; have HB4 : Hid (Below w2.heap.size w2 w4) := HB3.out.trans (hb.mono HB3.out.size); have k1 := HS1.out w4 HB4.out; have k2 := HS2.out w4 HB4.out; clear hb))
      go_ret
      exact ⟨by simp [eav], HFIN.out _ (by first | exact HB4.out | exact HB3.out | exact HB2.out)⟩
  subst eav
  by_cases eh : qh = qh'
  rotate_left
  · cases qh with
    | false =>
      obtain rfl : qh' = true := by cases qh' <;> simp_all
      clear eh
      as_aux_lemma =>
        go_enter Tryd.func20, Tryd.ntmps20
        go_wp2_with (first
          | (go_at_call 59; (with_reducible refine D1.out.mono ?_); rintro e w3 ⟨rfl, hb⟩; have HB3 := Lib.hid hb; have k1 := HS1.out w3 hb; have k2 := HS2.out w3 hb; clear hb)
          | (go_at_call 60; (with_reducible refine (c2.out w3 HB3.out).mono ?_); rintro e w4 ⟨rfl, hb⟩; have HB4 : Hid (Below w2.heap.size w2 w4) := HB3.out.trans (hb.mono HB3.out.size); have k1 := HS1.out w4 HB4.out; have k2 := HS2.out w4 HB4.out; clear hb))
        go_ret
        exact ⟨by simp, HFIN.out _ (by first | exact HB4.out | exact HB3.out | exact HB2.out)⟩
    | true =>
      obtain rfl : qh' = false := by cases qh' <;> simp_all
      clear eh
      as_aux_lemma =>
        go_enter Tryd.func20, Tryd.ntmps20
        go_wp2_with (first
          | (go_at_call 59; (with_reducible refine D1.out.mono ?_); rintro e w3 ⟨rfl, hb⟩; have HB3 := Lib.hid hb; have k1 := HS1.out w3 hb; have k2 := HS2.out w3 hb; clear hb)
          | (go_at_call 60; (with_reducible refine (c2.out w3 HB3.out).mono ?_); rintro e w4 ⟨rfl, hb⟩; have HB4 : Hid (Below w2.heap.size w2 w4) := HB3.out.trans (hb.mono HB3.out.size); have k1 := HS1.out w4 HB4.out; have k2 := HS2.out w4 HB4.out; clear hb))
        go_ret
        exact ⟨by simp, HFIN.out _ (by first | exact HB4.out | exact HB3.out | exact HB2.out)⟩
  subst eh
  by_cases eqc : qc = qc'
  rotate_left
  · skip
    as_aux_lemma =>
      go_enter Tryd.func20, Tryd.ntmps20
      go_wp2_with (first
        | (go_at_call 59; (with_reducible refine D1.out.mono ?_); rintro e w3 ⟨rfl, hb⟩; have HB3 := Lib.hid hb; have k1 := HS1.out w3 hb; have k2 := HS2.out w3 hb; clear hb)
        | (go_at_call 60; (with_reducible refine (c2.out w3 HB3.out).mono ?_); rintro e w4 ⟨rfl, hb⟩; have HB4 : Hid (Below w2.heap.size w2 w4) := HB3.out.trans (hb.mono HB3.out.size); have k1 := HS1.out w4 HB4.out; have k2 := HS2.out w4 HB4.out; clear hb))
      go_ret
      exact ⟨by simp [eqc], HFIN.out _ (by first | exact HB4.out | exact HB3.out | exact HB2.out)⟩
  subst eqc
  by_cases eqb : qb = qb'
  rotate_left
  · skip
    as_aux_lemma =>
      go_enter Tryd.func20, Tryd.ntmps20
      go_wp2_with (first
        | (go_at_call 59; (with_reducible refine D1.out.mono ?_); rintro e w3 ⟨rfl, hb⟩; have HB3 := Lib.hid hb; have k1 := HS1.out w3 hb; have k2 := HS2.out w3 hb; clear hb)
        | (go_at_call 60; (with_reducible refine (c2.out w3 HB3.out).mono ?_); rintro e w4 ⟨rfl, hb⟩; have HB4 : Hid (Below w2.heap.size w2 w4) := HB3.out.trans (hb.mono HB3.out.size); have k1 := HS1.out w4 HB4.out; have k2 := HS2.out w4 HB4.out; clear hb))
      go_ret
      exact ⟨by simp [eqb], HFIN.out _ (by first | exact HB4.out | exact HB3.out | exact HB2.out)⟩
  subst eqb
  as_aux_lemma =>
    go_enter Tryd.func20, Tryd.ntmps20
    go_wp2_with (first
      | (go_at_call 59; (with_reducible refine D1.out.mono ?_); rintro e w3 ⟨rfl, hb⟩; have HB3 := Lib.hid hb; have k1 := HS1.out w3 hb; have k2 := HS2.out w3 hb; clear hb)
      | (go_at_call 60; (with_reducible refine (c2.out w3 HB3.out).mono ?_); rintro e w4 ⟨rfl, hb⟩; have HB4 : Hid (Below w2.heap.size w2 w4) := HB3.out.trans (hb.mono HB3.out.size); have k1 := HS1.out w4 HB4.out; have k2 := HS2.out w4 HB4.out; clear hb))
    go_ret
    exact ⟨by simp, HFIN.out _ (by first | exact HB4.out | exact HB3.out | exact HB2.out)⟩
end Go.Proofs.YtaojjjcaofhmcaaDoor
