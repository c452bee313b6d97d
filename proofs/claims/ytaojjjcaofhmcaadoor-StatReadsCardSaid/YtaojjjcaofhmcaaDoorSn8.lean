/- The law StatRights: the walk. (printed by gen_n8.py) -/
import Derived.Test.YtaojjjcaofhmcaaDoorSn5
import Derived.Test.YtaojjjcaofhmcaaDoorSn7
import Derived.Test.YtaojjjcaofhmcaaDoorSn7r
import Derived.Test.YtaojjjcaofhmcaaDoorBase
set_option linter.unusedVariables false
set_option linter.unusedSimpArgs false
namespace Go.Proofs.YtaojjjcaofhmcaaDoor
open Go.RowKit

/-- the bytes that Encode hands back -/
def outB (R : Int) (b : List UInt8) : List UInt8 := if R = 0 then b else []
theorem enc_one {w w' : World} {e : Ending} {R : Int} {b : List UInt8} (h : Below w.heap.size w w' ∧ ((R ≠ 0 ∧ e = .returned (.tuple #[.slice none 0 0, .int .i64 R])) ∨ (R = 0 ∧ ∃ A n c, e = .returned (.tuple #[.slice A n c, .int .i64 0]) ∧ w'.ownsRow w.heap.size 5 1 (.slice A n c) n (bcells b)))) :
    Below w.heap.size w w' ∧ ∃ A n c, e = .returned (.tuple #[.slice A n c, .int .i64 R]) ∧ Reads w' w'.heap.size 1 A n (bcells (outB R b)) := by
  refine ⟨h.1, ?_⟩
  rcases h.2 with ⟨h0, rfl⟩ | ⟨rfl, A, n, c, rfl, ho⟩
  · exact ⟨none, 0, 0, rfl, by unfold outB; rw [if_neg h0]; simpa [bcells] using Reads.none_⟩
  · exact ⟨A, n, c, rfl, by unfold outB; rw [if_pos rfl]; exact Reads.of_own ho⟩
set_option maxRecDepth 100000 in
theorem no5_any (z : Int) (w : World) : Calls Tryd.prog 17 #[.int .i64 z] w fun e w' => e = .returned (.int .i64 z) ∧ w = w' := by
  go_enter Tryd.func17, Tryd.ntmps17
  go_wp2
  go_ret
  exact ⟨rfl, rfl⟩

set_option maxRecDepth 100000 in
set_option maxHeartbeats 8000000 in
theorem rights_walk (p : ByteArray) (o cz mz pz az qz ct mt ve cr av : Int) (qh : Bool) (qc qb : Int) (dA : Option Addr) (dn dc : Nat) (aA : Option Addr) (an ac : Nat) (l : List UInt8) (L : List AclT)
    (p' : ByteArray) (o' cz' mz' pz' az' qz' ct' mt' ve' cr' av' : Int) (qh' : Bool) (qc' qb' : Int) (dA' : Option Addr) (dn' dc' : Nat) (aA' : Option Addr) (an' ac' : Nat) (l' : List UInt8) (L' : List AclT) (w : World)
    (hd : Reads w w.heap.size 1 dA dn (bcells l)) (ha : Reads w w.heap.size 3 aA an (aclCells L)) (hd1 : dn ≤ 140737488355328) (hn : an * 40 ≤ 140737488355328) (hfit : ∀ a ∈ L, aclFit a) (hE : EnvS w)
    (hd' : Reads w w.heap.size 1 dA' dn' (bcells l')) (ha' : Reads w w.heap.size 3 aA' an' (aclCells L')) (hn' : an' ≤ 9223372036854775807) :
    Calls Tryd.prog 4 #[.agg #[.string p, .slice dA dn dc, .slice aA an ac, .int .i64 o, .int .i64 cz, .int .i64 mz, .int .i64 pz, .int .i64 az, .int .i64 qz, .int .i64 ct, .int .i64 mt, .int .i32 ve, .int .i32 cr, .int .i32 av, .bool qh, .int .i64 qc, .int .i64 qb], .agg #[.string p', .slice dA' dn' dc', .slice aA' an' ac', .int .i64 o', .int .i64 cz', .int .i64 mz', .int .i64 pz', .int .i64 az', .int .i64 qz', .int .i64 ct', .int .i64 mt', .int .i32 ve', .int .i32 cr', .int .i32 av', .bool qh', .int .i64 qc', .int .i64 qb']] w fun e w' => e = .returned (.bool true) ∧ Below w.heap.size w w' := by
  obtain ⟨nc, hnc⟩ : ∃ c : Array Value, c = #[.string p, .slice dA dn dc, .slice aA an ac, .int .i64 o, .int .i64 cz, .int .i64 mz, .int .i64 pz, .int .i64 az, .int .i64 qz, .int .i64 ct, .int .i64 mt, .int .i32 ve, .int .i32 cr, .int .i32 av, .bool qh, .int .i64 qc, .int .i64 qb] := ⟨_, rfl⟩
  obtain ⟨mc, hmc⟩ : ∃ c : Array Value, c = #[.string p', .slice dA' dn' dc', .slice aA' an' ac', .int .i64 o', .int .i64 cz', .int .i64 mz', .int .i64 pz', .int .i64 az', .int .i64 qz', .int .i64 ct', .int .i64 mt', .int .i32 ve', .int .i32 cr', .int .i32 av', .bool qh', .int .i64 qc', .int .i64 qb'] := ⟨_, rfl⟩
  rw [← hnc, ← hmc]
  obtain ⟨w0, hw0⟩ : ∃ w0, (w.alloc (.cells nc 32)).alloc (.cells mc 32) = w0 := ⟨_, rfl⟩
  have hz0 : w0.heap.size = w.heap.size + 2 := by rw [← hw0]; simp
  have hb0 : Below w.heap.size w w0 := by rw [← hw0]; exact ((Below.refl _ _).alloc (Nat.le_refl _) _).alloc (by simp) _
  have bn0 : Blk w0 w.heap.size 32 nc := by rw [← hw0]; exact (Blk.new _ _ _).alloc _
  have bm0 : Blk w0 (w.heap.size + 1) 32 mc := by rw [← hw0]; exact Blk.new' (by simp)
  have zn : (Tryd.prog.info? 32).map (·.size) = some nc.size := by rw [hnc, node_size]; rfl
  have zm : (Tryd.prog.info? 32).map (·.size) = some mc.size := by rw [hmc, node_size]; rfl
  have cp : ∀ W, Below w.heap.size w W → Calls Tryd.prog 14 #[.agg nc] W fun e w' => ∃ D k A m, e = .returned (.agg (reNode nc (.slice D dn k) (.slice A an m))) ∧
      w'.ownsRow W.heap.size 5 1 (.slice D dn k) dn (bcells l) ∧ w'.ownsRow W.heap.size 57 3 (.slice A an m) an (aclCells L) ∧ Below W.heap.size W w' := fun W h => by
    rw [hnc]
    exact copied_any #[.string p, .slice dA dn dc, .slice aA an ac, .int .i64 o, .int .i64 cz, .int .i64 mz, .int .i64 pz, .int .i64 az, .int .i64 qz, .int .i64 ct, .int .i64 mt, .int .i32 ve, .int .i32 cr, .int .i32 av, .bool qh, .int .i64 qc, .int .i64 qb] rfl (by simp [Value.oneCell']) dA dn dc aA an ac rfl rfl (bcells l) (aclCells L) w.heap.size W (hd.below h) (ha.below h) (bcells_one l) (aclCells_one L) h.size hd1 hn
  have e1 : ∀ D k A m W, Reads W W.heap.size 1 D dn (bcells l) → Reads W W.heap.size 3 A an (aclCells L) → Below w.heap.size w W → Calls Tryd.prog 15 #[.agg (reNode nc (.slice D dn k) (.slice A an m))] W fun e w' => Below W.heap.size W w' ∧ ∃ A n c, e = .returned (.tuple #[.slice A n c, .int .i64 (rightE p dn L qh qc qb)]) ∧ Reads w' w'.heap.size 1 A n (bcells (outB (rightE p dn L qh qc qb) (nodeB p l L [o, cz, mz, pz, az, qz, ct, mt] [ve, cr, av] qh qc qb))) := fun D k A m W h1 h2 h3 => by
    rw [hnc]
    exact (encode_any p o cz mz pz az qz ct mt ve cr av qh qc qb D dn k A an m l L W.heap.size W (Nat.le_refl _) h1 h2 (by omega) (by omega) hfit (hE.below h3)).mono fun _ _ h => enc_one h
  have e2 : ∀ W, Below w.heap.size w W → Calls Tryd.prog 16 #[.agg nc] W fun e w' => Below W.heap.size W w' ∧ ∃ A n c, e = .returned (.tuple #[.slice A n c, .int .i64 (rightE p dn L qh qc qb)]) ∧ Reads w' w'.heap.size 1 A n (bcells (outB (rightE p dn L qh qc qb) (nodeB p l L [o, cz, mz, pz, az, qz, ct, mt] [ve, cr, av] qh qc qb))) := fun W h => by
    rw [hnc]
    exact (refEncode_any p o cz mz pz az qz ct mt ve cr av qh qc qb dA dn dc aA an ac l L w.heap.size W h.size (hd.below h) (ha.below h) (by omega) (by omega) hfit (hE.below h)).mono fun _ _ h => enc_one h
  -- behind what is made
  have r1 : ∀ D k A m W, Reads W W.heap.size 3 A an (aclCells L) → Below w.heap.size w W → Calls Tryd.prog 18 #[.agg (reNode nc (.slice D dn k) (.slice A an m))] W fun e w' => e = .returned (.int .i64 (rightE p dn L qh qc qb)) ∧ Below W.heap.size W w' := fun D k A m W h2 h3 => by
    rw [hnc]
    exact right_any p o cz mz pz az qz ct mt ve cr av qh qc qb D dn k A an m L W.heap.size W (Nat.le_refl _) (by omega) (by omega) h2 hfit (hE.below h3)
  have r2 : ∀ W, Below w.heap.size w W → Calls Tryd.prog 19 #[.agg nc] W fun e w' => e = .returned (.int .i64 (rightE p dn L qh qc qb)) ∧ Below W.heap.size W w' := fun W h => by
    rw [hnc]
    exact refRight_any p o cz mz pz az qz ct mt ve cr av qh qc qb dA dn dc aA an ac L w.heap.size W h.size (by omega) (by omega) (ha.below h) hfit (hE.below h)
  obtain ⟨sm, hsm⟩ : ∃ b : Bool, b = decide ((⟨p, o, cz, mz, pz, az, qz, ct, mt, ve, cr, av, qh, qc, qb, l, L⟩ : Nd) = (⟨p', o', cz', mz', pz', az', qz', ct', mt', ve', cr', av', qh', qc', qb', l', L'⟩ : Nd)) := ⟨_, rfl⟩
  have s1 : ∀ D k A m W, Reads W W.heap.size 1 D dn (bcells l) → Reads W W.heap.size 3 A an (aclCells L) → Below w.heap.size w W → Calls Tryd.prog 20 #[.agg (reNode nc (.slice D dn k) (.slice A an m)), .agg mc] W fun e w' => e = .returned (.bool sm) ∧ Below W.heap.size W w' := fun D k A m W h1 h2 h3 => by
    rw [hnc, hmc, hsm]
    exact same_any p o cz mz pz az qz ct mt ve cr av qh qc qb D dn k A an m l L W.heap.size p' o' cz' mz' pz' az' qz' ct' mt' ve' cr' av' qh' qc' qb' dA' dn' dc' aA' an' ac' l' L' w.heap.size W (Nat.le_refl _) h1 h2 (by omega) h3.size (hd'.below h3) (ha'.below h3) hn'
  have s2 : ∀ W, Below w.heap.size w W → Calls Tryd.prog 21 #[.agg nc, .agg mc] W fun e w' => e = .returned (.bool sm) ∧ Below W.heap.size W w' := fun W h3 => by
    rw [hnc, hmc, hsm]
    exact refSame_any p o cz mz pz az qz ct mt ve cr av qh qc qb dA dn dc aA an ac l L w.heap.size p' o' cz' mz' pz' az' qz' ct' mt' ve' cr' av' qh' qc' qb' dA' dn' dc' aA' an' ac' l' L' w.heap.size W h3.size (hd.below h3) (ha.below h3) (by omega) h3.size (hd'.below h3) (ha'.below h3) hn'
  have kl : ∀ D k A m W, Reads W W.heap.size 1 D dn (bcells l) → Reads W W.heap.size 3 A an (aclCells L) → (D = none → dn = 0 ∧ k = 0) → (A = none → an = 0 ∧ m = 0) → Calls Tryd.prog 22 #[.agg (reNode nc (.slice D dn k) (.slice A an m))] W fun e w' => ∃ D' k' A' m', e = .returned (.agg (reNode nc (.slice D' dn k') (.slice A' an m'))) ∧
      Reads w' w'.heap.size 1 D' dn (bcells l) ∧ Reads w' w'.heap.size 3 A' an (aclCells L) ∧ Below W.heap.size W w' := fun D k A m W h1 h2 h3 h4 => by
    rw [hnc]
    exact (nclone_any #[.string p, .slice D dn k, .slice A an m, .int .i64 o, .int .i64 cz, .int .i64 mz, .int .i64 pz, .int .i64 az, .int .i64 qz, .int .i64 ct, .int .i64 mt, .int .i32 ve, .int .i32 cr, .int .i32 av, .bool qh, .int .i64 qc, .int .i64 qb] rfl (by simp [Value.oneCell']) D dn k A an m rfl rfl (bcells l) (aclCells L) W.heap.size W h1 h2 (bcells_one l) (aclCells_one L) (Nat.le_refl _) hd1 hn h3 h4).mono fun e w' ⟨D', k', A', m', h5, h6, h7, h8⟩ => ⟨D', k', A', m', h5, Reads.of_own h6, Reads.of_own h7, h8⟩
  have s3 : ∀ D k A m D' k' A' m' W, Reads W W.heap.size 1 D dn (bcells l) → Reads W W.heap.size 3 A an (aclCells L) → Reads W W.heap.size 1 D' dn (bcells l) → Reads W W.heap.size 3 A' an (aclCells L) → Calls Tryd.prog 20 #[.agg (reNode nc (.slice D dn k) (.slice A an m)), .agg (reNode nc (.slice D' dn k') (.slice A' an m'))] W fun e w' => e = .returned (.bool true) ∧ Below W.heap.size W w' := fun D k A m D' k' A' m' W h1 h2 h3 h4 => by
    rw [hnc]
    exact (same_any p o cz mz pz az qz ct mt ve cr av qh qc qb D dn k A an m l L W.heap.size p o cz mz pz az qz ct mt ve cr av qh qc qb D' dn k' A' an m' l L W.heap.size W (Nat.le_refl _) h1 h2 (by omega) (Nat.le_refl _) h3 h4 (by omega)).mono fun e w' h => ⟨by rw [h.1, decide_eq_true rfl], h.2⟩
  have s4 : ∀ D k A m W, Reads W W.heap.size 1 D dn (bcells l) → Reads W W.heap.size 3 A an (aclCells L) → Below w.heap.size w W → Calls Tryd.prog 21 #[.agg (reNode nc (.slice D dn k) (.slice A an m)), .agg nc] W fun e w' => e = .returned (.bool true) ∧ Below W.heap.size W w' := fun D k A m W h1 h2 h3 => by
    rw [hnc]
    exact (refSame_any p o cz mz pz az qz ct mt ve cr av qh qc qb D dn k A an m l L W.heap.size p o cz mz pz az qz ct mt ve cr av qh qc qb dA dn dc aA an ac l L w.heap.size W (Nat.le_refl _) h1 h2 (by omega) h3.size (hd.below h3) (ha.below h3) (by omega)).mono fun e w' h => ⟨by rw [h.1, decide_eq_true rfl], h.2⟩
  have zo : ∀ D k A m, (reNode nc (.slice D dn k) (.slice A an m)).size = nc.size := fun D k A m => by simp [reNode]
  have hall : ∀ D k A m, (reNode nc (.slice D dn k) (.slice A an m)).all (·.oneCell') = true := fun D k A m => re_one (by rw [hnc]; simp [Value.oneCell']) _ _ _ _ _ _
  obtain ⟨R, hR⟩ : ∃ R, R = rightE p dn L qh qc qb := ⟨_, rfl⟩
  rw [← hR] at e1 e2 r1 r2
  obtain ⟨B, hB⟩ : ∃ B, B = outB R (nodeB p l L [o, cz, mz, pz, az, qz, ct, mt] [ve, cr, av] qh qc qb) := ⟨_, rfl⟩
  rw [← hB] at e1 e2
  have HB0 := Lib.hid hb0
  have HN := Lib.hid bn0
  have HM := Lib.hid bm0
  have HZN := Lib.hid zn
  have HZM := Lib.hid zm
  have HZO := Lib.hid zo
  have HALL := Lib.hid hall
  have CP := Lib.hid cp
  have E1 := Lib.hid e1
  have E2 := Lib.hid e2
  have R1 := Lib.hid r1
  have R2 := Lib.hid r2
  have S1 := Lib.hid s1
  have S2 := Lib.hid s2
  have S3 := Lib.hid s3
  have S4 := Lib.hid s4
  have KL := Lib.hid kl
  clear hb0 bn0 bm0 zn zm zo hall cp e1 e2 r1 r2 s1 s2 s3 s4 kl hd ha hd1 hn hfit hE hd' ha' hn' hsm hR hB hnc hmc
  go_enter Tryd.func4, Tryd.ntmps4
  go_wp2_with (first
    | (refine wpList_load_row rfl 32 (.tmp 2) rfl w.heap.size rfl 32 _ _ _ HN.out Tryd.underlying32 rfl HZN.out ?_)
    | (go_at_call 14
       refine (CP.out _ HB0.out).mono ?_
       rintro e w1 ⟨D, k, A, m, rfl, ho1, ho2, hb1⟩
       have hz1 := hb1.size
       have HB1 : Hid (Below w.heap.size w w1) := HB0.out.trans (hb1.mono HB0.out.size)
       have HN1 := Lib.hid (HN.out.below hb1 HN.out.lt)
       have HM1 := Lib.hid (HM.out.below hb1 HM.out.lt)
       have HD1 := Lib.hid (Reads.of_own ho1)
       have HA1 := Lib.hid (Reads.of_own ho2)
       have HD0 := Lib.hid (own_nil ho1)
       have HA0 := Lib.hid (own_nil ho2)
       obtain ⟨oc, hoc⟩ : ∃ c, c = reNode nc (.slice D dn k) (.slice A an m) := ⟨_, rfl⟩
       rw [← hoc]
       have HOC := Lib.hid hoc
       clear ho1 ho2 hb1 hoc)
    | (refine wpList_store_row rfl 32 (.tmp 5) (.tmp 11) rfl w1.heap.size oc rfl rfl 32 _ (Blk.new _ _ _) (by rw [HOC.out, HZO.out]; exact HZN.out) (by rw [HOC.out, HZO.out]; have := HZN.out; rw [node_size] at this; injection this) (by rw [HOC.out]; exact HALL.out _ _ _ _) ?_
       generalize hww2 : World.setRow _ _ _ = w2
       have hb2 : Below w1.heap.size w1 w2 := by rw [← hww2]; exact below_setRow' (by go_grown) (Nat.le_refl _) _
       have HO2 : Hid (Blk w2 w1.heap.size 32 oc) := by unfold Hid; rw [← hww2]; exact cells_setRow (Blk.new _ _ _)
       have hz2 := hb2.size
       have HB2 : Hid (Below w.heap.size w w2) := HB1.out.trans (hb2.mono HB1.out.size)
       have HN2 := Lib.hid (HN1.out.below hb2 HN1.out.lt)
       have HM2 := Lib.hid (HM1.out.below hb2 HM1.out.lt)
       have HD2 := Lib.hid ((HD1.out.below hb2).more hz2)
       have HA2 := Lib.hid ((HA1.out.below hb2).more hz2)
       clear hb2 hww2)
    | (refine wpList_load_row rfl 32 (.tmp 5) rfl w1.heap.size rfl 32 _ _ _ HO2.out Tryd.underlying32 rfl (by rw [HOC.out, HZO.out]; exact HZN.out) ?_
       rw [HOC.out])
    | (go_at_call 15
       refine (E1.out D k A m w2 HD2.out HA2.out HB2.out).mono ?_
       rintro e w3 ⟨hb3, X, xn, xc, rfl, hx⟩
       have hz3 := hb3.size
       have HX3 := Lib.hid hx
       have HB3 : Hid (Below w.heap.size w w3) := HB2.out.trans (hb3.mono HB2.out.size)
       have HN3 := Lib.hid (HN2.out.below hb3 HN2.out.lt)
       have HM3 := Lib.hid (HM2.out.below hb3 HM2.out.lt)
       have HO3 := Lib.hid (HO2.out.below hb3 HO2.out.lt)
       have HD3 := Lib.hid ((HD2.out.below hb3).more hz3)
       have HA3 := Lib.hid ((HA2.out.below hb3).more hz3)
       clear hb3 hx)
    | (refine wpList_load_row rfl 32 (.tmp 2) rfl w.heap.size rfl 32 _ _ _ HN3.out Tryd.underlying32 rfl HZN.out ?_)
    | (go_at_call 16
       refine (E2.out w3 HB3.out).mono ?_
       rintro e w4 ⟨hb4, Y, yn, yc, rfl, hy⟩
       have hz4 := hb4.size
       have HX4 := Lib.hid ((HX3.out.below hb4).more hz4)
       have HY4 := Lib.hid hy
       have HB4 : Hid (Below w.heap.size w w4) := HB3.out.trans (hb4.mono HB3.out.size)
       have HN4 := Lib.hid (HN3.out.below hb4 HN3.out.lt)
       have HM4 := Lib.hid (HM3.out.below hb4 HM3.out.lt)
       have HO4 := Lib.hid (HO3.out.below hb4 HO3.out.lt)
       have HD4 := Lib.hid ((HD3.out.below hb4).more hz4)
       have HA4 := Lib.hid ((HA3.out.below hb4).more hz4)
       clear hb4 hy))
  have hb4 := HB4.out
  have qn' : ∀ W, Below w4.heap.size w4 W → Blk W w.heap.size 32 nc := fun W h => HN4.out.below h HN4.out.lt
  have qm' : ∀ W, Below w4.heap.size w4 W → Blk W (w.heap.size + 1) 32 mc := fun W h => HM4.out.below h HM4.out.lt
  have qo' : ∀ W, Below w4.heap.size w4 W → Blk W w1.heap.size 32 oc := fun W h => HO4.out.below h HO4.out.lt
  have rd' : ∀ W, Below w4.heap.size w4 W → Reads W W.heap.size 1 D dn (bcells l) := fun W h => (HD4.out.below h).more h.size
  have ra' : ∀ W, Below w4.heap.size w4 W → Reads W W.heap.size 3 A an (aclCells L) := fun W h => (HA4.out.below h).more h.size
  have bw' : ∀ W, Below w4.heap.size w4 W → Below w.heap.size w W := fun W h => hb4.trans (h.mono hb4.size)
  have zo' : (Tryd.prog.info? 32).map (·.size) = some oc.size := by rw [HOC.out, HZO.out]; exact HZN.out
  have c1' : ∀ W, Below w4.heap.size w4 W → Calls Tryd.prog 18 #[.agg oc] W fun e w'' => e = .returned (.int .i64 R) ∧ Below w4.heap.size w4 w'' := fun W h => to_class h (by rw [HOC.out]; exact R1.out D k A m W (ra' W h) (bw' W h))
  have c2' : ∀ W, Below w4.heap.size w4 W → Calls Tryd.prog 19 #[.agg nc] W fun e w'' => e = .returned (.int .i64 R) ∧ Below w4.heap.size w4 w'' := fun W h => to_class h (R2.out W (bw' W h))
  have c3' : ∀ W, Below w4.heap.size w4 W → Calls Tryd.prog 17 #[.int .i64 R] W fun e w'' => e = .returned (.int .i64 R) ∧ Below w4.heap.size w4 w'' := fun W h => to_class_same h (no5_any R W)
  have c4' : ∀ W, Below w4.heap.size w4 W → Calls Tryd.prog 20 #[.agg oc, .agg mc] W fun e w'' => e = .returned (.bool sm) ∧ Below w4.heap.size w4 w'' := fun W h => to_class h (by rw [HOC.out]; exact S1.out D k A m W (rd' W h) (ra' W h) (bw' W h))
  have c5' : ∀ W, Below w4.heap.size w4 W → Calls Tryd.prog 21 #[.agg nc, .agg mc] W fun e w'' => e = .returned (.bool sm) ∧ Below w4.heap.size w4 w'' := fun W h => to_class h (S2.out W (bw' W h))
  have x1' : ∀ W, Below w4.heap.size w4 W → (convert 24 9 (.slice X xn xc)).run Tryd.prog W = .ok (.string ⟨B.toArray⟩) W := fun W h => run_string_of_bytes Tryd.underlying24 Tryd.underlying5 (HX4.out.below h) 9 Tryd.underlying9
  have x2' : ∀ W, Below w4.heap.size w4 W → (convert 24 9 (.slice Y yn yc)).run Tryd.prog W = .ok (.string ⟨B.toArray⟩) W := fun W h => run_string_of_bytes Tryd.underlying24 Tryd.underlying5 (HY4.out.below h) 9 Tryd.underlying9
  have kl' : ∀ W, Below w4.heap.size w4 W → Calls Tryd.prog 22 #[.agg oc] W fun e w' => ∃ D' k' A' m', e = .returned (.agg (reNode nc (.slice D' dn k') (.slice A' an m'))) ∧
      Reads w' w'.heap.size 1 D' dn (bcells l) ∧ Reads w' w'.heap.size 3 A' an (aclCells L) ∧ Below W.heap.size W w' := fun W h => by rw [HOC.out]; exact KL.out D k A m W (rd' W h) (ra' W h) HD0.out HA0.out
  have s3' : ∀ W D' k' A' m', Below w4.heap.size w4 W → Reads W W.heap.size 1 D' dn (bcells l) → Reads W W.heap.size 3 A' an (aclCells L) → Calls Tryd.prog 20 #[.agg oc, .agg (reNode nc (.slice D' dn k') (.slice A' an m'))] W fun e w' => e = .returned (.bool true) ∧ Below W.heap.size W w' := fun W D' k' A' m' h h1 h2 => by rw [HOC.out]; exact S3.out D k A m D' k' A' m' W (rd' W h) (ra' W h) h1 h2
  have s4' : ∀ W, Below w4.heap.size w4 W → Calls Tryd.prog 21 #[.agg oc, .agg nc] W fun e w' => e = .returned (.bool true) ∧ Below W.heap.size W w' := fun W h => by rw [HOC.out]; exact S4.out D k A m W (rd' W h) (ra' W h) (bw' W h)
  have Qn := Lib.hid qn'
  have Qm := Lib.hid qm'
  have Qo := Lib.hid qo'
  have BW := Lib.hid bw'
  have Zo := Lib.hid zo'
  have C1 := Lib.hid c1'
  have C2 := Lib.hid c2'
  have C3 := Lib.hid c3'
  have C4 := Lib.hid c4'
  have C5 := Lib.hid c5'
  have X1 := Lib.hid x1'
  have X2 := Lib.hid x2'
  have KL' := Lib.hid kl'
  have S3' := Lib.hid s3'
  have S4' := Lib.hid s4'
  clear qn' qm' qo' rd' ra' bw' zo' c1' c2' c3' c4' c5' x1' x2' kl' s3' s4' hb4 HB0 HN HM CP E1 E2 R1 R2 S1 S2 S3 S4 KL HB1 HN1 HM1 HD1 HA1 HD0 HA0 HOC HO2 HB2 HN2 HM2 HD2 HA2 HX3 HB3 HN3 HM3 HO3 HD3 HA3 HX4 HY4 HB4 HN4 HM4 HO4 HD4 HA4 HALL HZO
  refine wp_region_bar 28 12 (by as_aux_lemma => kernel_rfl) (by as_aux_lemma => kernel_rfl) (by as_aux_lemma => kernel_rfl) ?_
  simp only [List.take_succ_cons, List.take_zero]
  repeat (first
    | go_big_quiet_skip
    | (go_big_quiet_want
       first
         | (refine quiet_load_blk 32 (.tmp 5) rfl w1.heap.size rfl 32 oc _ Qo.out Tryd.underlying32 rfl Zo.out ?_; simp only [Act.put, List.setIfInBounds_toArray, List.set_cons_zero, List.set_cons_succ])
         | (refine quiet_load_blk 32 (.tmp 2) rfl w.heap.size rfl 32 nc _ Qn.out Tryd.underlying32 rfl HZN.out ?_; simp only [Act.put, List.setIfInBounds_toArray, List.set_cons_zero, List.set_cons_succ])
         | (refine quiet_load_blk 32 (.tmp 3) rfl (w.heap.size + 1) rfl 32 mc _ Qm.out Tryd.underlying32 rfl HZM.out ?_; simp only [Act.put, List.setIfInBounds_toArray, List.set_cons_zero, List.set_cons_succ])
         | (refine quiet_call 18 _ _ rfl (#[.agg oc]) rfl Tryd.func18 (by as_aux_lemma => kernel_rfl) (by as_aux_lemma => kernel_rfl) (.int .i64 R) C1.out ?_; simp only [Act.put, List.setIfInBounds_toArray, List.set_cons_zero, List.set_cons_succ])
         | (refine quiet_call 19 _ _ rfl (#[.agg nc]) rfl Tryd.func19 (by as_aux_lemma => kernel_rfl) (by as_aux_lemma => kernel_rfl) (.int .i64 R) C2.out ?_; simp only [Act.put, List.setIfInBounds_toArray, List.set_cons_zero, List.set_cons_succ])
         | (refine quiet_call 17 _ _ rfl (#[.int .i64 R]) rfl Tryd.func17 (by as_aux_lemma => kernel_rfl) (by as_aux_lemma => kernel_rfl) (.int .i64 R) C3.out ?_; simp only [Act.put, List.setIfInBounds_toArray, List.set_cons_zero, List.set_cons_succ])
         | (refine quiet_call 20 _ _ rfl (#[.agg oc, .agg mc]) rfl Tryd.func20 (by as_aux_lemma => kernel_rfl) (by as_aux_lemma => kernel_rfl) (.bool sm) C4.out ?_; simp only [Act.put, List.setIfInBounds_toArray, List.set_cons_zero, List.set_cons_succ])
         | (refine quiet_call 21 _ _ rfl (#[.agg nc, .agg mc]) rfl Tryd.func21 (by as_aux_lemma => kernel_rfl) (by as_aux_lemma => kernel_rfl) (.bool sm) C5.out ?_; simp only [Act.put, List.setIfInBounds_toArray, List.set_cons_zero, List.set_cons_succ])
         | (refine quiet_conv 24 9 _ rfl (.slice X xn xc) (.string ⟨B.toArray⟩) rfl X1.out ?_; simp only [Act.put, List.setIfInBounds_toArray, List.set_cons_zero, List.set_cons_succ])
         | (refine quiet_conv 24 9 _ rfl (.slice Y yn yc) (.string ⟨B.toArray⟩) rfl X2.out ?_; simp only [Act.put, List.setIfInBounds_toArray, List.set_cons_zero, List.set_cons_succ])
         | go_big_quiet_op
       go_big_quiet_on))
  refine wpQuiet_nil ?_
  intro np
  refine wpAny_ready (rs := [28]) (by as_aux_lemma => kernel_rfl) (by simp) ?_
  refine ready_cons rfl (fun K hK => ?_) AllReady.nil
  refine step_past np (by rfl) ?_
  go_big_quiet_op
  intro np
  refine hK _ _ ?_
  clear hK K
  refine wpAny_ready (rs := [29, 30]) (by as_aux_lemma => kernel_rfl) (by simp) ?_
  refine ready_cons rfl (fun K hK => ?_) (ready_cons rfl (fun K hK => ?_) AllReady.nil)
  · refine step_past np (by rfl) ?_
    refine quiet_load_blk 32 (.tmp 5) rfl w1.heap.size rfl 32 oc _ Qo.out Tryd.underlying32 rfl Zo.out ?_
    simp only [Act.put, List.setIfInBounds_toArray, List.set_cons_zero, List.set_cons_succ]
    intro np
    refine hK _ _ ?_
    clear hK K
    refine wpAny_ready (rs := [30]) (by as_aux_lemma => kernel_rfl) (by simp) ?_
    refine ready_cons rfl (fun K hK => ?_) AllReady.nil
    refine step_past np (by rfl) ?_
    refine quiet_load_blk 32 (.tmp 5) rfl w1.heap.size rfl 32 oc _ Qo.out Tryd.underlying32 rfl Zo.out ?_
    simp only [Act.put, List.setIfInBounds_toArray, List.set_cons_zero, List.set_cons_succ]
    intro np
    refine hK _ _ ?_
    clear hK K
    refine wpAny_ready (rs := [31]) (by as_aux_lemma => kernel_rfl) (by simp) ?_
    refine ready_cons rfl (fun K hK => ?_) AllReady.nil
    refine step_call (by rfl) 22 _ _ rfl (#[.agg oc]) rfl Tryd.func22 (by as_aux_lemma => kernel_rfl) (by as_aux_lemma => kernel_rfl) (KL'.out np.val np.prop) ?_
    rintro e w6 ⟨D', k', A', m', rfl, g1, g2, hb⟩
    have G1 := Lib.hid g1
    have G2 := Lib.hid g2
    have HB6 : Hid (Below w4.heap.size w4 w6) := np.prop.trans (hb.mono np.prop.size)
    clear g1 g2 hb
    refine ⟨_, rfl, hK _ _ ?_⟩
    clear hK K
    simp only [Act.put, List.setIfInBounds_toArray, List.set_cons_zero, List.set_cons_succ]
    obtain ⟨wz, hbz, hwz⟩ : ∃ wz, Below w6.heap.size w6 wz ∧ wz = w6 := ⟨w6, Below.refl _ _, rfl⟩
    rw [← hwz]
    clear hwz
    obtain ⟨cc, hcc⟩ : ∃ c, c = reNode nc (.slice D' dn k') (.slice A' an m') := ⟨_, rfl⟩
    rw [← hcc]
    have hbw : Below w4.heap.size w4 wz := HB6.out.trans (hbz.mono HB6.out.size)
    have f1' : ∀ W, Below wz.heap.size wz W → Calls Tryd.prog 20 #[.agg oc, .agg cc] W fun e w'' => e = .returned (.bool true) ∧ Below wz.heap.size wz w'' := fun W h => to_class h (by
      have hz := hbz.trans (h.mono hbz.size)
      rw [hcc]
      exact S3'.out W D' k' A' m' (hbw.trans (h.mono hbw.size)) ((G1.out.below hz).more hz.size) ((G2.out.below hz).more hz.size))
    have f2' : ∀ W, Below wz.heap.size wz W → Calls Tryd.prog 21 #[.agg oc, .agg nc] W fun e w'' => e = .returned (.bool true) ∧ Below wz.heap.size wz w'' := fun W h => to_class h (S4'.out W (hbw.trans (h.mono hbw.size)))
    have f3' : ∀ W, Below wz.heap.size wz W → Blk W w1.heap.size 32 oc := fun W h => Qo.out W (hbw.trans (h.mono hbw.size))
    have f4' : ∀ W, Below wz.heap.size wz W → Blk W w.heap.size 32 nc := fun W h => Qn.out W (hbw.trans (h.mono hbw.size))
    have F1 := Lib.hid f1'
    have F2 := Lib.hid f2'
    have F3 := Lib.hid f3'
    have F4 := Lib.hid f4'
    have HBW := Lib.hid hbw
    clear f1' f2' f3' f4' hbw hcc hbz
    refine wpAny_past_end 32 8 _ (by as_aux_lemma => kernel_rfl) (by as_aux_lemma => kernel_rfl) ?_
    simp only [List.drop_succ_cons, List.drop_zero]
    repeat (first
      | go_big_quiet_skip
      | (go_big_quiet_want
         first
           | (refine quiet_load_blk 32 (.tmp 5) rfl w1.heap.size rfl 32 oc _ F3.out Tryd.underlying32 rfl Zo.out ?_; simp only [Act.put, List.setIfInBounds_toArray, List.set_cons_zero, List.set_cons_succ])
           | (refine quiet_load_blk 32 (.tmp 2) rfl w.heap.size rfl 32 nc _ F4.out Tryd.underlying32 rfl HZN.out ?_; simp only [Act.put, List.setIfInBounds_toArray, List.set_cons_zero, List.set_cons_succ])
           | (refine quiet_call 20 _ _ rfl (#[.agg oc, .agg cc]) rfl Tryd.func20 (by as_aux_lemma => kernel_rfl) (by as_aux_lemma => kernel_rfl) (.bool true) F1.out ?_; simp only [Act.put, List.setIfInBounds_toArray, List.set_cons_zero, List.set_cons_succ])
           | (refine quiet_call 21 _ _ rfl (#[.agg oc, .agg nc]) rfl Tryd.func21 (by as_aux_lemma => kernel_rfl) (by as_aux_lemma => kernel_rfl) (.bool true) F2.out ?_; simp only [Act.put, List.setIfInBounds_toArray, List.set_cons_zero, List.set_cons_succ])
           | go_big_quiet_op
         go_big_quiet_on))
    refine wpQuiet_nil ?_
    intro nq
    go_wp2
    go_ret
    exact ⟨rfl, BW.out _ (HBW.out.trans (nq.prop.mono HBW.out.size))⟩
  · refine step_past np (by rfl) ?_
    refine quiet_load_blk 32 (.tmp 5) rfl w1.heap.size rfl 32 oc _ Qo.out Tryd.underlying32 rfl Zo.out ?_
    simp only [Act.put, List.setIfInBounds_toArray, List.set_cons_zero, List.set_cons_succ]
    intro np
    refine hK _ _ ?_
    clear hK K
    refine wpAny_ready (rs := [29, 31]) (by as_aux_lemma => kernel_rfl) (by simp) ?_
    refine ready_cons rfl (fun K hK => ?_) (ready_cons rfl (fun K hK => ?_) AllReady.nil)
    · refine step_past np (by rfl) ?_
      refine quiet_load_blk 32 (.tmp 5) rfl w1.heap.size rfl 32 oc _ Qo.out Tryd.underlying32 rfl Zo.out ?_
      simp only [Act.put, List.setIfInBounds_toArray, List.set_cons_zero, List.set_cons_succ]
      intro np
      refine hK _ _ ?_
      clear hK K
      refine wpAny_ready (rs := [31]) (by as_aux_lemma => kernel_rfl) (by simp) ?_
      refine ready_cons rfl (fun K hK => ?_) AllReady.nil
      refine step_call (by rfl) 22 _ _ rfl (#[.agg oc]) rfl Tryd.func22 (by as_aux_lemma => kernel_rfl) (by as_aux_lemma => kernel_rfl) (KL'.out np.val np.prop) ?_
      rintro e w6 ⟨D', k', A', m', rfl, g1, g2, hb⟩
      have G1 := Lib.hid g1
      have G2 := Lib.hid g2
      have HB6 : Hid (Below w4.heap.size w4 w6) := np.prop.trans (hb.mono np.prop.size)
      clear g1 g2 hb
      refine ⟨_, rfl, hK _ _ ?_⟩
      clear hK K
      simp only [Act.put, List.setIfInBounds_toArray, List.set_cons_zero, List.set_cons_succ]
      obtain ⟨wz, hbz, hwz⟩ : ∃ wz, Below w6.heap.size w6 wz ∧ wz = w6 := ⟨w6, Below.refl _ _, rfl⟩
      rw [← hwz]
      clear hwz
      obtain ⟨cc, hcc⟩ : ∃ c, c = reNode nc (.slice D' dn k') (.slice A' an m') := ⟨_, rfl⟩
      rw [← hcc]
      have hbw : Below w4.heap.size w4 wz := HB6.out.trans (hbz.mono HB6.out.size)
      have f1' : ∀ W, Below wz.heap.size wz W → Calls Tryd.prog 20 #[.agg oc, .agg cc] W fun e w'' => e = .returned (.bool true) ∧ Below wz.heap.size wz w'' := fun W h => to_class h (by
        have hz := hbz.trans (h.mono hbz.size)
        rw [hcc]
        exact S3'.out W D' k' A' m' (hbw.trans (h.mono hbw.size)) ((G1.out.below hz).more hz.size) ((G2.out.below hz).more hz.size))
      have f2' : ∀ W, Below wz.heap.size wz W → Calls Tryd.prog 21 #[.agg oc, .agg nc] W fun e w'' => e = .returned (.bool true) ∧ Below wz.heap.size wz w'' := fun W h => to_class h (S4'.out W (hbw.trans (h.mono hbw.size)))
      have f3' : ∀ W, Below wz.heap.size wz W → Blk W w1.heap.size 32 oc := fun W h => Qo.out W (hbw.trans (h.mono hbw.size))
      have f4' : ∀ W, Below wz.heap.size wz W → Blk W w.heap.size 32 nc := fun W h => Qn.out W (hbw.trans (h.mono hbw.size))
      have F1 := Lib.hid f1'
      have F2 := Lib.hid f2'
      have F3 := Lib.hid f3'
      have F4 := Lib.hid f4'
      have HBW := Lib.hid hbw
      clear f1' f2' f3' f4' hbw hcc hbz
      refine wpAny_past_end 32 8 _ (by as_aux_lemma => kernel_rfl) (by as_aux_lemma => kernel_rfl) ?_
      simp only [List.drop_succ_cons, List.drop_zero]
      repeat (first
        | go_big_quiet_skip
        | (go_big_quiet_want
           first
             | (refine quiet_load_blk 32 (.tmp 5) rfl w1.heap.size rfl 32 oc _ F3.out Tryd.underlying32 rfl Zo.out ?_; simp only [Act.put, List.setIfInBounds_toArray, List.set_cons_zero, List.set_cons_succ])
             | (refine quiet_load_blk 32 (.tmp 2) rfl w.heap.size rfl 32 nc _ F4.out Tryd.underlying32 rfl HZN.out ?_; simp only [Act.put, List.setIfInBounds_toArray, List.set_cons_zero, List.set_cons_succ])
             | (refine quiet_call 20 _ _ rfl (#[.agg oc, .agg cc]) rfl Tryd.func20 (by as_aux_lemma => kernel_rfl) (by as_aux_lemma => kernel_rfl) (.bool true) F1.out ?_; simp only [Act.put, List.setIfInBounds_toArray, List.set_cons_zero, List.set_cons_succ])
             | (refine quiet_call 21 _ _ rfl (#[.agg oc, .agg nc]) rfl Tryd.func21 (by as_aux_lemma => kernel_rfl) (by as_aux_lemma => kernel_rfl) (.bool true) F2.out ?_; simp only [Act.put, List.setIfInBounds_toArray, List.set_cons_zero, List.set_cons_succ])
             | go_big_quiet_op
           go_big_quiet_on))
      refine wpQuiet_nil ?_
      intro nq
      go_wp2
      go_ret
      exact ⟨rfl, BW.out _ (HBW.out.trans (nq.prop.mono HBW.out.size))⟩
    · refine step_call (by rfl) 22 _ _ rfl (#[.agg oc]) rfl Tryd.func22 (by as_aux_lemma => kernel_rfl) (by as_aux_lemma => kernel_rfl) (KL'.out np.val np.prop) ?_
      rintro e w6 ⟨D', k', A', m', rfl, g1, g2, hb⟩
      have G1 := Lib.hid g1
      have G2 := Lib.hid g2
      have HB6 : Hid (Below w4.heap.size w4 w6) := np.prop.trans (hb.mono np.prop.size)
      clear g1 g2 hb
      refine ⟨_, rfl, hK _ _ ?_⟩
      clear hK K
      simp only [Act.put, List.setIfInBounds_toArray, List.set_cons_zero, List.set_cons_succ]
      refine wpAny_ready (rs := [29]) (by as_aux_lemma => kernel_rfl) (by simp) ?_
      refine ready_cons rfl (fun K hK => ?_) AllReady.nil
      refine step_past (⟨w6, Below.refl _ _⟩ : Past w6) (by rfl) ?_
      refine quiet_load_blk 32 (.tmp 5) rfl w1.heap.size rfl 32 oc _ (fun W h => Qo.out W (HB6.out.trans (h.mono HB6.out.size))) Tryd.underlying32 rfl Zo.out ?_
      simp only [Act.put, List.setIfInBounds_toArray, List.set_cons_zero, List.set_cons_succ]
      intro nz
      refine hK _ _ ?_
      clear hK K
      obtain ⟨wz, hbz, hwz⟩ : ∃ wz, Below w6.heap.size w6 wz ∧ wz = nz.val := ⟨_, nz.prop, rfl⟩
      rw [← hwz]
      clear hwz
      obtain ⟨cc, hcc⟩ : ∃ c, c = reNode nc (.slice D' dn k') (.slice A' an m') := ⟨_, rfl⟩
      rw [← hcc]
      have hbw : Below w4.heap.size w4 wz := HB6.out.trans (hbz.mono HB6.out.size)
      have f1' : ∀ W, Below wz.heap.size wz W → Calls Tryd.prog 20 #[.agg oc, .agg cc] W fun e w'' => e = .returned (.bool true) ∧ Below wz.heap.size wz w'' := fun W h => to_class h (by
        have hz := hbz.trans (h.mono hbz.size)
        rw [hcc]
        exact S3'.out W D' k' A' m' (hbw.trans (h.mono hbw.size)) ((G1.out.below hz).more hz.size) ((G2.out.below hz).more hz.size))
      have f2' : ∀ W, Below wz.heap.size wz W → Calls Tryd.prog 21 #[.agg oc, .agg nc] W fun e w'' => e = .returned (.bool true) ∧ Below wz.heap.size wz w'' := fun W h => to_class h (S4'.out W (hbw.trans (h.mono hbw.size)))
      have f3' : ∀ W, Below wz.heap.size wz W → Blk W w1.heap.size 32 oc := fun W h => Qo.out W (hbw.trans (h.mono hbw.size))
      have f4' : ∀ W, Below wz.heap.size wz W → Blk W w.heap.size 32 nc := fun W h => Qn.out W (hbw.trans (h.mono hbw.size))
      have F1 := Lib.hid f1'
      have F2 := Lib.hid f2'
      have F3 := Lib.hid f3'
      have F4 := Lib.hid f4'
      have HBW := Lib.hid hbw
      clear f1' f2' f3' f4' hbw hcc hbz
      refine wpAny_past_end 32 8 _ (by as_aux_lemma => kernel_rfl) (by as_aux_lemma => kernel_rfl) ?_
      simp only [List.drop_succ_cons, List.drop_zero]
      repeat (first
        | go_big_quiet_skip
        | (go_big_quiet_want
           first
             | (refine quiet_load_blk 32 (.tmp 5) rfl w1.heap.size rfl 32 oc _ F3.out Tryd.underlying32 rfl Zo.out ?_; simp only [Act.put, List.setIfInBounds_toArray, List.set_cons_zero, List.set_cons_succ])
             | (refine quiet_load_blk 32 (.tmp 2) rfl w.heap.size rfl 32 nc _ F4.out Tryd.underlying32 rfl HZN.out ?_; simp only [Act.put, List.setIfInBounds_toArray, List.set_cons_zero, List.set_cons_succ])
             | (refine quiet_call 20 _ _ rfl (#[.agg oc, .agg cc]) rfl Tryd.func20 (by as_aux_lemma => kernel_rfl) (by as_aux_lemma => kernel_rfl) (.bool true) F1.out ?_; simp only [Act.put, List.setIfInBounds_toArray, List.set_cons_zero, List.set_cons_succ])
             | (refine quiet_call 21 _ _ rfl (#[.agg oc, .agg nc]) rfl Tryd.func21 (by as_aux_lemma => kernel_rfl) (by as_aux_lemma => kernel_rfl) (.bool true) F2.out ?_; simp only [Act.put, List.setIfInBounds_toArray, List.set_cons_zero, List.set_cons_succ])
             | go_big_quiet_op
           go_big_quiet_on))
      refine wpQuiet_nil ?_
      intro nq
      go_wp2
      go_ret
      exact ⟨rfl, BW.out _ (HBW.out.trans (nq.prop.mono HBW.out.size))⟩
end Go.Proofs.YtaojjjcaofhmcaaDoor
