/- May a node be: the program's walk and the document's. (printed by gen_n2.py) -/
import Derived.Test.YtaojjjcaofhmcaaDoorSn1
import Derived.Test.YtaojjjcaofhmcaaDoorPd
set_option linter.unusedVariables false
set_option linter.unusedSimpArgs false
namespace Go.Proofs.YtaojjjcaofhmcaaDoor
open Go.RowKit

def textsE (L : List AclT) : Int := if L.any aclBig then 3 else if L.any aclBad then 1 else 0
def quotaBad (h : Bool) (c b : Int) : Bool := if h then decide (c < -1) || decide (b < -1) else decide (c ≠ 0) || decide (b ≠ 0)
def rightB (ov bg bd : Bool) (dn an : Nat) (h : Bool) (c b : Int) : Int :=
  if ov then (if 1048575 < dn ∨ 16 < an then 3 else if bg then 3 else if bd then 1 else if quotaBad h c b then 1 else 0) else 30
/-- may it be: 0, or the error -/
def rightE (p : ByteArray) (dn : Nat) (L : List AclT) (h : Bool) (c b : Int) : Int := rightB (okB p) (L.any aclBig) (L.any aclBad) dn L.length h c b
/-- the library's tables -/
structure EnvS (W : World) : Prop where
  u8 : Env W
  ml : ∃ m, W.cell? ⟨5, 0, none⟩ = some (.int .i64 m)
  gm : 5 < W.heap.size
theorem EnvS.below {W W' : World} (h : EnvS W) (hb : Below W.heap.size W W') : EnvS W' :=
  ⟨h.u8.below hb, by obtain ⟨m, hm⟩ := h.ml; exact ⟨m, (hb.cell (p := ⟨5, 0, none⟩) h.gm).trans hm⟩, Nat.lt_of_lt_of_le h.gm hb.size⟩

set_option maxRecDepth 100000 in
set_option maxHeartbeats 2000000 in
theorem texts_any (A : Option Addr) (n c B : Nat) (L : List AclT) (w : World) (hn : n ≤ 9223372036854775807) (hBw : B ≤ w.heap.size) (ha : Reads w B 3 A n (aclCells L)) (hfit : ∀ a ∈ L, aclFit a) :
    Calls Tryd.prog 58 #[.slice A n c] w fun e w' => e = .returned (.int .i64 (textsE L)) ∧ Below w.heap.size w w' := by
  have hl : L.length = n := by have := ha.1; rw [aclCells_length] at this; omega
  subst hl
  have HA := Lib.hid ha
  have HF := Lib.hid hfit
  clear ha hfit
  go_enter Tryd.func58, Tryd.ntmps58
  go_wp2
  go_loopw [3, 4] (fun u k' wr => ∃ k : Nat, k ≤ L.length ∧ k' = .int .i64 k ∧ u = .int .i64 (if (L.take k).any aclBad then 1 else 0) ∧ Hid ((L.take k).any aclBig = false) ∧ Below w.heap.size w wr) (fun _ k' _ => L.length - (intOf k').toNat)
  case atStart => exact ⟨0, Nat.zero_le _, rfl, by simp, by unfold Hid; simp, Below.refl _ _⟩
  case round =>
    obtain ⟨k, hk, rfl, rfl, HT, hB⟩ := hrel
    have HB := Lib.hid hB
    by_cases hlt : k < L.length
    · obtain ⟨b, off, rfl, _, hx⟩ := (HA.out.below (hB.mono hBw)).plain (by omega) (by omega)
      obtain ⟨g0, g1, g2⟩ := aclCells_get L k hlt
      have x1 := hx _ _ g1
      have x2 := hx _ _ g2
      simp only [← Nat.add_assoc] at x1 x2
      have hpk : (L.take (k + 1)).any aclBig = aclBig L[k] := by rw [List.take_succ_eq_append_getElem hlt, List.any_append, HT.out]; simp
      have hbk : (L.take (k + 1)).any aclBad = ((L.take k).any aclBad || aclBad L[k]) := by rw [List.take_succ_eq_append_getElem hlt, List.any_append]; simp
      have hmem : aclBig L[k] = true → L.any aclBig = true := fun h => List.any_eq_true.2 ⟨_, List.getElem_mem hlt, h⟩
      have hfk : aclFit L[k] := HF.out _ (List.getElem_mem hlt)
      clear hx g0 g1 g2 hB
      obtain ⟨uz, huz⟩ : ∃ uz : Int, uz = if (L.take k).any aclBad then 1 else 0 := ⟨_, rfl⟩
      rw [← huz]
      have HUZ := Lib.hid huz
      clear huz
      obtain ⟨a, haL⟩ : ∃ a, a = L[k] := ⟨_, rfl⟩
      rw [← haL] at x1 x2 hpk hbk hmem hfk
      obtain ⟨q0, q1, q2⟩ := a
      dsimp only at x1 x2
      clear haL
      by_cases h1 : (256 : Int) < q1.size
      · have HM := Lib.hid (hmem (by simp [aclBig, h1]))
        clear hpk hbk hmem hfk HT
        go_wp2
        go_ret
        exact ⟨by simp [textsE, HM.out], HB.out⟩
      by_cases h2 : (256 : Int) < q2.size
      · have HM := Lib.hid (hmem (by simp [aclBig, h1, h2]))
        clear hpk hbk hmem hfk HT
        go_wp2
        go_ret
        exact ⟨by simp [textsE, HM.out], HB.out⟩
      have hbig : aclBig (q0, q1, q2) = false := by simp [aclBig, h1, h2]
      rw [hbig] at hpk
      have HP := Lib.hid hpk
      have e1 := utf8_any q1 wr hfk.1
      have e2 := utf8_any q2 wr hfk.2
      have hbd : aclBad (q0, q1, q2) = (!Lib.validD q1.data.toList || !Lib.validD q2.data.toList) := rfl
      rw [hbd] at hbk
      generalize Lib.validD q1.data.toList = v1 at e1 hbk
      generalize Lib.validD q2.data.toList = v2 at e2 hbk
      have HK := Lib.hid hbk
      have E1 := Lib.hid e1
      have E2 := Lib.hid e2
      clear hpk hbk hmem hfk HT e1 e2 hbig hbd
      cases v1 with
      | false =>
        go_wp2_with (go_at_call 95; (with_reducible refine E1.out.mono ?_); rintro e w2 ⟨rfl, rfl⟩)
        go_roundw
        case rel => exact ⟨k + 1, by omega, by go_num, by rw [HK.out]; simp, HP.out, HB.out⟩
        case measure => simp [intOf]; omega
      | true =>
        cases v2 with
        | false =>
          go_wp2_with (first | (go_at_call 95; (with_reducible refine E1.out.mono ?_); rintro e w2 ⟨rfl, rfl⟩) | (go_at_call 95; (with_reducible refine E2.out.mono ?_); rintro e w2 ⟨rfl, rfl⟩))
          go_roundw
          case rel => exact ⟨k + 1, by omega, by go_num, by rw [HK.out]; simp, HP.out, HB.out⟩
          case measure => simp [intOf]; omega
        | true =>
          go_wp2_with (first | (go_at_call 95; (with_reducible refine E1.out.mono ?_); rintro e w2 ⟨rfl, rfl⟩) | (go_at_call 95; (with_reducible refine E2.out.mono ?_); rintro e w2 ⟨rfl, rfl⟩))
          go_roundw
          case rel => exact ⟨k + 1, by omega, by go_num, by rw [HUZ.out, HK.out, show (!true || !true) = false from rfl, Bool.or_false], HP.out, HB.out⟩
          case measure => simp [intOf]; omega
    · have e : L.any aclBig = false := by have := HT.out; rwa [List.take_of_length_le (by omega)] at this
      rw [List.take_of_length_le (by omega)]
      obtain ⟨uz, huz⟩ : ∃ uz : Int, uz = if L.any aclBad then 1 else 0 := ⟨_, rfl⟩
      rw [← huz]
      have HUZ := Lib.hid huz
      have HEE := Lib.hid e
      clear e hB HT huz
      go_wp2
      go_ret
      exact ⟨by show Ending.returned (.int .i64 uz) = _; rw [HUZ.out]; unfold textsE; rw [HEE.out, if_neg (show ¬ false = true by decide)], HB.out⟩


set_option maxRecDepth 100000 in
set_option maxHeartbeats 4000000 in
theorem right_any (p : ByteArray) (o cz mz pz az qz ct mt ve cr av : Int) (qh : Bool) (qc qb : Int) (dA : Option Addr) (dn dc : Nat) (aA : Option Addr) (an ac : Nat) (L : List AclT) (B : Nat) (w : World) (hBw : B ≤ w.heap.size) (hd1 : dn ≤ 9223372036854775807) (ha1 : an ≤ 9223372036854775807) (ha : Reads w B 3 aA an (aclCells L)) (hfit : ∀ a ∈ L, aclFit a) (hE : EnvS w) :
    Calls Tryd.prog 18 #[.agg #[.string p, .slice dA dn dc, .slice aA an ac, .int .i64 o, .int .i64 cz, .int .i64 mz, .int .i64 pz, .int .i64 az, .int .i64 qz, .int .i64 ct, .int .i64 mt, .int .i32 ve, .int .i32 cr, .int .i32 av, .bool qh, .int .i64 qc, .int .i64 qb]] w fun e w' => e = .returned (.int .i64 (rightE p dn L qh qc qb)) ∧ Below w.heap.size w w' := by
  have hl : L.length = an := by have := ha.1; rw [aclCells_length] at this; omega
  obtain ⟨w1, hw1⟩ : ∃ w1, w.alloc (.cells #[.string p, .slice dA dn dc, .slice aA an ac, .int .i64 o, .int .i64 cz, .int .i64 mz, .int .i64 pz, .int .i64 az, .int .i64 qz, .int .i64 ct, .int .i64 mt, .int .i32 ve, .int .i32 cr, .int .i32 av, .bool qh, .int .i64 qc, .int .i64 qb] 32) = w1 := ⟨_, rfl⟩
  have hb1 : Below w.heap.size w w1 := by rw [← hw1]; exact (Below.refl _ _).alloc (Nat.le_refl _) _
  have hS : Blk w1 w.heap.size 32 #[.string p, .slice dA dn dc, .slice aA an ac, .int .i64 o, .int .i64 cz, .int .i64 mz, .int .i64 pz, .int .i64 az, .int .i64 qz, .int .i64 ct, .int .i64 mt, .int .i32 ve, .int .i32 cr, .int .i32 av, .bool qh, .int .i64 qc, .int .i64 qb] := by rw [← hw1]; exact Blk.new _ _ _
  have hg : w.heap.size < w1.heap.size := by rw [← hw1]; simp
  obtain ⟨m, hm⟩ := (hE.below hb1).ml
  have HB1 := Lib.hid hb1
  have HS : Hid (∀ W, Below w1.heap.size w1 W → ∀ i, W.cell? ⟨w.heap.size, i, none⟩ = #[.string p, .slice dA dn dc, .slice aA an ac, .int .i64 o, .int .i64 cz, .int .i64 mz, .int .i64 pz, .int .i64 az, .int .i64 qz, .int .i64 ct, .int .i64 mt, .int .i32 ve, .int .i32 cr, .int .i32 av, .bool qh, .int .i64 qc, .int .i64 qb][i]?) := fun W h => (hS.below h hg).cell
  have kc1 := HS.out w1 (Below.refl _ _)
  have c0 := valid_ok p w1 m hm (hE.below hb1).gm
  have cb := fun W (h : Below w1.heap.size w1 W) => containsBig_any aA an ac B L W ha1 (Nat.le_trans hBw (hb1.trans (h.mono hb1.size)).size) (ha.below ((hb1.trans (h.mono hb1.size)).mono hBw))
  have cd := fun W (h : Below w1.heap.size w1 W) => containsBad_any aA an ac B L W ha1 (Nat.le_trans hBw (hb1.trans (h.mono hb1.size)).size) (ha.below ((hb1.trans (h.mono hb1.size)).mono hBw)) ((hE.below hb1).below h).u8 hfit
  unfold rightE
  rw [hl]
  have hfin : ∀ w', Below w1.heap.size w1 w' → Below w.heap.size w w' := fun w' h => hb1.trans (h.mono hb1.size)
  have HFIN := Lib.hid hfin
  clear hb1 hS hg hm ha hfit hE hl hfin
  generalize okB p = ov at c0 ⊢
  generalize L.any aclBig = bg at cb ⊢
  generalize L.any aclBad = bd at cd ⊢
  have C0 := Lib.hid c0
  have CB := Lib.hid cb
  have CD := Lib.hid cd
  clear c0 cb cd
  cases ov with
  | false =>
    go_enter Tryd.func18, Tryd.ntmps18
    go_wp2_with (first
      | (go_at_call 52; (with_reducible refine C0.out.mono ?_); rintro e w2 ⟨rfl, hb⟩; have kc2 := HS.out w2 hb; have HB2 := Lib.hid hb; clear hb kc1)
      | (go_at_call 53; (with_reducible refine (CB.out w2 HB2.out).mono ?_); rintro e w3 ⟨rfl, hb⟩; have HB3 : Hid (Below w1.heap.size w1 w3) := HB2.out.trans (hb.mono HB2.out.size); have kc3 := HS.out w3 HB3.out; clear hb kc2)
      | (go_at_call 53; (with_reducible refine (CD.out w3 HB3.out).mono ?_); rintro e w4 ⟨rfl, hb⟩; have HB4 : Hid (Below w1.heap.size w1 w4) := HB3.out.trans (hb.mono HB3.out.size); have kc4 := HS.out w4 HB4.out; clear hb kc3))
    go_ret
    exact ⟨by first | rfl | simp [rightB, quotaBad], HFIN.out _ (by first | exact HB4.out | exact HB4.out.alloc HB4.out.size _ | exact HB3.out | exact HB2.out)⟩
  | true =>
    by_cases h1 : (1048575 : Int) < dn
    · have h1n : 1048575 < dn := by omega
      go_enter Tryd.func18, Tryd.ntmps18
      go_wp2_with (first
        | (go_at_call 52; (with_reducible refine C0.out.mono ?_); rintro e w2 ⟨rfl, hb⟩; have kc2 := HS.out w2 hb; have HB2 := Lib.hid hb; clear hb kc1)
        | (go_at_call 53; (with_reducible refine (CB.out w2 HB2.out).mono ?_); rintro e w3 ⟨rfl, hb⟩; have HB3 : Hid (Below w1.heap.size w1 w3) := HB2.out.trans (hb.mono HB2.out.size); have kc3 := HS.out w3 HB3.out; clear hb kc2)
        | (go_at_call 53; (with_reducible refine (CD.out w3 HB3.out).mono ?_); rintro e w4 ⟨rfl, hb⟩; have HB4 : Hid (Below w1.heap.size w1 w4) := HB3.out.trans (hb.mono HB3.out.size); have kc4 := HS.out w4 HB4.out; clear hb kc3))
      go_ret
      exact ⟨by first | rfl | simp [rightB, quotaBad, h1n], HFIN.out _ (by first | exact HB4.out | exact HB4.out.alloc HB4.out.size _ | exact HB3.out | exact HB2.out)⟩
    have h1n : ¬ 1048575 < dn := by omega
    by_cases h2 : (16 : Int) < an
    · have h2n : 16 < an := by omega
      go_enter Tryd.func18, Tryd.ntmps18
      go_wp2_with (first
        | (go_at_call 52; (with_reducible refine C0.out.mono ?_); rintro e w2 ⟨rfl, hb⟩; have kc2 := HS.out w2 hb; have HB2 := Lib.hid hb; clear hb kc1)
        | (go_at_call 53; (with_reducible refine (CB.out w2 HB2.out).mono ?_); rintro e w3 ⟨rfl, hb⟩; have HB3 : Hid (Below w1.heap.size w1 w3) := HB2.out.trans (hb.mono HB2.out.size); have kc3 := HS.out w3 HB3.out; clear hb kc2)
        | (go_at_call 53; (with_reducible refine (CD.out w3 HB3.out).mono ?_); rintro e w4 ⟨rfl, hb⟩; have HB4 : Hid (Below w1.heap.size w1 w4) := HB3.out.trans (hb.mono HB3.out.size); have kc4 := HS.out w4 HB4.out; clear hb kc3))
      go_ret
      exact ⟨by first | rfl | simp [rightB, quotaBad, h1n, h2n], HFIN.out _ (by first | exact HB4.out | exact HB4.out.alloc HB4.out.size _ | exact HB3.out | exact HB2.out)⟩
    have h2n : ¬ 16 < an := by omega
    cases bg with
    | true =>
      go_enter Tryd.func18, Tryd.ntmps18
      go_wp2_with (first
        | (go_at_call 52; (with_reducible refine C0.out.mono ?_); rintro e w2 ⟨rfl, hb⟩; have kc2 := HS.out w2 hb; have HB2 := Lib.hid hb; clear hb kc1)
        | (go_at_call 53; (with_reducible refine (CB.out w2 HB2.out).mono ?_); rintro e w3 ⟨rfl, hb⟩; have HB3 : Hid (Below w1.heap.size w1 w3) := HB2.out.trans (hb.mono HB2.out.size); have kc3 := HS.out w3 HB3.out; clear hb kc2)
        | (go_at_call 53; (with_reducible refine (CD.out w3 HB3.out).mono ?_); rintro e w4 ⟨rfl, hb⟩; have HB4 : Hid (Below w1.heap.size w1 w4) := HB3.out.trans (hb.mono HB3.out.size); have kc4 := HS.out w4 HB4.out; clear hb kc3))
      go_ret
      exact ⟨by first | rfl | simp [rightB, quotaBad, h1n, h2n], HFIN.out _ (by first | exact HB4.out | exact HB4.out.alloc HB4.out.size _ | exact HB3.out | exact HB2.out)⟩
    | false =>
      cases bd with
      | true =>
        go_enter Tryd.func18, Tryd.ntmps18
        go_wp2_with (first
          | (go_at_call 52; (with_reducible refine C0.out.mono ?_); rintro e w2 ⟨rfl, hb⟩; have kc2 := HS.out w2 hb; have HB2 := Lib.hid hb; clear hb kc1)
          | (go_at_call 53; (with_reducible refine (CB.out w2 HB2.out).mono ?_); rintro e w3 ⟨rfl, hb⟩; have HB3 : Hid (Below w1.heap.size w1 w3) := HB2.out.trans (hb.mono HB2.out.size); have kc3 := HS.out w3 HB3.out; clear hb kc2)
          | (go_at_call 53; (with_reducible refine (CD.out w3 HB3.out).mono ?_); rintro e w4 ⟨rfl, hb⟩; have HB4 : Hid (Below w1.heap.size w1 w4) := HB3.out.trans (hb.mono HB3.out.size); have kc4 := HS.out w4 HB4.out; clear hb kc3))
        go_ret
        exact ⟨by first | rfl | simp [rightB, quotaBad, h1n, h2n], HFIN.out _ (by first | exact HB4.out | exact HB4.out.alloc HB4.out.size _ | exact HB3.out | exact HB2.out)⟩
      | false =>
        cases qh with
        | false =>
          by_cases h3 : qc = 0
          · by_cases h4 : qb = 0
            · subst h3 h4
              go_enter Tryd.func18, Tryd.ntmps18
              go_wp2_with (first
                | (go_at_call 52; (with_reducible refine C0.out.mono ?_); rintro e w2 ⟨rfl, hb⟩; have kc2 := HS.out w2 hb; have HB2 := Lib.hid hb; clear hb kc1)
                | (go_at_call 53; (with_reducible refine (CB.out w2 HB2.out).mono ?_); rintro e w3 ⟨rfl, hb⟩; have HB3 : Hid (Below w1.heap.size w1 w3) := HB2.out.trans (hb.mono HB2.out.size); have kc3 := HS.out w3 HB3.out; clear hb kc2)
                | (go_at_call 53; (with_reducible refine (CD.out w3 HB3.out).mono ?_); rintro e w4 ⟨rfl, hb⟩; have HB4 : Hid (Below w1.heap.size w1 w4) := HB3.out.trans (hb.mono HB3.out.size); have kc4 := HS.out w4 HB4.out; clear hb kc3))
              go_ret
              exact ⟨by first | rfl | simp [rightB, quotaBad, h1n, h2n], HFIN.out _ (by first | exact HB4.out | exact HB4.out.alloc HB4.out.size _ | exact HB3.out | exact HB2.out)⟩
            · subst h3
              go_enter Tryd.func18, Tryd.ntmps18
              go_wp2_with (first
                | (go_at_call 52; (with_reducible refine C0.out.mono ?_); rintro e w2 ⟨rfl, hb⟩; have kc2 := HS.out w2 hb; have HB2 := Lib.hid hb; clear hb kc1)
                | (go_at_call 53; (with_reducible refine (CB.out w2 HB2.out).mono ?_); rintro e w3 ⟨rfl, hb⟩; have HB3 : Hid (Below w1.heap.size w1 w3) := HB2.out.trans (hb.mono HB2.out.size); have kc3 := HS.out w3 HB3.out; clear hb kc2)
                | (go_at_call 53; (with_reducible refine (CD.out w3 HB3.out).mono ?_); rintro e w4 ⟨rfl, hb⟩; have HB4 : Hid (Below w1.heap.size w1 w4) := HB3.out.trans (hb.mono HB3.out.size); have kc4 := HS.out w4 HB4.out; clear hb kc3))
              go_ret
              exact ⟨by first | rfl | simp [rightB, quotaBad, h1n, h2n, h4], HFIN.out _ (by first | exact HB4.out | exact HB4.out.alloc HB4.out.size _ | exact HB3.out | exact HB2.out)⟩
          · skip
            go_enter Tryd.func18, Tryd.ntmps18
            go_wp2_with (first
              | (go_at_call 52; (with_reducible refine C0.out.mono ?_); rintro e w2 ⟨rfl, hb⟩; have kc2 := HS.out w2 hb; have HB2 := Lib.hid hb; clear hb kc1)
              | (go_at_call 53; (with_reducible refine (CB.out w2 HB2.out).mono ?_); rintro e w3 ⟨rfl, hb⟩; have HB3 : Hid (Below w1.heap.size w1 w3) := HB2.out.trans (hb.mono HB2.out.size); have kc3 := HS.out w3 HB3.out; clear hb kc2)
              | (go_at_call 53; (with_reducible refine (CD.out w3 HB3.out).mono ?_); rintro e w4 ⟨rfl, hb⟩; have HB4 : Hid (Below w1.heap.size w1 w4) := HB3.out.trans (hb.mono HB3.out.size); have kc4 := HS.out w4 HB4.out; clear hb kc3))
            go_ret
            exact ⟨by first | rfl | simp [rightB, quotaBad, h1n, h2n, h3], HFIN.out _ (by first | exact HB4.out | exact HB4.out.alloc HB4.out.size _ | exact HB3.out | exact HB2.out)⟩
        | true =>
          by_cases h3 : qc < -1
          · skip
            go_enter Tryd.func18, Tryd.ntmps18
            go_wp2_with (first
              | (go_at_call 52; (with_reducible refine C0.out.mono ?_); rintro e w2 ⟨rfl, hb⟩; have kc2 := HS.out w2 hb; have HB2 := Lib.hid hb; clear hb kc1)
              | (go_at_call 53; (with_reducible refine (CB.out w2 HB2.out).mono ?_); rintro e w3 ⟨rfl, hb⟩; have HB3 : Hid (Below w1.heap.size w1 w3) := HB2.out.trans (hb.mono HB2.out.size); have kc3 := HS.out w3 HB3.out; clear hb kc2)
              | (go_at_call 53; (with_reducible refine (CD.out w3 HB3.out).mono ?_); rintro e w4 ⟨rfl, hb⟩; have HB4 : Hid (Below w1.heap.size w1 w4) := HB3.out.trans (hb.mono HB3.out.size); have kc4 := HS.out w4 HB4.out; clear hb kc3))
            go_ret
            exact ⟨by first | rfl | simp [rightB, quotaBad, h1n, h2n, h3], HFIN.out _ (by first | exact HB4.out | exact HB4.out.alloc HB4.out.size _ | exact HB3.out | exact HB2.out)⟩
          by_cases h4 : qb < -1
          · skip
            go_enter Tryd.func18, Tryd.ntmps18
            go_wp2_with (first
              | (go_at_call 52; (with_reducible refine C0.out.mono ?_); rintro e w2 ⟨rfl, hb⟩; have kc2 := HS.out w2 hb; have HB2 := Lib.hid hb; clear hb kc1)
              | (go_at_call 53; (with_reducible refine (CB.out w2 HB2.out).mono ?_); rintro e w3 ⟨rfl, hb⟩; have HB3 : Hid (Below w1.heap.size w1 w3) := HB2.out.trans (hb.mono HB2.out.size); have kc3 := HS.out w3 HB3.out; clear hb kc2)
              | (go_at_call 53; (with_reducible refine (CD.out w3 HB3.out).mono ?_); rintro e w4 ⟨rfl, hb⟩; have HB4 : Hid (Below w1.heap.size w1 w4) := HB3.out.trans (hb.mono HB3.out.size); have kc4 := HS.out w4 HB4.out; clear hb kc3))
            go_ret
            exact ⟨by first | rfl | simp [rightB, quotaBad, h1n, h2n, h3, h4], HFIN.out _ (by first | exact HB4.out | exact HB4.out.alloc HB4.out.size _ | exact HB3.out | exact HB2.out)⟩
          go_enter Tryd.func18, Tryd.ntmps18
          go_wp2_with (first
            | (go_at_call 52; (with_reducible refine C0.out.mono ?_); rintro e w2 ⟨rfl, hb⟩; have kc2 := HS.out w2 hb; have HB2 := Lib.hid hb; clear hb kc1)
            | (go_at_call 53; (with_reducible refine (CB.out w2 HB2.out).mono ?_); rintro e w3 ⟨rfl, hb⟩; have HB3 : Hid (Below w1.heap.size w1 w3) := HB2.out.trans (hb.mono HB2.out.size); have kc3 := HS.out w3 HB3.out; clear hb kc2)
            | (go_at_call 53; (with_reducible refine (CD.out w3 HB3.out).mono ?_); rintro e w4 ⟨rfl, hb⟩; have HB4 : Hid (Below w1.heap.size w1 w4) := HB3.out.trans (hb.mono HB3.out.size); have kc4 := HS.out w4 HB4.out; clear hb kc3))
          go_ret
          exact ⟨by first | rfl | simp [rightB, quotaBad, h1n, h2n, h3, h4], HFIN.out _ (by first | exact HB4.out | exact HB4.out.alloc HB4.out.size _ | exact HB3.out | exact HB2.out)⟩

set_option maxRecDepth 100000 in
set_option maxHeartbeats 4000000 in
theorem refRight_any (p : ByteArray) (o cz mz pz az qz ct mt ve cr av : Int) (qh : Bool) (qc qb : Int) (dA : Option Addr) (dn dc : Nat) (aA : Option Addr) (an ac : Nat) (L : List AclT) (B : Nat) (w : World) (hBw : B ≤ w.heap.size) (hd1 : dn ≤ 9223372036854775807) (ha1 : an ≤ 9223372036854775807) (ha : Reads w B 3 aA an (aclCells L)) (hfit : ∀ a ∈ L, aclFit a) (hE : EnvS w) :
    Calls Tryd.prog 19 #[.agg #[.string p, .slice dA dn dc, .slice aA an ac, .int .i64 o, .int .i64 cz, .int .i64 mz, .int .i64 pz, .int .i64 az, .int .i64 qz, .int .i64 ct, .int .i64 mt, .int .i32 ve, .int .i32 cr, .int .i32 av, .bool qh, .int .i64 qc, .int .i64 qb]] w fun e w' => e = .returned (.int .i64 (rightE p dn L qh qc qb)) ∧ Below w.heap.size w w' := by
  have hl : L.length = an := by have := ha.1; rw [aclCells_length] at this; omega
  obtain ⟨w1, hw1⟩ : ∃ w1, w.alloc (.cells #[.string p, .slice dA dn dc, .slice aA an ac, .int .i64 o, .int .i64 cz, .int .i64 mz, .int .i64 pz, .int .i64 az, .int .i64 qz, .int .i64 ct, .int .i64 mt, .int .i32 ve, .int .i32 cr, .int .i32 av, .bool qh, .int .i64 qc, .int .i64 qb] 32) = w1 := ⟨_, rfl⟩
  have hb1 : Below w.heap.size w w1 := by rw [← hw1]; exact (Below.refl _ _).alloc (Nat.le_refl _) _
  have hS : Blk w1 w.heap.size 32 #[.string p, .slice dA dn dc, .slice aA an ac, .int .i64 o, .int .i64 cz, .int .i64 mz, .int .i64 pz, .int .i64 az, .int .i64 qz, .int .i64 ct, .int .i64 mt, .int .i32 ve, .int .i32 cr, .int .i32 av, .bool qh, .int .i64 qc, .int .i64 qb] := by rw [← hw1]; exact Blk.new _ _ _
  have hg : w.heap.size < w1.heap.size := by rw [← hw1]; simp
  obtain ⟨m, hm⟩ := (hE.below hb1).ml
  have HB1 := Lib.hid hb1
  have HS : Hid (∀ W, Below w1.heap.size w1 W → ∀ i, W.cell? ⟨w.heap.size, i, none⟩ = #[.string p, .slice dA dn dc, .slice aA an ac, .int .i64 o, .int .i64 cz, .int .i64 mz, .int .i64 pz, .int .i64 az, .int .i64 qz, .int .i64 ct, .int .i64 mt, .int .i32 ve, .int .i32 cr, .int .i32 av, .bool qh, .int .i64 qc, .int .i64 qb][i]?) := fun W h => (hS.below h hg).cell
  have kc1 := HS.out w1 (Below.refl _ _)
  have c0 : Calls Tryd.prog 57 #[.string p] w1 fun e w' => e = .returned (.bool (okB p)) ∧ Below w1.heap.size w1 w' := (rvalid_ok p w1).mono fun e w' ⟨h1, n, h2⟩ => ⟨h1, by rw [h2]; exact below_drewN' (Below.refl _ _) n⟩
  have cb := fun W (h : Below w1.heap.size w1 W) => texts_any aA an ac B L W ha1 (Nat.le_trans hBw (hb1.trans (h.mono hb1.size)).size) (ha.below ((hb1.trans (h.mono hb1.size)).mono hBw)) hfit
  unfold textsE at cb
  have cd : (if L.any aclBad then true else true) = true := by split <;> rfl
  unfold rightE
  rw [hl]
  have hfin : ∀ w', Below w1.heap.size w1 w' → Below w.heap.size w w' := fun w' h => hb1.trans (h.mono hb1.size)
  have HFIN := Lib.hid hfin
  clear hb1 hS hg hm ha hfit hE hl hfin
  generalize okB p = ov at c0 ⊢
  generalize L.any aclBig = bg at cb ⊢
  generalize L.any aclBad = bd at cb cd ⊢
  have C0 := Lib.hid c0
  have CB := Lib.hid cb
  have CD := Lib.hid cd
  clear c0 cb cd
  cases ov with
  | false =>
    go_enter Tryd.func19, Tryd.ntmps19
    go_wp2_with (first
      | (go_at_call 57; (with_reducible refine C0.out.mono ?_); rintro e w2 ⟨rfl, hb⟩; have kc2 := HS.out w2 hb; have HB2 := Lib.hid hb; clear hb kc1)
      | (go_at_call 58; (with_reducible refine (CB.out w2 HB2.out).mono ?_); rintro e w4 ⟨rfl, hb⟩; have HB4 : Hid (Below w1.heap.size w1 w4) := HB2.out.trans (hb.mono HB2.out.size); have kc4 := HS.out w4 HB4.out; clear hb kc2))
    go_ret
    exact ⟨by first | rfl | simp [rightB, quotaBad], HFIN.out _ (by first | exact HB4.out | exact HB4.out.alloc HB4.out.size _ | exact HB3.out | exact HB2.out)⟩
  | true =>
    by_cases h1 : (1048575 : Int) < dn
    · have h1n : 1048575 < dn := by omega
      go_enter Tryd.func19, Tryd.ntmps19
      go_wp2_with (first
        | (go_at_call 57; (with_reducible refine C0.out.mono ?_); rintro e w2 ⟨rfl, hb⟩; have kc2 := HS.out w2 hb; have HB2 := Lib.hid hb; clear hb kc1)
        | (go_at_call 58; (with_reducible refine (CB.out w2 HB2.out).mono ?_); rintro e w4 ⟨rfl, hb⟩; have HB4 : Hid (Below w1.heap.size w1 w4) := HB2.out.trans (hb.mono HB2.out.size); have kc4 := HS.out w4 HB4.out; clear hb kc2))
      go_ret
      exact ⟨by first | rfl | simp [rightB, quotaBad, h1n], HFIN.out _ (by first | exact HB4.out | exact HB4.out.alloc HB4.out.size _ | exact HB3.out | exact HB2.out)⟩
    have h1n : ¬ 1048575 < dn := by omega
    by_cases h2 : (16 : Int) < an
    · have h2n : 16 < an := by omega
      go_enter Tryd.func19, Tryd.ntmps19
      go_wp2_with (first
        | (go_at_call 57; (with_reducible refine C0.out.mono ?_); rintro e w2 ⟨rfl, hb⟩; have kc2 := HS.out w2 hb; have HB2 := Lib.hid hb; clear hb kc1)
        | (go_at_call 58; (with_reducible refine (CB.out w2 HB2.out).mono ?_); rintro e w4 ⟨rfl, hb⟩; have HB4 : Hid (Below w1.heap.size w1 w4) := HB2.out.trans (hb.mono HB2.out.size); have kc4 := HS.out w4 HB4.out; clear hb kc2))
      go_ret
      exact ⟨by first | rfl | simp [rightB, quotaBad, h1n, h2n], HFIN.out _ (by first | exact HB4.out | exact HB4.out.alloc HB4.out.size _ | exact HB3.out | exact HB2.out)⟩
    have h2n : ¬ 16 < an := by omega
    cases bg with
    | true =>
      go_enter Tryd.func19, Tryd.ntmps19
      go_wp2_with (first
        | (go_at_call 57; (with_reducible refine C0.out.mono ?_); rintro e w2 ⟨rfl, hb⟩; have kc2 := HS.out w2 hb; have HB2 := Lib.hid hb; clear hb kc1)
        | (go_at_call 58; (with_reducible refine (CB.out w2 HB2.out).mono ?_); rintro e w4 ⟨rfl, hb⟩; have HB4 : Hid (Below w1.heap.size w1 w4) := HB2.out.trans (hb.mono HB2.out.size); have kc4 := HS.out w4 HB4.out; clear hb kc2))
      go_ret
      exact ⟨by first | rfl | simp [rightB, quotaBad, h1n, h2n], HFIN.out _ (by first | exact HB4.out | exact HB4.out.alloc HB4.out.size _ | exact HB3.out | exact HB2.out)⟩
    | false =>
      cases bd with
      | true =>
        go_enter Tryd.func19, Tryd.ntmps19
        go_wp2_with (first
          | (go_at_call 57; (with_reducible refine C0.out.mono ?_); rintro e w2 ⟨rfl, hb⟩; have kc2 := HS.out w2 hb; have HB2 := Lib.hid hb; clear hb kc1)
          | (go_at_call 58; (with_reducible refine (CB.out w2 HB2.out).mono ?_); rintro e w4 ⟨rfl, hb⟩; have HB4 : Hid (Below w1.heap.size w1 w4) := HB2.out.trans (hb.mono HB2.out.size); have kc4 := HS.out w4 HB4.out; clear hb kc2))
        go_ret
        exact ⟨by first | rfl | simp [rightB, quotaBad, h1n, h2n], HFIN.out _ (by first | exact HB4.out | exact HB4.out.alloc HB4.out.size _ | exact HB3.out | exact HB2.out)⟩
      | false =>
        cases qh with
        | false =>
          by_cases h3 : qc = 0
          · by_cases h4 : qb = 0
            · subst h3 h4
              go_enter Tryd.func19, Tryd.ntmps19
              go_wp2_with (first
                | (go_at_call 57; (with_reducible refine C0.out.mono ?_); rintro e w2 ⟨rfl, hb⟩; have kc2 := HS.out w2 hb; have HB2 := Lib.hid hb; clear hb kc1)
                | (go_at_call 58; (with_reducible refine (CB.out w2 HB2.out).mono ?_); rintro e w4 ⟨rfl, hb⟩; have HB4 : Hid (Below w1.heap.size w1 w4) := HB2.out.trans (hb.mono HB2.out.size); have kc4 := HS.out w4 HB4.out; clear hb kc2))
              go_ret
              exact ⟨by first | rfl | simp [rightB, quotaBad, h1n, h2n], HFIN.out _ (by first | exact HB4.out | exact HB4.out.alloc HB4.out.size _ | exact HB3.out | exact HB2.out)⟩
            · subst h3
              go_enter Tryd.func19, Tryd.ntmps19
              go_wp2_with (first
                | (go_at_call 57; (with_reducible refine C0.out.mono ?_); rintro e w2 ⟨rfl, hb⟩; have kc2 := HS.out w2 hb; have HB2 := Lib.hid hb; clear hb kc1)
                | (go_at_call 58; (with_reducible refine (CB.out w2 HB2.out).mono ?_); rintro e w4 ⟨rfl, hb⟩; have HB4 : Hid (Below w1.heap.size w1 w4) := HB2.out.trans (hb.mono HB2.out.size); have kc4 := HS.out w4 HB4.out; clear hb kc2))
              go_ret
              exact ⟨by first | rfl | simp [rightB, quotaBad, h1n, h2n, h4], HFIN.out _ (by first | exact HB4.out | exact HB4.out.alloc HB4.out.size _ | exact HB3.out | exact HB2.out)⟩
          · skip
            go_enter Tryd.func19, Tryd.ntmps19
            go_wp2_with (first
              | (go_at_call 57; (with_reducible refine C0.out.mono ?_); rintro e w2 ⟨rfl, hb⟩; have kc2 := HS.out w2 hb; have HB2 := Lib.hid hb; clear hb kc1)
              | (go_at_call 58; (with_reducible refine (CB.out w2 HB2.out).mono ?_); rintro e w4 ⟨rfl, hb⟩; have HB4 : Hid (Below w1.heap.size w1 w4) := HB2.out.trans (hb.mono HB2.out.size); have kc4 := HS.out w4 HB4.out; clear hb kc2))
            go_ret
            exact ⟨by first | rfl | simp [rightB, quotaBad, h1n, h2n, h3], HFIN.out _ (by first | exact HB4.out | exact HB4.out.alloc HB4.out.size _ | exact HB3.out | exact HB2.out)⟩
        | true =>
          by_cases h3 : qc < -1
          · skip
            go_enter Tryd.func19, Tryd.ntmps19
            go_wp2_with (first
              | (go_at_call 57; (with_reducible refine C0.out.mono ?_); rintro e w2 ⟨rfl, hb⟩; have kc2 := HS.out w2 hb; have HB2 := Lib.hid hb; clear hb kc1)
              | (go_at_call 58; (with_reducible refine (CB.out w2 HB2.out).mono ?_); rintro e w4 ⟨rfl, hb⟩; have HB4 : Hid (Below w1.heap.size w1 w4) := HB2.out.trans (hb.mono HB2.out.size); have kc4 := HS.out w4 HB4.out; clear hb kc2))
            go_ret
            exact ⟨by first | rfl | simp [rightB, quotaBad, h1n, h2n, h3], HFIN.out _ (by first | exact HB4.out | exact HB4.out.alloc HB4.out.size _ | exact HB3.out | exact HB2.out)⟩
          by_cases h4 : qb < -1
          · skip
            go_enter Tryd.func19, Tryd.ntmps19
            go_wp2_with (first
              | (go_at_call 57; (with_reducible refine C0.out.mono ?_); rintro e w2 ⟨rfl, hb⟩; have kc2 := HS.out w2 hb; have HB2 := Lib.hid hb; clear hb kc1)
              | (go_at_call 58; (with_reducible refine (CB.out w2 HB2.out).mono ?_); rintro e w4 ⟨rfl, hb⟩; have HB4 : Hid (Below w1.heap.size w1 w4) := HB2.out.trans (hb.mono HB2.out.size); have kc4 := HS.out w4 HB4.out; clear hb kc2))
            go_ret
            exact ⟨by first | rfl | simp [rightB, quotaBad, h1n, h2n, h3, h4], HFIN.out _ (by first | exact HB4.out | exact HB4.out.alloc HB4.out.size _ | exact HB3.out | exact HB2.out)⟩
          go_enter Tryd.func19, Tryd.ntmps19
          go_wp2_with (first
            | (go_at_call 57; (with_reducible refine C0.out.mono ?_); rintro e w2 ⟨rfl, hb⟩; have kc2 := HS.out w2 hb; have HB2 := Lib.hid hb; clear hb kc1)
            | (go_at_call 58; (with_reducible refine (CB.out w2 HB2.out).mono ?_); rintro e w4 ⟨rfl, hb⟩; have HB4 : Hid (Below w1.heap.size w1 w4) := HB2.out.trans (hb.mono HB2.out.size); have kc4 := HS.out w4 HB4.out; clear hb kc2))
          go_ret
          exact ⟨by first | rfl | simp [rightB, quotaBad, h1n, h2n, h3, h4], HFIN.out _ (by first | exact HB4.out | exact HB4.out.alloc HB4.out.size _ | exact HB3.out | exact HB2.out)⟩
end Go.Proofs.YtaojjjcaofhmcaaDoor
