/- The law PathsBack: the walk. -/
import Derived.Test.YtkhnchahoidbaaaDoorPd31
namespace Go.Proofs.YtkhnchahoidbaaaDoor
open Go.RowKit

theorem e_join {w W : World} (hE : Env w) (hB : Below w.heap.size w W) (a b : ByteArray) (ha : a.size ≤ 140737488355328) (hb : b.size ≤ 140737488355328) : Calls Tryd.prog 29 #[.string a, .string b] W fun e w' => e = .returned (.tuple #[.string (joinT a b (joinP a b)), .int .i64 (joinE a b (joinP a b))]) ∧ Below W.heap.size W w' := by
  obtain ⟨m, hm⟩ := (hE.on hB).c0
  exact (join_any a b ha hb W m hm (by have := (hE.on hB).hG; omega)).mono fun _ _ ⟨he, hb⟩ => ⟨he, hb⟩
theorem e_join_chain {w W : World} (hE : Env w) (hB : Below w.heap.size w W) {y : ByteArray} (h : okS y) (hr : (y.toList == [47]) = false) : Calls Tryd.prog 29 #[.string (parentS y), .string (nameS y)] W fun e w' => e = .returned (.tuple #[.string y, .int .i64 0]) ∧ Below W.heap.size W w' := by
  have h1 := (ok_parts h).2.1
  have h0 := (ok_parts (ok_parent h).1).2.1
  have h2 : (nameS y).size ≤ y.size := by unfold nameS; simp only [ByteArray.size_extract]; omega
  refine (e_join hE hB (parentS y) (nameS y) (by omega) (by omega)).mono fun e w' ⟨he, hb⟩ => ⟨?_, hb⟩
  rw [he, (join_chain h hr).1, (join_chain h hr).2]
theorem e_under' {w W : World} (hE : Env w) (hB : Below w.heap.size w W) (a p : ByteArray) (ha : a.size ≤ 140737488355328) : Calls Tryd.prog 27 #[.string a, .string p] W fun e w' => e = .returned (.bool (underB a p)) ∧ Below W.heap.size W w' := by
  obtain ⟨m, hm⟩ := (hE.on hB).c0
  exact under_any a p ha W m hm (by have := (hE.on hB).hG; omega)
theorem e_name {w W : World} (hE : Env w) (hB : Below w.heap.size w W) (q : ByteArray) : Calls Tryd.prog 14 #[.string q] W fun e w' => e = .returned (.tuple #[.string (nameT q), .int .i64 (nameE q)]) ∧ Below w.heap.size w w' := by
  obtain ⟨m, hm⟩ := (hE.on hB).c0
  exact (name_all q W m hm (by have := (hE.on hB).hG; omega)).mono fun _ _ ⟨he, hb⟩ => ⟨he, hB.trans (hb.mono hB.size)⟩
theorem e_parts {w W : World} (hE : Env w) (hB : Below w.heap.size w W) (p : ByteArray) : Calls Tryd.prog 10 #[.string p] W fun e w' => (∃ A c, e = .returned (.tuple #[.slice A (partsOf p).length c, .int .i64 (partsE p)]) ∧ Reads w' w'.heap.size 1 A (partsOf p).length (strs (partsOf p))) ∧ Below w.heap.size w w' ∧ (partsOf p).length ≤ 4097 := by
  obtain ⟨m, hm⟩ := (hE.on hB).c0
  exact (parts_all p W m hm (by have := (hE.on hB).hG; omega)).mono fun _ _ ⟨he, hb, hl⟩ => ⟨he, hB.trans (hb.mono hB.size), hl⟩

set_option maxRecDepth 100000 in
set_option maxHeartbeats 2000000 in
theorem back_law (p : ByteArray) (hp : p.size ≤ 140737488355327) (n : Int) (hn0 : -2147483648 ≤ n) (hn1 : n ≤ 2147483647) {w : World} (hE : Env w) :
    Calls Tryd.prog 9 #[.string p, .int .i32 n] w fun e w' => e = .returned (.bool true) ∧ Below w.heap.size w w' := by
  have HA := Lib.hid (alive_any hE)
  have HP := Lib.hid (fun W (hB : Below w.heap.size w W) => e_parts hE hB p)
  have HV := Lib.hid (fun W (hB : Below w.heap.size w W) => e_valid hE hB p)
  rcases Bool.eq_false_or_eq_true (okB p) with g1 | g1
  · have hok := (okB_iff p).1 g1
    obtain ⟨x, hp4, _, _⟩ := ok_parts hok
    obtain ⟨cl, c0, cu, cc⟩ := chain_all p.size p hok (by omega)
    have hch : chainF p.size p = aboveOf p ++ [p] := by unfold chainF aboveOf; rw [if_pos g1]
    rw [hch] at cl c0 cu cc
    have e3 : partsE p = 0 := by unfold partsE; rw [if_pos g1]
    have hlen : (aboveOf p).length = (partsOf p).length := by
      rw [List.length_append] at cl
      simp only [List.length_cons, List.length_nil] at cl
      omega
    have clast : (aboveOf p ++ [p])[(partsOf p).length]? = some p := by
      rw [List.getElem?_append_right (by omega), hlen, Nat.sub_self]
      rfl
    rw [e3] at HP
    rw [g1] at HV
    have CU := Lib.hid cu
    have CC := Lib.hid cc
    have CL := Lib.hid clast
    have HJ := Lib.hid (fun y (h : okS y) (hr : (y.toList == [47]) = false) W (hB : Below w.heap.size w W) => e_join_chain hE hB h hr)
    have HLn := Lib.hid cl
    have HU := Lib.hid (fun q (hq : okB q = true) W (hB : Below w.heap.size w W) => e_under' hE hB q p (by have := (ok_parts ((okB_iff q).1 hq)).2.1; omega))
    have HEn := Lib.hid hE
    have HOK := Lib.hid hok
    have C0 := Lib.hid c0
    have HK := Lib.hid g1
    generalize hPL : partsOf p = PL at *
    generalize hAL : aboveOf p = AL at *
    clear hE e3 cl cu cc hch hlen c0 clast hok hPL hAL g1
    go_enter Tryd.func9, Tryd.ntmps9
    go_wp2_with (first
      | (go_at_call 25; refine HA.out.mono ?_; rintro e w1 ⟨rfl, hb1⟩)
      | (go_at_call 28; refine (HV.out _ hb1).mono ?_; rintro e w2 ⟨rfl, hb2⟩)
      | (go_at_call 10; refine (HP.out _ hb2).mono ?_; rintro e w3 ⟨⟨A3, c3, rfl, r3⟩, hb3, hn3⟩))
    have RP := Lib.hid r3
    clear r3 HP HV HA
    go_loopw [8, 9, 10] (fun u v x wr => ∃ (k : Nat) (q : ByteArray), u = .int .i64 0 ∧ v = .string q ∧ x = .int .i64 k ∧ k ≤ PL.length ∧ Hid ((AL ++ [p])[k]? = some q) ∧ Below w3.heap.size w3 wr) (fun _ _ x _ => PL.length - (intOf x).toNat)
    case atStart => exact ⟨0, _, rfl, rfl, rfl, by omega, C0, Below.refl _ _⟩
    case round =>
      obtain ⟨k, q, rfl, rfl, rfl, hk, HQ, hbw⟩ := hrel
      have hBw := hb3.trans (hbw.mono hb3.size)
      by_cases hlt : k < PL.length
      · obtain ⟨b, off, nm', rfl, hblt, hnm, cn⟩ := reads_str RP.out k hlt
        have hd : wr.cell? ⟨b, off + k, none⟩ = some (.string nm') := by
          rw [hbw.cell (p := ⟨b, off + k, none⟩) hblt]; exact cn
        have hl := HLn.out
        obtain ⟨y, hy⟩ : ∃ y, (AL ++ [p])[k + 1]? = some y := ⟨_, List.getElem?_eq_getElem (by omega)⟩
        obtain ⟨y1, y2, y3, y4⟩ := CC.out k q y nm' HQ.out hy hnm
        have hys := (okB_iff y).1 y1
        have hyr : (y.toList == [47]) = false := by
          unfold parB at y2
          rw [y1, Bool.true_and] at y2
          simpa using y2
        have hJ := HJ.out y hys hyr wr hBw
        rw [y3, y4] at hJ
        have hU := HU.out y y1
        rw [CU.out y (List.mem_of_getElem? hy)] at hU
        have HJ1 := Lib.hid hJ
        have HU1 := Lib.hid hU
        have HQ2 := Lib.hid hy
        clear hJ hU y1 y2 y3 y4 hys hyr hy hl hnm cn HQ CU CC CL HLn HJ HU RP HEn HOK C0 HK
        go_wp2_with (first
          | (go_at_call 29; refine HJ1.out.mono ?_; rintro e w4 ⟨rfl, hb4⟩)
          | (go_at_call 27; refine (HU1.out _ (hBw.trans (hb4.mono hBw.size))).mono ?_; rintro e w5 ⟨rfl, hb5⟩
             have hb45 := hbw.trans ((hb4.trans (hb5.mono hb4.size)).mono hbw.size)))
        go_roundw
        case rel => exact ⟨k + 1, y, rfl, rfl, by simp, by omega, HQ2, hb45⟩
        case measure => simp [intOf]; omega
      · have hkk : k = PL.length := by omega
        subst hkk
        have hq : q = p := by
          have h := HQ.out
          rw [CL.out] at h
          injection h with h
          exact h.symm
        subst hq
        have hok := HOK.out
        have hE := HEn.out
        have HS : Hid (∀ W, Below w.heap.size w W → Calls Tryd.prog 19 #[.string (q ++ ⟨#[45]⟩), .int .i32 n] W fun e w' => e = .returned (.tuple #[.string (seqT (q ++ ⟨#[45]⟩) n), .int .i64 (seqE (q ++ ⟨#[45]⟩) n)]) ∧ Below w.heap.size w w') := fun W hB => e_seq hE hB _ (by rw [size_append]; have e1 : (⟨#[45]⟩ : ByteArray).size = 1 := rfl; omega) n hn0 hn1
        have HPar : Hid (∀ W, Below w.heap.size w W → Calls Tryd.prog 12 #[.string q] W fun e w' => e = .returned (.tuple #[.string (parT q), .int .i64 (parE q)]) ∧ Below w.heap.size w w') := fun W hB => e_parent hE hB q
        have HNam : Hid (∀ W, Below w.heap.size w W → Calls Tryd.prog 14 #[.string q] W fun e w' => e = .returned (.tuple #[.string (nameT q), .int .i64 (nameE q)]) ∧ Below w.heap.size w w') := fun W hB => e_name hE hB q
        have HSp : Hid (∀ W, Below w.heap.size w W → seqB (q ++ ⟨#[45]⟩) n = true → Calls Tryd.prog 23 #[.string (q ++ ⟨#[45]⟩ ++ sufB n)] W fun e w' => e = .returned (.tuple #[.string (splT (q ++ ⟨#[45]⟩ ++ sufB n)), .int .i32 (splV (q ++ ⟨#[45]⟩ ++ sufB n)), .bool (splB (q ++ ⟨#[45]⟩ ++ sufB n))]) ∧ Below w.heap.size w w') := fun W hB hs => e_split hE hB _ (by
          unfold seqB at hs
          rw [Bool.and_eq_true] at hs
          have := of_decide_eq_true hs.2
          omega)
        have hQQ : seqB (q ++ ⟨#[45]⟩) n = true → -999999999 ≤ n → splT (q ++ ⟨#[45]⟩ ++ sufB n) = q ++ ⟨#[45]⟩ ∧ splV (q ++ ⟨#[45]⟩ ++ sufB n) = n ∧ splB (q ++ ⟨#[45]⟩ ++ sufB n) = true := fun hs h0 => seq_split hok n h0 hn1 hs
        have hLo : seqB (q ++ ⟨#[45]⟩) n = false → 4084 < q.size := fun hs => seq_long hok n hn0 hn1 hs
        clear hlt hk CU CC CL HLn RP C0
        rcases Bool.eq_false_or_eq_true (q.toList == [47]) with g2 | g2
        · clear HPar HNam HJ HU HEn hE HOK hok
          rcases Bool.eq_false_or_eq_true (seqB (q ++ ⟨#[45]⟩) n) with hs | hs
          · have e1 : seqT (q ++ ⟨#[45]⟩) n = q ++ ⟨#[45]⟩ ++ sufB n := by unfold seqT; rw [if_pos hs]
            have e2 : seqE (q ++ ⟨#[45]⟩) n = 0 := by unfold seqE; rw [if_pos hs]
            rw [e1, e2] at HS
            have HSp := Lib.hid (fun W hB => HSp.out W hB hs)
            by_cases hn : -999999999 ≤ n
            · obtain ⟨r1, r2, r3⟩ := hQQ hs hn
              rw [r1, r2, r3] at HSp
              clear hs hQQ hLo e1 e2 r1 r2 r3
              generalize q ++ ⟨#[45]⟩ ++ sufB n = S at HS HSp
              go_wp2_with (first
                | (go_at_call 19; refine (HS.out _ hBw).mono ?_; rintro e w4 ⟨rfl, hb4⟩)
                | (go_at_call 23; refine (HSp.out _ hb4).mono ?_; rintro e w5 ⟨rfl, hb5⟩))
              go_ret
              exact ⟨rfl, hb5⟩
            · clear hs hQQ hLo e1 e2
              generalize splT (q ++ ⟨#[45]⟩ ++ sufB n) = sT at HSp
              generalize splV (q ++ ⟨#[45]⟩ ++ sufB n) = sV at HSp
              generalize splB (q ++ ⟨#[45]⟩ ++ sufB n) = sB at HSp
              generalize q ++ ⟨#[45]⟩ ++ sufB n = S at HS HSp
              go_wp2_with (first
                | (go_at_call 19; refine (HS.out _ hBw).mono ?_; rintro e w4 ⟨rfl, hb4⟩)
                | (go_at_call 23; refine (HSp.out _ hb4).mono ?_; rintro e w5 ⟨rfl, hb5⟩))
              go_ret
              exact ⟨rfl, hb5⟩
          · have e1 : seqT (q ++ ⟨#[45]⟩) n = ⟨#[]⟩ := by unfold seqT; rw [hs]; rfl
            have e2 : seqE (q ++ ⟨#[45]⟩) n = 30 := by unfold seqE; rw [hs]; rfl
            rw [e1, e2] at HS
            have hl := hLo hs
            clear hs hQQ hLo e1 e2 HSp
            go_wp2_with (first
              | (go_at_call 19; refine (HS.out _ hBw).mono ?_; rintro e w4 ⟨rfl, hb4⟩))
            go_ret
            exact ⟨congrArg (fun b => Ending.returned (.bool b)) (decide_eq_true (by omega)), hb4⟩
        · have hpB : parB q = true := by unfold parB; rw [HK.out, g2]; rfl
          have ep1 : parT q = parentS q := by unfold parT; rw [if_pos hpB]
          have ep2 : parE q = 0 := by unfold parE; rw [if_pos hpB]
          have ep3 : nameT q = nameS q := by unfold nameT; rw [if_pos HK.out]; rfl
          have ep4 : nameE q = 0 := by unfold nameE; rw [if_pos HK.out]
          rw [ep1, ep2] at HPar
          rw [ep3, ep4] at HNam
          obtain ⟨o1, o2, o3, o4⟩ := parent_ord hok g2
          have HJ1 : Hid (∀ W, Below w.heap.size w W → Calls Tryd.prog 29 #[.string (parentS q), .string (nameS q)] W fun e w' => e = .returned (.tuple #[.string q, .int .i64 0]) ∧ Below w.heap.size w w') := fun W hB => (HJ.out q hok g2 W hB).mono fun _ _ ⟨he, hb⟩ => ⟨he, hB.trans (hb.mono hB.size)⟩
          have O1 := Lib.hid (fun W (hB : Below w.heap.size w W) => e_order hB (parentS q) q)
          have O2 := Lib.hid (fun W (hB : Below w.heap.size w W) => e_order hB q (parentS q))
          have U1 := Lib.hid (fun W (hB : Below w.heap.size w W) => e_under hE hB (parentS q) q (by have := (ok_parts (ok_parent hok).1).2.1; omega))
          have U2 := Lib.hid (fun W (hB : Below w.heap.size w W) => e_under hE hB q (parentS q) (by omega))
          rw [o1] at O1
          rw [o2] at O2
          rw [o3] at U1
          rw [o4] at U2
          clear ep1 ep2 ep3 ep4 hpB o1 o2 o3 o4 HJ HU HEn hE HOK hok HK
          generalize parentS q = pq at *
          generalize nameS q = nq at *
          rcases Bool.eq_false_or_eq_true (seqB (q ++ ⟨#[45]⟩) n) with hs | hs
          · have e1 : seqT (q ++ ⟨#[45]⟩) n = q ++ ⟨#[45]⟩ ++ sufB n := by unfold seqT; rw [if_pos hs]
            have e2 : seqE (q ++ ⟨#[45]⟩) n = 0 := by unfold seqE; rw [if_pos hs]
            rw [e1, e2] at HS
            have HSp := Lib.hid (fun W hB => HSp.out W hB hs)
            by_cases hn : -999999999 ≤ n
            · obtain ⟨r1, r2, r3⟩ := hQQ hs hn
              rw [r1, r2, r3] at HSp
              clear hs hQQ hLo e1 e2 r1 r2 r3
              generalize q ++ ⟨#[45]⟩ ++ sufB n = S at HS HSp
              go_wp2_with (first
                | (go_at_call 12; refine (HPar.out _ hBw).mono ?_; rintro e w6 ⟨rfl, hb6⟩)
                | (go_at_call 14; refine (HNam.out _ hb6).mono ?_; rintro e w7 ⟨rfl, hb7⟩)
                | (go_at_call 29; refine (HJ1.out _ hb7).mono ?_; rintro e w8 ⟨rfl, hb8⟩)
                | (go_at_call 26; have F0 := F3; refine (O2.out _ hb9).mono ?_; rintro e wa ⟨rfl, hba⟩)
                | (go_at_call 26; refine (O1.out _ hb8).mono ?_; rintro e w9 ⟨rfl, hb9⟩; have F3 := trivial)
                | (go_at_call 27; have F0 := F4; refine (U2.out _ hbb).mono ?_; rintro e wc ⟨rfl, hbc⟩)
                | (go_at_call 27; refine (U1.out _ hba).mono ?_; rintro e wb ⟨rfl, hbb⟩; have F4 := trivial)
                | (go_at_call 19; refine (HS.out _ hbc).mono ?_; rintro e w4 ⟨rfl, hb4⟩)
                | (go_at_call 23; refine (HSp.out _ hb4).mono ?_; rintro e w5 ⟨rfl, hb5⟩))
              go_ret
              exact ⟨rfl, hb5⟩
            · clear hs hQQ hLo e1 e2
              generalize splT (q ++ ⟨#[45]⟩ ++ sufB n) = sT at HSp
              generalize splV (q ++ ⟨#[45]⟩ ++ sufB n) = sV at HSp
              generalize splB (q ++ ⟨#[45]⟩ ++ sufB n) = sB at HSp
              generalize q ++ ⟨#[45]⟩ ++ sufB n = S at HS HSp
              go_wp2_with (first
                | (go_at_call 12; refine (HPar.out _ hBw).mono ?_; rintro e w6 ⟨rfl, hb6⟩)
                | (go_at_call 14; refine (HNam.out _ hb6).mono ?_; rintro e w7 ⟨rfl, hb7⟩)
                | (go_at_call 29; refine (HJ1.out _ hb7).mono ?_; rintro e w8 ⟨rfl, hb8⟩)
                | (go_at_call 26; have F0 := F3; refine (O2.out _ hb9).mono ?_; rintro e wa ⟨rfl, hba⟩)
                | (go_at_call 26; refine (O1.out _ hb8).mono ?_; rintro e w9 ⟨rfl, hb9⟩; have F3 := trivial)
                | (go_at_call 27; have F0 := F4; refine (U2.out _ hbb).mono ?_; rintro e wc ⟨rfl, hbc⟩)
                | (go_at_call 27; refine (U1.out _ hba).mono ?_; rintro e wb ⟨rfl, hbb⟩; have F4 := trivial)
                | (go_at_call 19; refine (HS.out _ hbc).mono ?_; rintro e w4 ⟨rfl, hb4⟩)
                | (go_at_call 23; refine (HSp.out _ hb4).mono ?_; rintro e w5 ⟨rfl, hb5⟩))
              go_ret
              exact ⟨rfl, hb5⟩
          · have e1 : seqT (q ++ ⟨#[45]⟩) n = ⟨#[]⟩ := by unfold seqT; rw [hs]; rfl
            have e2 : seqE (q ++ ⟨#[45]⟩) n = 30 := by unfold seqE; rw [hs]; rfl
            rw [e1, e2] at HS
            have hl := hLo hs
            clear hs hQQ hLo e1 e2 HSp
            go_wp2_with (first
              | (go_at_call 12; refine (HPar.out _ hBw).mono ?_; rintro e w6 ⟨rfl, hb6⟩)
              | (go_at_call 14; refine (HNam.out _ hb6).mono ?_; rintro e w7 ⟨rfl, hb7⟩)
              | (go_at_call 29; refine (HJ1.out _ hb7).mono ?_; rintro e w8 ⟨rfl, hb8⟩)
              | (go_at_call 26; have F0 := F3; refine (O2.out _ hb9).mono ?_; rintro e wa ⟨rfl, hba⟩)
              | (go_at_call 26; refine (O1.out _ hb8).mono ?_; rintro e w9 ⟨rfl, hb9⟩; have F3 := trivial)
              | (go_at_call 27; have F0 := F4; refine (U2.out _ hbb).mono ?_; rintro e wc ⟨rfl, hbc⟩)
              | (go_at_call 27; refine (U1.out _ hba).mono ?_; rintro e wb ⟨rfl, hbb⟩; have F4 := trivial)
              | (go_at_call 19; refine (HS.out _ hbc).mono ?_; rintro e w4 ⟨rfl, hb4⟩))
            go_ret
            exact ⟨congrArg (fun b => Ending.returned (.bool b)) (decide_eq_true (by omega)), hb4⟩
  · have e2 : partsOf p = [] := by unfold partsOf; rw [g1]; rfl
    have e3 : partsE p = 30 := by unfold partsE; rw [g1]; rfl
    rw [e2, e3] at HP
    rw [g1] at HV
    clear hE e2 e3 g1
    go_enter Tryd.func9, Tryd.ntmps9
    go_wp2_with (first
      | (go_at_call 25; refine HA.out.mono ?_; rintro e w1 ⟨rfl, hb1⟩)
      | (go_at_call 28; refine (HV.out _ hb1).mono ?_; rintro e w2 ⟨rfl, hb2⟩)
      | (go_at_call 10; refine (HP.out _ hb2).mono ?_; rintro e w3 ⟨⟨A3, c3, rfl, r3⟩, hb3, hn3⟩))
    go_ret
    exact ⟨rfl, hb3⟩

theorem pathsBack_walk {H : Type} (p : ByteArray) (_ : p.size ≤ maxLen) (n : Int) (wn : (Lit.int .i32 n).wf = true) (W : World) (hsz : (DataW.weightsEach Tryd.prog ([9, 21] : List TypeId) ([DataW.lit (.string p.data.toList), DataW.lit (.int .i32 n)] : List (DataW H))).all (· ≤ reachBytes) = true) (hsh : W.ShapedOpen Tryd.prog)
    (hlaid : laidMetH Tryd.prog Rows.pathsBackRow.laid W) :
    Calls Tryd.prog 9 #[.string p, .int .i32 n] W fun e w' => e = .returned (.bool true) ∧ Below W.heap.size W w' := by
  have h := sized_string (j := 0) hsz rfl rfl
  rw [← Lib.size_eq] at h
  unfold reachBytes at h
  have hn := bounds_i32 wn
  exact back_law p (by omega) n hn.1 hn.2 (env_of hlaid hsh rfl rfl rfl)
end Go.Proofs.YtkhnchahoidbaaaDoor
