/- JuteWrites: the walk. -/
import Derived.Test.YtbegingiedbldaaDoorJe2
namespace Go.Proofs.YtbegingiedbldaaDoor
open Go.RowKit

theorem bcells_set (l : List UInt8) (m : Nat) (b : UInt8) : (bcells l).set m (.int .u8 (b.toNat : Int)) = bcells (l.set m b) := by simp [bcells, List.map_set]
theorem succ_byte (b : UInt8) : (((b.toNat : Int) + 1) % 256) = ((UInt8.ofNat ((b.toNat + 1) % 256)).toNat : Int) := by
  rw [UInt8.toNat_ofNat']
  omega

theorem reads_take {w : World} {B k : Nat} {A : Option Addr} {L M : List UInt8} (h : Reads w B 1 A k (bcells (L ++ M))) (hk : L.length ≤ k) : Reads w B 1 A L.length (bcells L) :=
  ⟨by rw [bcells_length, Nat.mul_one], fun hn => by
    obtain ⟨ad, e, hb, hc⟩ := h.2 (by omega)
    refine ⟨ad, e, hb, fun j u hu => hc j u ?_⟩
    have hj : j < (bcells L).length := (List.getElem?_eq_some_iff.1 hu).1
    rw [bcells_append, List.getElem?_append_left hj]
    exact hu⟩

set_option maxRecDepth 100000 in
set_option maxHeartbeats 2000000 in
theorem writes_any (A0 : Option Addr) (n0 c0 : Nat) (S : List Vl) (w : World) (hE : Env w)
    (h0 : Reads w w.heap.size 4 A0 n0 (S.flatMap vlCells)) (k0 : ∀ x ∈ S, Reads w w.heap.size 1 x.A x.n (scells x.L) ∧ x.n ≤ 1099511627776)
    (hn0 : n0 ≤ 1099511627776) (hb : (S.flatMap bVl).length + 32 ≤ 140737488355328) :
    Calls Tryd.prog 8 #[.slice A0 n0 c0] w fun e w' => e = .returned (.bool true) ∧ Below w.heap.size w w' := by
  obtain ⟨i0, hi0, hq0, hq1, hq2⟩ := info_parts u8_info
  obtain ⟨L, ha⟩ : ∃ L, Hid (L = S.flatMap bVl) := ⟨_, rfl⟩
  rw [← ha.out] at hb
  have HE := Lib.hid hE
  have H0 := Lib.hid h0
  have K0 := Lib.hid k0
  obtain ⟨w1, hw1⟩ : ∃ w1, w.alloc (.cells #[.slice none 0 0] 57) = w1 := ⟨_, rfl⟩
  have HB1 : Hid (Below w.heap.size w w1) := by unfold Hid; rw [← hw1]; exact (Below.refl _ _).alloc (Nat.le_refl _) _
  have HS1 : Hid (w1.heap.size = w.heap.size + 1) := by unfold Hid; rw [← hw1]; simp
  have HW1 : Hid (Wr w1 w.heap.size w.heap.size (.slice none 0 0) []) := ⟨by rw [← hw1]; exact Blk.new' rfl, World.ownsRow_nil _ _ _ _⟩
  clear hE h0 k0
  go_enter Tryd.func8, Tryd.ntmps8
  go_wp2_with (first
    | (go_at_call 33
       have hrd := write_any w.heap.size w.heap.size _ [] A0 n0 c0 w.heap.size S w1 HW1.out (H0.out.below HB1.out) (fun x hx => ⟨(K0.out x hx).1.below HB1.out, by have := (K0.out x hx).2; omega⟩) (Nat.le_refl _) (Nat.le_refl _) HB1.out.size hn0 (by rw [← ha.out]; simp; omega)
       rw [← ha.out] at hrd
       with_reducible refine hrd.mono ?_
       clear hrd
       rintro e w2 ⟨rfl, v2, hp⟩
       have HB2 : Hid (Below w.heap.size w w2) := HB1.out.trans (hp.below (Nat.le_refl _) (fun x e => by simp [Value.ownBlock] at e) HB1.out.size)
       have HW2 := Lib.hid (show Wr w2 w.heap.size w.heap.size v2 L by simpa using hp.1)
       clear hp)
    | (go_at_call 34
       have hrd := written_any A0 n0 c0 S w2 ((H0.out.below HB2.out).more HB2.out.size) (fun x hx => ⟨((K0.out x hx).1.below HB2.out).more HB2.out.size, (K0.out x hx).2⟩) hn0 (by rw [← ha.out]; omega)
       rw [← ha.out] at hrd
       with_reducible refine hrd.mono ?_
       clear hrd
       rintro e w3 ⟨v3, rfl, hr3, hb3⟩
       obtain ⟨A3, c3, rfl⟩ := slice_form hr3
       have HR3 := Lib.hid hr3
       have HB23 := Lib.hid hb3
       have HB3 : Hid (Below w.heap.size w w3) := HB2.out.trans (hb3.mono HB2.out.size)
       have HW3 := Lib.hid (HW2.out.later hb3)
       have HN3 : Hid (∀ x, v2.ownBlock = some x → x < w2.heap.size) := (fun x e => (HW2.out.2.lt x e).2)
       clear hr3 hb3)
    | (go_at_call 30
       have hflag := HB4.out
       clear hflag
       have hrd := wBytes_any w.heap.size w.heap.size v2 L w4 HW4.out (by omega)
       with_reducible refine hrd.mono ?_
       clear hrd
       rintro e w5 ⟨A5, c5, rfl, ho5, hb5⟩
       have HO5 := Lib.hid ho5
       have HB45 := Lib.hid hb5
       have HB5 : Hid (Below w.heap.size w w5) := HB4.out.trans (hb5.mono HB4.out.size)
       have HW5 := Lib.hid (HW4.out.later hb5)
       have HO54 := Lib.hid (own_kp HO4.out (Kp.of_below (X := []) hb5) (fun _ h => by cases h))
       have HR5 := Lib.hid (HR4.out.later hb5)
       clear ho5 hb5)
    | (go_at_call 30
       have hrd := wBytes_any w.heap.size w.heap.size v2 L w3 HW3.out (by omega)
       with_reducible refine hrd.mono ?_
       clear hrd
       rintro e w4 ⟨A4, c4, rfl, ho4, hb4⟩
       have HO4 := Lib.hid ho4
       have HB34 := Lib.hid hb4
       have HB4 : Hid (Below w.heap.size w w4) := HB3.out.trans (hb4.mono HB3.out.size)
       have HW4 := Lib.hid (HW3.out.later hb4)
       have HR4 := Lib.hid (HR3.out.later hb4)
       clear ho4 hb4)
    | (go_at_call 16
       have hrd := sameBytes_true A4 A3 L.length c4 c3 w5.heap.size w5.heap.size L w5 (Reads.of_own HO54.out) (Reads.of_own HR5.out) (by omega)
       with_reducible refine hrd.mono ?_
       clear hrd
       rintro e w6 ⟨rfl, m6, hw6⟩
       have HB56 : Hid (Below w5.heap.size w5 w6) := (by rw [hw6]; exact below_drewN' (Below.refl _ _) m6)
       have HW6 := Lib.hid (HW5.out.later HB56.out)
       have HB6 : Hid (Below w.heap.size w w6) := HB5.out.trans (HB56.out.mono HB5.out.size)
       clear hw6)
    | (go_at_call 32; have hrd := wLen_any w.heap.size w.heap.size v2 L w6 HW6.out; with_reducible refine hrd.mono ?_; clear hrd; rintro e w14 ⟨rfl, rfl⟩)
    | (go_at_call 17
       refine (live_any w6 (HE.out.below HB6.out)).mono ?_
       rintro e w7 ⟨rfl, hb7⟩
       have HB57 : Hid (Below w5.heap.size w5 w7) := HB56.out.trans (hb7.mono HB56.out.size)
       have HB7 : Hid (Below w.heap.size w w7) := HB5.out.trans (HB57.out.mono HB5.out.size)
       have HW7 := Lib.hid (HW5.out.later HB57.out)
       have HO7 := Lib.hid (own_kp HO54.out (Kp.of_below (X := []) HB57.out) (fun _ h => by cases h))
       have HP7 := Lib.hid (own_kp HO5.out (Kp.of_below (X := []) HB57.out) (fun _ h => by cases h))
       have HR7 := Lib.hid (HR5.out.later HB57.out)
       clear hb7))
  go_loopw [7] (fun i wr => ∃ (k : Nat) (l' : List UInt8), k ≤ L.length ∧ i = .int .i64 k ∧ Hid (l'.length = L.length) ∧ Kp (Value.slice A4 L.length c4).ownBlock.toList w7 wr ∧ wr.ownsRow w3.heap.size 5 1 (.slice A4 L.length c4) L.length (bcells l')) (fun i _ => L.length - (intOf i).toNat)
  case atStart => exact ⟨0, L, Nat.zero_le _, rfl, rfl, Kp.refl _ _, HO7.out⟩
  case round =>
    obtain ⟨k, l', hk, rfl, HLl, hkp, ho⟩ := hrel
    have HKP := Lib.hid hkp
    have HO := Lib.hid ho
    by_cases hlt : k < L.length
    · obtain ⟨g, cap, hv, hgb, hgl⟩ := ho.form (by omega)
      injection hv with hA' hn' hc'
      subst hA'
      have hxl : k < l'.length := by have := HLl.out; omega
      have hcell : wr.cell? ⟨g, k, none⟩ = some (.int .u8 (l'[k].toNat : Int)) := by
        rw [ho.cellAt k (by omega)]
        simp only [bcells, List.getElem?_map, List.getElem?_eq_getElem hxl, Option.map_some]
      have hfz := ho.frozenAt k
      clear hkp ho hn' hc'
      go_wp2
      go_roundw
      case rel =>
        have hs := (HO.out.stored k (.int .u8 (((l'[k].toNat : Int) + 1) % 256))).1
        rw [succ_byte, bcells_set] at hs
        rw [succ_byte]
        exact ⟨k + 1, l'.set k (UInt8.ofNat ((l'[k].toNat + 1) % 256)), by omega, by go_num, by show _ = _; rw [List.length_set]; exact HLl.out, HKP.out.to (Kp.setCell ⟨g, k, none⟩ _) (fun _ h _ => h) (fun y hy hl => by simpa [Value.ownBlock] using hy), hs⟩
      case measure => simp [intOf]; omega
    · clear hkp ho
      go_wp2_with (first
        | (at_builtin
           refine wpList_append_any _ rfl (.tmp 49) (.tmp 50) _ rfl w3.heap.size 5 i0 _ 1 1 Tryd.underlying22 hi0 hq0 hq1 hq2 rfl (by decide) (.slice A4 L.length c4) L.length (bcells l') rfl (World.ownsRow.alloc HO.out _) (wr.heap.size + 1) (some ⟨wr.heap.size, 0, none⟩) 3 3 [.int .u8 7, .int .u8 7, .int .u8 7] rfl (reads_lit wr 5 [_, _, _]) (by simp [Value.oneCell']) (by simp only [maxLen]; omega) (by omega) (by have := HKP.out.size; have := HB57.out.size; have := HB45.out.size; have := HB34.out.size; simp; omega) ?_
           intro v9 w9 ho9 hg9 hat9
           obtain ⟨A9, c9, rfl⟩ := slice_form ho9
           have HK9 : Hid (Kp (Value.slice A4 L.length c4).ownBlock.toList w7 w9) := HKP.out.to ((Kp.alloc _).trans (Kp.of_grown hg9)) (fun _ h _ => h) (fun _ h _ => h)
           have HX : Hid (∀ x ∈ (Value.slice A4 L.length c4).ownBlock.toList, w3.heap.size ≤ x ∧ x < w4.heap.size) := (fun x hx => HO4.out.lt x (by simpa using hx))
           clear ho9 hg9 hat9))
      have HB49 : Hid (w4.heap.size ≤ w9.heap.size) := by unfold Hid; have := HB45.out.size; have := HB57.out.size; have := HK9.out.size; omega
      have HX3 : Hid (∀ x, (Value.slice A3 L.length c3).ownBlock = some x → w2.heap.size ≤ x ∧ x < w3.heap.size) := fun x hx => HR3.out.lt x hx
      have HX5 : Hid (∀ x, (Value.slice A5 L.length c5).ownBlock = some x → w4.heap.size ≤ x) := fun x hx => (HP7.out.lt x hx).1
      have hs23 := HB23.out.size
      have hs34 := HB34.out.size
      have hs2 := HB2.out.size
      have hW9 : Wr w9 w.heap.size w.heap.size v2 L := HW7.out.kp HK9.out (fun hx => by have := (HX.out _ hx).1; have := HW2.out.lt; omega) (fun x hx e => by have := (HX.out _ hx).1; have := HN3.out x e; omega)
      have hR9 : Rb w9 w2.heap.size (.slice A3 L.length c3) L := own_kp HR7.out HK9.out (fun x hx e => by have := (HX.out _ hx).1; have := (HX3.out x e).2; omega)
      have hP9 := own_kp HP7.out HK9.out (fun x hx e => by have := (HX.out _ hx).2; have := HX5.out x e; omega)
      have HB9 : Hid (Below w.heap.size w w9) := HB7.out.trans (HK9.out.below (fun x hx => by have := (HX.out _ hx).1; omega) HB7.out.size)
      have HW9 := Lib.hid hW9
      have HR9 := Lib.hid hR9
      have HP9 := Lib.hid hP9
      clear hW9 hR9 hP9 HK9 HKP HO HW7 HR7 HP7 HO7 HB57 HO5 HO54 HB45 HB5 HW5 HR5 HB56 HW6 HB6 HB7 HE H0 K0
      go_wp2_with (first
        | (go_at_call 29
           have hrd := wByte_any w.heap.size w.heap.size v2 L 9 (by decide) (by decide) w9 HW9.out HB9.out.size (by omega)
           with_reducible refine hrd.mono ?_
           clear hrd
           rintro e w10 ⟨rfl, v10, hp⟩
           have HW10 := Lib.hid hp.1
           have HR10 : Hid (Rb w10 w2.heap.size (.slice A3 L.length c3) L) := own_kp HR9.out hp.2.1 (fun x hx e => by
             rcases List.mem_cons.1 hx with h | h
             · exact own_blk_ne HR9.out HW9.out.1 (by decide) (by rw [e, h])
             · have := (HX3.out x e).1; have := HN3.out x (by simpa using h); omega)
           have HP10 := Lib.hid (own_kp HP9.out hp.2.1 (fun x hx e => by
             rcases List.mem_cons.1 hx with h | h
             · exact own_blk_ne HP9.out HW9.out.1 (by decide) (by rw [e, h])
             · have := HX5.out x e; have := HN3.out x (by simpa using h); omega))
           have HB10 : Hid (Below w.heap.size w w10) := HB9.out.trans (hp.below (Nat.le_refl _) (fun x e => (HW9.out.2.lt x e).1) HB9.out.size)
           clear hp)
        | (go_at_call 30
           have hrd := wBytes_any w.heap.size w.heap.size v10 (L ++ bByte 9) w10 HW10.out (by simp [bByte]; omega)
           with_reducible refine hrd.mono ?_
           clear hrd
           rintro e w11 ⟨A11, c11, rfl, ho11, hb11⟩
           rw [show (L ++ bByte 9).length = L.length + 1 by simp [bByte]]
           rw [show (L ++ bByte 9).length = L.length + 1 by simp [bByte]] at ho11
           obtain ⟨g11, hA11⟩ : ∃ g11, A11 = some ⟨g11, 0, none⟩ := (by
             obtain ⟨g11, q11, hv11, _, _⟩ := ho11.form (by omega)
             injection hv11 with hA11
             exact ⟨g11, hA11⟩)
           subst hA11
           have h9 : w11.cell? ⟨g11, L.length, none⟩ = some (.int .u8 9) := (by
             rw [ho11.cellAt L.length (by omega)]
             simp [bcells, bByte])
           have hcap := (own_cap ho11).1
           have HO11 := Lib.hid ho11
           have HR11 := Lib.hid (HR10.out.later hb11)
           have HP11 := Lib.hid (own_kp HP10.out (Kp.of_below (X := []) hb11) (fun _ h => by cases h))
           have HB11 : Hid (Below w.heap.size w w11) := HB10.out.trans (hb11.mono HB10.out.size)
           clear ho11 hb11)
        | (go_at_call 16
           have hrd := sameBytes_true A5 A3 L.length c5 c3 w11.heap.size w11.heap.size L w11 (Reads.of_own HP11.out) (Reads.of_own HR11.out) (by omega)
           with_reducible refine hrd.mono ?_
           clear hrd
           rintro e w12 ⟨rfl, m12, hw12⟩
           have h912 : w12.cell? ⟨g11, L.length, none⟩ = some (.int .u8 9) := (by rw [hw12]; exact h9)
           have HB1112 : Hid (Below w11.heap.size w11 w12) := (by rw [hw12]; exact below_drewN' (Below.refl _ _) m12)
           clear hw12)
        | (go_at_call 16
           have hrd := sameBytes_true (some ⟨g11, 0, none⟩) A3 L.length c11 c3 w11.heap.size w11.heap.size L w12 (((reads_take (Reads.of_own HO11.out) (Nat.le_succ _)).below HB1112.out)) ((Reads.of_own HR11.out).below HB1112.out) (by omega)
           with_reducible refine hrd.mono ?_
           clear hrd
           rintro e w13 ⟨rfl, m13, hw13⟩
           have h913 : w13.cell? ⟨g11, L.length, none⟩ = some (.int .u8 9) := (by rw [hw13]; exact h912)
           have HB13 : Hid (Below w.heap.size w w13) := (by unfold Hid; rw [hw13]; exact below_drewN' (HB11.out.trans (HB1112.out.mono HB11.out.size)) m13)
           clear hw13))
      go_ret
      exact ⟨rfl, HB13.out⟩
end Go.Proofs.YtbegingiedbldaaDoor
