/- Part 13 of a proof: lemmas and walks. -/
import Derived.Test.YtpjjnmdfgcfnmaaDoorK12
import Derived.Test.YtpjjnmdfgcfnmaaDoorK10
import Derived.Test.YtpjjnmdfgcfnmaaDoorK11
set_option linter.unusedVariables false
set_option linter.unusedSimpArgs false
set_option maxRecDepth 100000
set_option maxHeartbeats 16000000
namespace Go.Proofs.YtpjjnmdfgcfnmaaDoor
open Go.RowKit

theorem r_xor {P : Program} {o : Oper} {ρ : Operand → Value} {w : World} (t : TypeId) (x y : Operand) (t' : TypeId) (ho : o.op = .binOp .xor t x y t') {k : IntKind} {m n z : Int} (hx : ρ x = .int k m) (hy : ρ y = .int k n) (hr : (binOp .xor t (.int k m) (.int k n)).run P w = .ok (.int k z) w) : (execOp ρ o).run P w = .ok (.value (.int k z)) w := by
 unfold execOp
 simp [go_sem] at hr
 simp [ho, hx, hy, eqGuard, go_sem, hr]
theorem xor_any (c : Int) : ∃ z : Int, ∀ w, (binOp .xor 5 (.int .u8 c) (.int .u8 85)).run Tryd.prog w = .ok (.int .u8 z) w := ⟨_, fun w => by simp [go_sem, zU5]; rfl⟩
theorem LikeL.refl (cs : List Value) : LikeL cs cs := ⟨rfl, fun j v hv => ⟨v, hv, LikeV.refl v⟩⟩
theorem LikeL.head {cs cs' : List Value} (h : LikeL cs cs') {j : Nat} {A : Option Addr} {n c : Nat} (hv : cs[j]? = some (.slice A n c)) : cs'.toArray[j]? = some (.slice A n c) := by
 obtain ⟨v', h1, h2⟩ := h.2 j _ hv
 rw [LikeV.slice h2] at h1
 simpa using h1
theorem LikeL.one {cs cs' : List Value} (h : LikeL cs cs') (h1 : cs.toArray.all (·.oneCell') = true) : cs'.toArray.all (·.oneCell') = true := by
 rw [zQ] at h1 ⊢
 intro v hv
 obtain ⟨j, hj⟩ := List.mem_iff_getElem?.1 (show v ∈ cs' by simpa using hv)
 have hlt : j < cs.length := by
  have := (List.getElem?_eq_some_iff.1 hj).1
  rw [h.1] at this
  exact this
 obtain ⟨v', e1, e2⟩ := h.2 j cs[j] (List.getElem?_eq_getElem hlt)
 rw [hj] at e1
 injection e1 with e1
 subst e1
 exact e2.one (h1 _ (by simp))
theorem spoil_any {w0 : World} {lo : Option Nat} {x : OpC} {cs : List Value} (h : At w0 lo x cs) : ∀ {b : Nat}, lo = some b → b ≤ w0.heap.size → ∀ (W : World) (cs' : List Value), SplB b w0 W → LikeL cs cs' →
 Calls Tryd.prog 20 #[.agg cs'.toArray] W fun e w' => e = .returned (.tuple #[]) ∧ SplB b W w' := by
 induction h with
 | mk f d a k0 k1 k2 k3 k4 i s Q ok hd ha hk0 hk1 hk2 hk3 hk4 hi hs hQ ih =>
   intro b hlo hb W cs' hW hL
   subst hlo
   obtain ⟨w1, hw1⟩ := xa W (cs'.toArray) 29
   have hbx := newK hw1
   have hz1 : w1.heap.size = W.heap.size + 1 := by rw [← hw1]; simp
   have hW1 : SplB b W w1 := SplB.of_below (newB hw1) (Nat.le_trans hb hW.below.size)
   have HW1 := Hi hW1
   have H01 : Hid (SplB b w0 w1) := hW.trans hW1
   have HBB := Hi hbx
   have HBG : Hid (b ≤ W.heap.size) := Nat.le_trans hb hW.below.size
   -- the heads
   have HD : Hid (∀ wr, SplB b w1 wr → wr.cell? ⟨W.heap.size, 2, none⟩ = some (.slice d.A d.n d.c)) := fun wr h => h.head hbx (hL.head rfl)
   have HA : Hid (∀ wr, SplB b w1 wr → wr.cell? ⟨W.heap.size, 3, none⟩ = some (.slice a.A a.n a.c)) := fun wr h => h.head hbx (hL.head rfl)
   have HI : Hid (∀ wr, SplB b w1 wr → wr.cell? ⟨W.heap.size, 17, none⟩ = some (.slice i.A i.n i.c)) := fun wr h => h.head hbx (hL.head rfl)
   have HS : Hid (∀ wr, SplB b w1 wr → wr.cell? ⟨W.heap.size, 18, none⟩ = some (.slice s.A s.n s.c)) := fun wr h => h.head hbx (hL.head rfl)
   have HK : Hid (∀ j (hj : j < 5) wr, SplB b w1 wr → wr.cell? ⟨W.heap.size, 11 + j, none⟩ = some (([k0, k1, k2, k3, k4][j]'hj).v)) := fun j hj wr h => by
    rcases (by omega : j = 0 ∨ j = 1 ∨ j = 2 ∨ j = 3 ∨ j = 4) with rfl | rfl | rfl | rfl | rfl
    all_goals exact h.head hbx (hL.head rfl)
   have HKS : Hid (∀ j (hj : j < 5), SlAt w0 (some b) 9 1 16 ([k0, k1, k2, k3, k4][j]'hj) (f.lists[j]'hj).length (strCells (f.lists[j]'hj))) := fun j hj => by
    rcases (by omega : j = 0 ∨ j = 1 ∨ j = 2 ∨ j = 3 ∨ j = 4) with rfl | rfl | rfl | rfl | rfl
    · exact hk0
    · exact hk1
    · exact hk2
    · exact hk3
    · exact hk4
   have HSD := Hi hd
   have HSA := Hi ha
   have HSI := Hi hi
   have HSS := Hi hs
   have HQ : Hid (∀ q ∈ Q, At w0 (some b) q.1 q.2) := hQ
   have HIH : Hid (∀ q ∈ Q, ∀ (W : World) (cs' : List Value), SplB b w0 W → LikeL q.2 cs' → Calls Tryd.prog 20 #[.agg cs'.toArray] W fun e w' => e = .returned (.tuple #[]) ∧ SplB b W w') := fun q hq => ih q hq rfl hb
   have bd := hd.bd (by decide)
   have ba := ha.bd (by decide)
   have bi := hi.bd (by decide)
   have bs := hs.bd (by decide)
   have d2 := HD.out w1 (SplB.refl _ _)
   obtain ⟨ca, hca⟩ : ∃ c : Array Value, c = cs'.toArray := ⟨_, rfl⟩
   rw [← hca] at hw1 ⊢
   clear ih hQ hd ha hk0 hk1 hk2 hk3 hk4 hi hs hW hL hbx hW1 hb ok hca
   go_enter Tryd.func20, Tryd.ntmps20
   go_wp2
   clear d2
   -- the bytes
   go_loopw [2] (fun v2 wr => ∃ k : Nat, k ≤ d.n ∧ v2 = .int .i64 (k : Int) ∧ SplB b w1 wr) (fun v2 _ => d.n - (intOf v2).toNat)
   case atStart => exact ⟨0, by omega, rfl, SplB.refl _ _⟩
   case round =>
    obtain ⟨k, hkn, rfl, hwr⟩ := hrel
    have d2 := HD.out wr hwr
    have HWR := Hi hwr
    by_cases hk : k < d.n
    · obtain ⟨g, c0, hA, hbg, hblk, hcs⟩ := spl_at HSD.out (H01.out.trans hwr) (by omega)
      have hlk : k < f.l.length := by rw [HSD.out.len]; exact hk
      have hck : c0[k]? = some (.int .u8 ((f.l[k]).toNat : Int)) := hcs k _ (by rw [bcells, List.getElem?_map, List.getElem?_eq_getElem hlk]; rfl)
      obtain ⟨v', hc1, hlv⟩ := (H01.out.trans hwr).cell hblk hck
      obtain ⟨cv, rfl⟩ := hlv
      obtain ⟨zx, hzx⟩ := xor_any cv
      obtain ⟨ad, had⟩ : ∃ ad, ad = (⟨g, 0, none⟩ : Addr) := ⟨_, rfl⟩
      have had2 : ad.add (k * 1) = ⟨g, k, none⟩ := by rw [had, zN, Nat.zero_add, Nat.mul_one]
      rw [← had] at hA
      have HAA := Hi hA
      have HXO := Hi hzx
      have HHD : Hid (∀ W', Below wr.heap.size wr W' → W'.cell? ⟨W.heap.size, 2, none⟩ = some (.slice (some ad) d.n d.c)) := fun W' hW' => by
       rw [← hA]
       exact HD.out W' (hwr.trans (SplB.of_below hW' (Nat.le_trans (Nat.le_trans HBG.out (by omega)) hwr.below.size)))
      obtain ⟨c1, hb1, _, _⟩ := (H01.out.trans hwr).cells _ _ _ hblk
      have HB1 := Hi hb1
      have HCL : Hid (∀ W', Below wr.heap.size wr W' → W'.cell? (ad.add (k * 1)) = some (.int .u8 cv)) := fun W' hW' => by
       rw [had2]
       rw [hb1.cell k] at hc1
       exact ((hb1.below hW' hb1.lt).cell k).trans hc1
      have hc2 : c1[k]? = some (.int .u8 cv) := by rw [← hb1.cell k]; exact hc1
      have HC2 := Hi hc2
      have HBGG := Hi hbg
      have hsz1 : k < c1.size := (Array.getElem?_eq_some_iff.1 hc2).1
      have HAD2 := Hi had2
      have HHAD := Hi had
      have hrb : Below b wr wr := Below.refl _ _
      clear hA hblk hcs hck hc1 hzx had had2 hwr hlk d2 hc2 hb1
      have d2 := HHD.out wr zT
      go_wp2
      refine wp_region_last (w0 := wr) 10 rfl (.inl (.pointer (some ⟨W.heap.size, 2, none⟩)) ::
       .inl (.slice (some ad) d.n d.c) ::
       .inl (.int .i64 (k : Int)) ::
       .inl (.pointer (some ⟨W.heap.size, 2, none⟩)) ::
       .inl (.slice (some ad) d.n d.c) ::
       .inl (.int .i64 (k : Int)) ::
       .inl (.pointer (some (ad.add (k * 1)))) ::
       .inl (.int .u8 cv) ::
       .inl (.int .u8 zx) ::
       .inl (.pointer (some (ad.add (k * 1)))) :: []) rfl (by kernel_rfl) (by kernel_rfl) (by kernel_rfl) (by kernel_rfl) (by kernel_rfl) (nomono rfl) ⟨fun ac W' hb hold hdep K hK => op_u (u := .pointer (some ⟨W.heap.size, 2, none⟩)) rfl (r_field 29 _ 2 rfl (yA (hO hold 1)) zU29 rfl (n := 0) isz_22 rfl) (kR hK),
      fun ac W' hb hold hdep K hK => op_u (u := .slice (some ad) d.n d.c) rfl (r_load 22 _ rfl (yA (dD hdep 0 15)) (HHD.out W' hb) zU22 rfl) (kR hK),
      fun ac W' hb hold hdep K hK => op_u (u := .int .i64 (k : Int)) rfl (r_move _ rfl (yA (hO hold 2))) (kR hK),
      fun ac W' hb hold hdep K hK => op_u (u := .pointer (some ⟨W.heap.size, 2, none⟩)) rfl (r_field 29 _ 2 rfl (yA (hO hold 1)) zU29 rfl (n := 0) isz_22 rfl) (kR hK),
      fun ac W' hb hold hdep K hK => op_u (u := .slice (some ad) d.n d.c) rfl (r_load 22 _ rfl (yA (dD hdep 3 18)) (HHD.out W' hb) zU22 rfl) (kR hK),
      fun ac W' hb hold hdep K hK => op_u (u := .int .i64 (k : Int)) rfl (r_move _ rfl (yA (hO hold 2))) (kR hK),
      fun ac W' hb hold hdep K hK => op_u (u := .pointer (some (ad.add (k * 1)))) rfl (r_index 22 _ _ rfl (yA (dD hdep 4 19)) (yA (dD hdep 5 20)) hk zU22 isz_5 rfl) (kR hK),
      fun ac W' hb hold hdep K hK => op_u (u := .int .u8 cv) rfl (r_load 5 _ rfl (yA (dD hdep 6 21)) (HCL.out W' hb) zU5 rfl) (kR hK),
      fun ac W' hb hold hdep K hK => op_u (u := .int .u8 zx) rfl (r_xor 5 _ _ _ rfl (yA (dD hdep 7 22)) rfl (HXO.out W')) (kR hK),
      fun ac W' hb hold hdep K hK => op_u (u := .pointer (some (ad.add (k * 1)))) rfl (r_index 22 _ _ rfl (yA (dD hdep 1 16)) (yA (dD hdep 2 17)) hk zU22 isz_5 rfl) (kR hK), trivial⟩ ?_
      intro w4 hb4
      simp only [Fin, List.take_succ_cons, List.take_zero, Act.put, zD, zA, zB]
      refine stepL_store_mid rfl 5 (.tmp 24) (.tmp 23) rfl g k (.int .u8 zx) (by rw [← HAD2.out]; rfl) rfl (HB1.out.below hb4 HB1.out.lt) (news := [.int .u8 zx]) rfl isz_5 (by simp; omega) (by simp [Value.oneCell']) ?_
      intro w5 cn hBn hxn hgn hzn
      have HW5 : Hid (SplB b w1 w5) := (HWR.out.trans (SplB.of_below hb4 (Nat.le_trans (Nat.le_trans HBG.out (by omega)) HWR.out.below.size))).mid (HB1.out.below hb4 HB1.out.lt) hBn HBGG.out hgn hxn HC2.out ⟨_, rfl⟩
      clear hb4 hBn hxn hgn hzn d2
      go_wp2
      go_roundw
      case rel => exact ⟨k + 1, by omega, by go_num, HW5.out⟩
      case measure => simp [intOf]; omega
    · have d2 := HD.out wr hwr
      clear hwr
      go_wp2
      clear d2
      go_loopw [3] (fun vv wr => ∃ k : Nat, k ≤ a.n ∧ vv = .int .i64 (k : Int) ∧ SplB b w1 wr) (fun vv _ => a.n - (intOf vv).toNat)
      case atStart => exact ⟨0, by omega, rfl, HWR.out⟩
      case round =>
       clear HWR
       obtain ⟨k, hkn, rfl, hwr⟩ := hrel
       have HWR := Hi hwr
       by_cases hk : k < a.n
       · have hlk : k < f.L.length := by rw [HSA.out.len]; exact hk
         obtain ⟨g, hA, ⟨v', hc, hl⟩, hf, hset⟩ := spl_cell H01.out HSA.out (by omega) hwr ((aclCells_get f.L k hlk).1)
         obtain ⟨cv, rfl⟩ := hl
         have e0 := HA.out wr hwr
         rw [hA] at e0
         have HW5 : Hid (SplB b w1 (wr.setCell ⟨g, k * 3, none⟩ (.int .i32 (-5)))) := hset _ ⟨_, rfl⟩
         clear hA hset hwr hlk
         go_wp2
         go_roundw
         case rel => exact ⟨k + 1, by omega, by go_num, HW5.out⟩
         case measure => simp [intOf]; omega
       · have d3 := HA.out wr hwr
         clear hwr
         go_wp2
         clear d3
         go_loopw [4] (fun vv wr => ∃ k : Nat, k ≤ i.n ∧ vv = .int .i64 (k : Int) ∧ SplB b w1 wr) (fun vv _ => i.n - (intOf vv).toNat)
         case atStart => exact ⟨0, by omega, rfl, HWR.out⟩
         case round =>
          clear HWR
          obtain ⟨k, hkn, rfl, hwr⟩ := hrel
          have HWR := Hi hwr
          by_cases hk : k < i.n
          · have hlk : k < f.I.length := by rw [HSI.out.len]; exact hk
            obtain ⟨g, hA, ⟨v', hc, hl⟩, hf, hset⟩ := spl_cell H01.out HSI.out (by omega) hwr ((idCells_get f.I k hlk).1)
            obtain ⟨cv, rfl⟩ := hl
            have e0 := HI.out wr hwr
            rw [hA] at e0
            have HW5 : Hid (SplB b w1 (wr.setCell ⟨g, k * 2, none⟩ (.string ⟨#[115, 112, 111, 105, 108, 116]⟩))) := hset _ ⟨_, rfl⟩
            clear hA hset hwr hlk
            go_wp2
            go_roundw
            case rel => exact ⟨k + 1, by omega, by go_num, HW5.out⟩
            case measure => simp [intOf]; omega
          · have d17 := HI.out wr hwr
            clear hwr
            go_wp2
            clear d17
            go_loopw [5] (fun vv wr => ∃ j : Nat, j ≤ 5 ∧ vv = .int .i64 (j : Int) ∧ SplB b w1 wr) (fun vv _ => 5 - (intOf vv).toNat)
            case atStart => exact ⟨0, by omega, rfl, HWR.out⟩
            case round =>
             clear HWR
             obtain ⟨wj, rfl⟩ : ∃ v, v = wr := ⟨_, rfl⟩
             obtain ⟨j, hj, rfl, hwj⟩ := hrel
             have HWJ := Hi hwj
             by_cases hj5 : j < 5
             · obtain ⟨kj, hkj⟩ : ∃ k, k = ([k0, k1, k2, k3, k4][j]'hj5) := ⟨_, rfl⟩
               have HSK : Hid (SlAt w0 (some b) 9 1 16 kj (f.lists[j]'hj5).length (strCells (f.lists[j]'hj5))) := by rw [hkj]; exact HKS.out j hj5
               have HHK : Hid (∀ wr, SplB b w1 wr → wr.cell? ⟨W.heap.size, 11 + j, none⟩ = some (.slice kj.A kj.n kj.c)) := by rw [hkj]; exact HK.out j hj5
               have hbd := HSK.out.bd (by decide)
               clear hkj hwj
               go_wp2
               go_loopw [6] (fun vv wr => ∃ m : Nat, m ≤ kj.n ∧ vv = .int .i64 (m : Int) ∧ SplB b w1 wr) (fun vv _ => kj.n - (intOf vv).toNat)
               case atStart => exact ⟨0, by omega, rfl, HWJ.out⟩
               case round =>
                obtain ⟨m, hm, rfl, hwr⟩ := hrel
                have HWR := Hi hwr
                have HC0 := Hi (HHK.out wr hwr)
                by_cases hmk : m < kj.n
                · have hlk : m < (f.lists[j]'hj5).length := by rw [HSK.out.len]; exact hmk
                  obtain ⟨g, hA, ⟨v', hc, hl⟩, hf, hset⟩ := spl_cell H01.out HSK.out (by omega) hwr (j := m) (v := .string ((f.lists[j]'hj5)[m])) (by rw [strCells_map, List.getElem?_map, List.getElem?_eq_getElem hlk]; rfl)
                  obtain ⟨cv, rfl⟩ := hl
                  have HW5 : Hid (SplB b w1 (wr.setCell ⟨g, m, none⟩ (.string ⟨#[115, 112, 111, 105, 108, 116]⟩))) := hset _ ⟨_, rfl⟩
                  obtain ⟨kA, kn, kc⟩ := kj
                  dsimp only at hA hmk hm HC0 hbd
                  subst hA
                  clear hset hwr hlk
                  go_wp2_with (first
                   | (with_reducible refine wpAt 57 ?_; refine wpList_load1 rfl 24 (.tmp 56) rfl ⟨W.heap.size, 11 + j, none⟩ rfl HC0.out zU24 rfl ?_)
                   | (with_reducible refine wpAt 65 ?_; refine wpList_load1 rfl 24 (.tmp 64) rfl ⟨W.heap.size, 11 + j, none⟩ rfl HC0.out zU24 rfl ?_))
                  go_roundw
                  case rel => exact ⟨m + 1, by omega, by go_num, HW5.out⟩
                  case measure => simp [intOf]; omega
                · clear hwr
                  go_wp2_with (with_reducible refine wpAt 57 ?_; refine wpList_load1 rfl 24 (.tmp 56) rfl ⟨W.heap.size, 11 + j, none⟩ rfl HC0.out zU24 rfl ?_)
                  go_roundw
                  case rel => exact ⟨j + 1, by omega, by go_num, HWR.out⟩
                  case measure => simp [intOf]; omega
             · obtain rfl : j = 5 := by omega
               rw [show ((5 : Nat) : Int) = 5 from rfl]
               clear hwj
               go_wp2
               go_loopw [7] (fun vv wr => ∃ k : Nat, k ≤ s.n ∧ vv = .int .i64 (k : Int) ∧ SplB b w1 wr) (fun vv _ => s.n - (intOf vv).toNat)
               case atStart => exact ⟨0, by omega, rfl, HWJ.out⟩
               case round =>
                obtain ⟨k, hkn, rfl, hwr⟩ := hrel
                have HWR := Hi hwr
                have e0 := HS.out wr hwr
                by_cases hk : k < s.n
                · have hlk : k < Q.length := by rw [HSS.out.len]; exact hk
                  obtain ⟨g, cr, hA, hlr, hrc⟩ := spl_row HSS.out (fun q hq => (HQ.out q hq).len) (H01.out.trans hwr) hlk
                  have hih := HIH.out _ (List.getElem_mem hlk) wr cr (H01.out.trans hwr) hlr
                  have hq0 : ∃ p, (Q.flatMap Prod.snd)[k * 19 + 1]? = some (.string p) := by
                   rw [subs_row Q (fun q hq => (HQ.out q hq).len) k hlk 1 (by omega)]
                   exact ⟨_, (HQ.out _ (List.getElem_mem hlk)).c1⟩
                  obtain ⟨pp, hpp⟩ := hq0
                  have HPS : Hid (∀ wx, SplB b w1 wx → ∃ g', s.A = some ⟨g', 0, none⟩ ∧ (∃ v', wx.cell? ⟨g', k * 19 + 1, none⟩ = some v' ∧ LikeV (.string pp) v') ∧ wx.frozen? ⟨g', k * 19 + 1, none⟩ = false ∧ ∀ x, LikeV (.string pp) x → SplB b w1 (wx.setCell ⟨g', k * 19 + 1, none⟩ x)) := fun wx hwx => spl_cell H01.out HSS.out (by omega) hwx hpp
                  have HIK := Hi hih
                  have HRC := Hi hrc
                  have HCR : Hid ((Tryd.prog.info? 29).map (·.size) = some cr.length) := by unfold Hid; rw [hlr.1, (HQ.out _ (List.getElem_mem hlk)).len]; exact isz_29
                  obtain ⟨sA, sn, sc⟩ := s
                  dsimp only at hA hk hkn e0
                  subst hA
                  clear hlr hrc hih hpp hwr hlk
                  go_wp2_with (first
                   | ((with_reducible refine wpAt 79 ?_); refine wpList_load_at (by rfl) 29 (.tmp 78) rfl ⟨g, k * 19, none⟩ rfl cr _ HRC.out zU29 rfl HCR.out ?_)
                   | (go_at_call 20
                      refine HIK.out.mono ?_
                      rintro e w3 ⟨rfl, h3⟩
                      have H13 : Hid (SplB b w1 w3) := HWR.out.trans h3
                      have e1 := HS.out w3 H13.out
                      obtain ⟨g', hg', ⟨v', hc, hl⟩, hf, hset⟩ := HPS.out w3 H13.out
                      injection hg' with hg'
                      injection hg' with hg'
                      subst hg'
                      obtain ⟨cv, rfl⟩ := hl
                      have HW5 : Hid (SplB b w1 (w3.setCell ⟨g, k * 19 + 1, none⟩ (.string ⟨#[115, 112, 111, 105, 108, 116]⟩))) := hset _ ⟨_, rfl⟩
                      clear hset h3))
                  go_roundw
                  case rel => exact ⟨k + 1, by omega, by go_num, HW5.out⟩
                  case measure => simp [intOf]; omega
                · clear hwr
                  go_wp2
                  go_end0
                  exact ⟨rfl, HW1.out.trans HWR.out⟩

theorem obs_of (s : ByteArray) : bs s.data.toList = s := by cases s; simp [bs]
theorem obs_list (x : List UInt8) : (bs x).data.toList = x := by simp [bs]
def WB {α : Type} (d : List UInt8) (g : Rg α) (x : α) : Prop := ∀ l p, Atb l p d → g l p = .inl (x, p + d.length)
section
variable {α β : Type} {d e : List UInt8} {f : Rg α} {g : α → Rg β} {x : α} {y : β}
theorem WB.bind (h : WB d f x) (k : WB e (g x) y) : WB (d ++ e) (f.bind g) y := fun l p ha => by
 rw [gb_ev (h l p ha.left), k l _ ha.right, zG, Nat.add_assoc]
theorem WB.ret (x : α) : WB [] (Rg.ret x) x := fun _ _ _ => rfl
theorem WB.last (h : WB d f x) (k : g x = Rg.ret y) : WB d (f.bind g) y := fun l p ha => by
 rw [gb_ev (h l p ha), k]
 rfl
theorem WB.map (h : WB d f x) (k : α → β) : WB d (f.map k) (k x) := fun l p ha => by
 unfold Rg.map
 rw [h l p ha]
end
theorem wb_int {z : Int} (h : (Lit.int .i32 z).wf = true) : WB (bInt z) gInt z := fun l p ha => by
 rw [int_atb ha, bInt_len]
 have e : wrap32 z = z := by
  have := bounds_i32 h
  unfold wrap32
  omega
 rw [e]
theorem wb_long {z : Int} (h : (Lit.int .i64 z).wf = true) : WB (bLong z) gLong z := fun l p ha => by
 rw [long_atb ha, bLong_len]
 have e : wrap64 z = z := by
  have := bounds_i64 h
  unfold wrap64
  omega
 rw [e]
theorem wb_bool (b : Bool) : WB (bBool b) gBool b := fun l p ha => by
 rw [bool_atb ha]
 rfl
theorem wb_buf {b : List UInt8} {most : Int} (hm : (b.length : Int) ≤ most) (hm2 : most ≤ 2147483647) : WB (bBuf b) (gBuf most) b := fun l p ha => by
 rw [buf_atb ha (by omega) hm, bBuf_len, Nat.add_assoc]
theorem wb_text {s : ByteArray} {most : Int} (hm : (s.size : Int) ≤ most) (hm2 : most ≤ 2147483647) (hv : validS s = true) : WB (bBuf s.data.toList) (gText most) s.data.toList := fun l p ha => by
 have := bsize_eq s
 unfold gText
 rw [buf_atb ha (by omega) (by omega)]
 dsimp only
 unfold validS at hv
 rw [if_pos hv, bBuf_len, Nat.add_assoc]
theorem wb_many {α : Type} {g : Rg α} {f : α → List UInt8} : ∀ (L : List α), (∀ x ∈ L, WB (f x) g x) → WB (L.flatMap f) (gMany g L.length) L
 | [], _ => fun _ _ _ => rfl
 | x :: r, hg => by
   rw [List.flatMap_cons, zM]
   exact (hg x (by simp)).bind ((wb_many r fun y hy => hg y (by simp [hy])).map fun r => x :: r)
theorem wb_get {α : Type} {g : Rg α} {f : α → List UInt8} {most : Int} {least : Nat} (L : List α) (hg : ∀ x ∈ L, WB (f x) g x) (hn : (L.length : Int) ≤ most) (hm : most ≤ 2147483647) (h0 : 0 < least) (hl : ∀ x ∈ L, least ≤ (f x).length) : WB (bInt L.length ++ L.flatMap f) (gGet most least g) L := by
 unfold gGet
 intro l p ha
 have hc : gCount most least l p = .inl (L.length, p + 4) := by
  unfold gCount
  rw [size_atb ha.left (by omega) hn]
  dsimp only
  rw [if_neg]
  have h1 := ha.right.1
  rw [bInt_len] at h1
  have h2 : least * L.length ≤ (L.flatMap f).length := by
   clear ha hg hn h1
   induction L with
   | nil => simp
   | cons x r ih =>
     have e1 := hl x (by simp)
     have e2 := ih (fun y hy => hl y (by simp [hy]))
     rw [List.flatMap_cons, zG, zM, Nat.mul_add]
     omega
  intro ⟨_, h3⟩
  have h4 : least * L.length ≤ l.length - (p + 4) := by omega
  have h5 : L.length ≤ (l.length - (p + 4)) / least := (Nat.le_div_iff_mul_le h0).2 (by rw [Nat.mul_comm]; exact h4)
  have h6 : (((l.length - (p + 4)) / least : Nat) : Int) = ((l.length - (p + 4) : Nat) : Int) / (least : Int) := Int.natCast_ediv _ _
  omega
 have h2 := ha.right
 rw [bInt_len] at h2
 rw [gb_ev hc, wb_many L hg l _ h2, zG, bInt_len, Nat.add_assoc]
theorem wb_id {x : ByteArray × ByteArray} (h1 : longI x = false) (h2 : oddI x = false) : WB (pIdB x) gIdO x := by
 obtain ⟨s, i⟩ := x
 unfold longI at h1
 unfold oddI at h2
 simp only [Bool.or_eq_false_iff, decide_eq_false_iff_not, Bool.not_eq_false'] at h1 h2
 have h := (wb_text (s := s) (most := 256) (by omega) (by omega) h2.1).bind (g := fun s => (gText 256).map fun i => (bs s, bs i)) ((wb_text (s := i) (most := 256) (by omega) (by omega) h2.2).map fun i' => (bs s.data.toList, bs i'))
 rw [obs_of, obs_of] at h
 exact h
theorem wb_acl {x : AclT} (h0 : (Lit.int .i32 x.1).wf = true) (h1 : longI x.2 = false) (h2 : oddI x.2 = false) : WB (pAclB x) gAcl x :=
 (wb_int h0).bind (g := fun z => gIdO.map fun i => (z, i)) ((wb_id h1 h2).map fun i => (x.1, i))
theorem pIdB_least (x : ByteArray × ByteArray) : 8 ≤ (pIdB x).length := by
 unfold pIdB
 rw [zG, bBuf_len, bBuf_len]
 omega
theorem pAclB_least (x : AclT) : 12 ≤ (pAclB x).length := by
 have := pIdB_least x.2
 unfold pAclB
 rw [zG, bInt_len]
 omega
theorem wb_ids {L : List (ByteArray × ByteArray)} (hn : L.length ≤ 16) (h : ∀ x ∈ L, longI x = false ∧ oddI x = false) : WB (bInt L.length ++ pIdsB L) (gGet 16 8 gIdO) L :=
 wb_get (least := 8) L (fun x hx => wb_id (h x hx).1 (h x hx).2) (by omega) (by omega) (by omega) (fun x _ => pIdB_least x)
theorem wb_acls {L : List AclT} (hn : L.length ≤ 16) (h : ∀ x ∈ L, longI x.2 = false ∧ oddI x.2 = false) (hw : ∀ x ∈ L, (Lit.int .i32 x.1).wf = true) : WB (bInt L.length ++ pAclsB L) (gGet 16 12 gAcl) L :=
 wb_get (least := 12) L (fun x hx => wb_acl (hw x hx) (h x hx).1 (h x hx).2) (by omega) (by omega) (by omega) (fun x _ => pAclB_least x)
theorem wb_texts {L : List ByteArray} (hn : L.length ≤ 1024) (h : ∀ s ∈ L, s.size ≤ 4096 ∧ validS s = true) : WB (bInt L.length ++ bTexts L) gTexts (L.map fun s => s.data.toList) := by
 have hh := wb_get (g := gText 4096) (f := bBuf) (most := 1024) (least := 4) (L.map fun s => s.data.toList) (fun x hx => by
  obtain ⟨s, hs, rfl⟩ := List.mem_map.1 hx
  exact wb_text (by have := (h s hs).1; omega) (by omega) (h s hs).2) (by rw [List.length_map]; omega) (by omega) (by omega) (fun x _ => by rw [bBuf_len]; omega)
 rw [List.length_map, List.flatMap_map] at hh
 exact hh
theorem map_bs (L : List ByteArray) : (L.map fun s => s.data.toList).map bs = L := by
 rw [List.map_map]
 conv => rhs; rw [← List.map_id L]
 exact List.map_congr_left fun s _ => obs_of s
structure OwnOk (f : OpF) (n : Nat) : Prop where
 kind : kindN f.t ≠ 0
 p : f.p.size ≤ 4096
 l : f.l.length ≤ 1048575
 L : f.L.length ≤ 16
 I : f.I.length ≤ 16
 lists : ∀ K ∈ f.lists, K.length ≤ 1024
 texts : ∀ s ∈ f.texts, s.size ≤ 4096 ∧ validS s = true
 many : f.t = 22 → n ≤ 1024
 ids : ∀ x ∈ f.ids, longI x = false ∧ oddI x = false
 pv : validS f.p = true
 kept : keptF f = f
 none : f.t ∉ tS → n = 0
theorem plain_eq {f g : OpF} : plainB f g = true ↔ f = g := by
 obtain ⟨t, p, l, L, fl, ve, wa, ct, by_, tl, zx, K0, K1, K2, K3, K4, to_, I⟩ := f
 obtain ⟨t', p', l', L', fl', ve', wa', ct', by_', tl', zx', K0', K1', K2', K3', K4', to_', I'⟩ := g
 unfold plainB OpF.lists
 simp only [Bool.and_eq_true, beq_iff_eq, decide_eq_true_eq, toL_iff, OpF.mk.injEq, List.cons.injEq, and_true]
 constructor
 · rintro ⟨⟨⟨⟨⟨⟨⟨⟨⟨⟨⟨⟨⟨h1, h2⟩, h3⟩, h4⟩, h5⟩, h6⟩, h7⟩, h8⟩, h9⟩, h10⟩, h11⟩, h12⟩, h13⟩, h14, h15, h16, h17, h18⟩
   exact ⟨h1, h2, h3, h4, h5, h6, h7, h8, h9, h12, h13, h14, h15, h16, h17, h18, h10, h11⟩
 · rintro ⟨h1, h2, h3, h4, h5, h6, h7, h8, h9, h12, h13, h14, h15, h16, h17, h18, h10, h11⟩
   exact ⟨⟨⟨⟨⟨⟨⟨⟨⟨⟨⟨⟨⟨h1, h2⟩, h3⟩, h4⟩, h5⟩, h6⟩, h7⟩, h8⟩, h9⟩, h10⟩, h11⟩, h12⟩, h13⟩, h14, h15, h16, h17, h18⟩
theorem own_ok {f : OpF} {n : Nat} : ownE f n = 0 ↔ OwnOk f n := by
 have hs : ((n : Int) != ((if f.t ∈ tS then n else 0 : Nat) : Int)) = false ↔ (f.t ∉ tS → n = 0) := by
  by_cases h : f.t ∈ tS
  · simp [h]
  · simp [h]
 unfold ownE
 constructor
 · intro h
   split at h
   · cases h
   rename_i h0
   split at h
   · cases h
   rename_i h1
   split at h
   · cases h
   rename_i h2
   simp only [bigB, manyB, oddB, longP, oddP, Bool.not_eq_true, Bool.or_eq_false_iff, decide_eq_false_iff_not, List.any_eq_false, Bool.not_eq_false', decide_eq_true_eq, hs, plain_eq, Bool.and_eq_false_iff, beq_eq_false_iff_ne] at h1 h2
   obtain ⟨⟨⟨⟨⟨a1, a2⟩, a3⟩, a4⟩, ⟨⟨a5, a6⟩, a7⟩⟩, a8⟩ := h1
   obtain ⟨⟨⟨⟨b1, b2⟩, b3⟩, b4⟩, b5⟩ := h2
   exact ⟨h0, by omega, by omega, by omega, by omega, fun K hK => by have := a5 K hK; omega, fun s hs => ⟨by have := a6 s hs; omega, by have := b3 s hs; simpa using this⟩, fun h => by
    rcases a7 with a7 | a7
    · exact absurd h a7
    · omega, fun x hx => ⟨by simpa using a8 x hx, by simpa using b2 x hx⟩, b1, b4.symm, b5⟩
 · intro h
   have h1 : bigB f n = false := by
    simp only [bigB, manyB, longP, Bool.or_eq_false_iff, decide_eq_false_iff_not, List.any_eq_false, decide_eq_true_eq, Bool.and_eq_false_iff, beq_eq_false_iff_ne]
    refine ⟨⟨⟨⟨⟨?_, ?_⟩, ?_⟩, ?_⟩, ⟨⟨fun K hK => ?_, fun s hs => ?_⟩, ?_⟩⟩, fun x hx => ?_⟩
    · have := h.p; omega
    · have := h.l; omega
    · have := h.L; omega
    · have := h.I; omega
    · have := h.lists K hK; omega
    · have := (h.texts s hs).1; omega
    · by_cases h22 : f.t = 22
      · right
        have := h.many h22
        omega
      · exact .inl h22
    · rw [(h.ids x hx).1]; simp
   have h2 : oddB f n = false := by
    simp only [oddB, oddP, Bool.or_eq_false_iff, List.any_eq_false, Bool.not_eq_false', hs, plain_eq]
    refine ⟨⟨⟨⟨h.pv, fun x hx => ?_⟩, fun s hs => ?_⟩, h.kept.symm⟩, h.none⟩
    · rw [(h.ids x hx).2]; simp
    · rw [(h.texts s hs).2]; simp
   rw [if_neg h.kind, h1, h2]
   simp

theorem back_g0 {t : Int} (htt : t ∈ ([1, 15, 19] : List Int)) {n : Nat} {p : ByteArray} {l : List UInt8} {L : List AclT} {fl : Int} (h : OwnOk ⟨t, p, l, L, fl, 0, false, 0, 0, 0, 0, [], [], [], [], [], 0, []⟩ n) (ok : OpF.Ok ⟨t, p, l, L, fl, 0, false, 0, 0, 0, 0, [], [], [], [], [], 0, []⟩) : WB (bBuf p.data.toList ++ bBuf l ++ (bInt L.length ++ pAclsB L) ++ bInt fl) (gFld t) (⟨t, p, l, L, fl, 0, false, 0, 0, 0, 0, [], [], [], [], [], 0, []⟩ : OpF) := by
 have hg : gFld t = (gText 4096).bind fun x1 => (gBuf 1048575).bind fun x2 => (gGet 16 12 gAcl).bind fun x3 => (gInt).bind fun x4 => Rg.ret ({ { { { zF t with p := bs x1 } with l := x2 } with L := x3 } with fl := x4 } : OpF) := by
  unfold gFld
  simp only [zH, zI, or_false] at htt
  rcases htt with rfl | rfl | rfl <;> rfl
 rw [hg]
 have hc : WB (bBuf p.data.toList ++ (bBuf l ++ ((bInt L.length ++ pAclsB L) ++ (bInt fl)))) ((gText 4096).bind fun x1 => (gBuf 1048575).bind fun x2 => (gGet 16 12 gAcl).bind fun x3 => (gInt).bind fun x4 => Rg.ret ({ { { { zF t with p := bs x1 } with l := x2 } with L := x3 } with fl := x4 } : OpF)) (⟨t, p, l, L, fl, 0, false, 0, 0, 0, 0, [], [], [], [], [], 0, []⟩ : OpF) := by
  refine (wb_text (s := p) (most := 4096) (by have := h.p; dsimp only at this; omega) (by omega) h.pv).bind ((wb_buf (b := l) (most := 1048575) (by have := h.l; dsimp only at this; omega) (by omega)).bind ((wb_acls h.L (fun x hx => h.ids x.2 (List.mem_append_right _ (List.mem_map_of_mem hx))) (fun x hx => (ok.acl x hx).1)).bind ((wb_int ok.fl).last ?_)))
  rw [obs_of]
  rfl
 simp only [zL] at hc ⊢
 exact hc
theorem back_g1 {t : Int} (htt : t ∈ ([21] : List Int)) {n : Nat} {p : ByteArray} {l : List UInt8} {L : List AclT} {fl : Int} {tl : Int} (h : OwnOk ⟨t, p, l, L, fl, 0, false, 0, 0, tl, 0, [], [], [], [], [], 0, []⟩ n) (ok : OpF.Ok ⟨t, p, l, L, fl, 0, false, 0, 0, tl, 0, [], [], [], [], [], 0, []⟩) : WB (bBuf p.data.toList ++ bBuf l ++ (bInt L.length ++ pAclsB L) ++ bInt fl ++ bLong tl) (gFld t) (⟨t, p, l, L, fl, 0, false, 0, 0, tl, 0, [], [], [], [], [], 0, []⟩ : OpF) := by
 have hg : gFld t = (gText 4096).bind fun x1 => (gBuf 1048575).bind fun x2 => (gGet 16 12 gAcl).bind fun x3 => (gInt).bind fun x4 => (gLong).bind fun x5 => Rg.ret ({ { { { { zF t with p := bs x1 } with l := x2 } with L := x3 } with fl := x4 } with tl := x5 } : OpF) := by
  unfold gFld
  simp only [zH, zI, or_false] at htt
  rcases htt with rfl <;> rfl
 rw [hg]
 have hc : WB (bBuf p.data.toList ++ (bBuf l ++ ((bInt L.length ++ pAclsB L) ++ (bInt fl ++ (bLong tl))))) ((gText 4096).bind fun x1 => (gBuf 1048575).bind fun x2 => (gGet 16 12 gAcl).bind fun x3 => (gInt).bind fun x4 => (gLong).bind fun x5 => Rg.ret ({ { { { { zF t with p := bs x1 } with l := x2 } with L := x3 } with fl := x4 } with tl := x5 } : OpF)) (⟨t, p, l, L, fl, 0, false, 0, 0, tl, 0, [], [], [], [], [], 0, []⟩ : OpF) := by
  refine (wb_text (s := p) (most := 4096) (by have := h.p; dsimp only at this; omega) (by omega) h.pv).bind ((wb_buf (b := l) (most := 1048575) (by have := h.l; dsimp only at this; omega) (by omega)).bind ((wb_acls h.L (fun x hx => h.ids x.2 (List.mem_append_right _ (List.mem_map_of_mem hx))) (fun x hx => (ok.acl x hx).1)).bind ((wb_int ok.fl).bind ((wb_long ok.tl).last ?_))))
  rw [obs_of]
  rfl
 simp only [zL] at hc ⊢
 exact hc
theorem back_g2 {t : Int} (htt : t ∈ ([2, 13] : List Int)) {n : Nat} {p : ByteArray} {ve : Int} (h : OwnOk ⟨t, p, [], [], 0, ve, false, 0, 0, 0, 0, [], [], [], [], [], 0, []⟩ n) (ok : OpF.Ok ⟨t, p, [], [], 0, ve, false, 0, 0, 0, 0, [], [], [], [], [], 0, []⟩) : WB (bBuf p.data.toList ++ bInt ve) (gFld t) (⟨t, p, [], [], 0, ve, false, 0, 0, 0, 0, [], [], [], [], [], 0, []⟩ : OpF) := by
 have hg : gFld t = (gText 4096).bind fun x1 => (gInt).bind fun x2 => Rg.ret ({ { zF t with p := bs x1 } with ve := x2 } : OpF) := by
  unfold gFld
  simp only [zH, zI, or_false] at htt
  rcases htt with rfl | rfl <;> rfl
 rw [hg]
 have hc : WB (bBuf p.data.toList ++ (bInt ve)) ((gText 4096).bind fun x1 => (gInt).bind fun x2 => Rg.ret ({ { zF t with p := bs x1 } with ve := x2 } : OpF)) (⟨t, p, [], [], 0, ve, false, 0, 0, 0, 0, [], [], [], [], [], 0, []⟩ : OpF) := by
  refine (wb_text (s := p) (most := 4096) (by have := h.p; dsimp only at this; omega) (by omega) h.pv).bind ((wb_int ok.ve).last ?_)
  rw [obs_of]
  rfl
 simp only [zL] at hc ⊢
 exact hc
theorem back_g3 {t : Int} (htt : t ∈ ([5] : List Int)) {n : Nat} {p : ByteArray} {l : List UInt8} {ve : Int} (h : OwnOk ⟨t, p, l, [], 0, ve, false, 0, 0, 0, 0, [], [], [], [], [], 0, []⟩ n) (ok : OpF.Ok ⟨t, p, l, [], 0, ve, false, 0, 0, 0, 0, [], [], [], [], [], 0, []⟩) : WB (bBuf p.data.toList ++ bBuf l ++ bInt ve) (gFld t) (⟨t, p, l, [], 0, ve, false, 0, 0, 0, 0, [], [], [], [], [], 0, []⟩ : OpF) := by
 have hg : gFld t = (gText 4096).bind fun x1 => (gBuf 1048575).bind fun x2 => (gInt).bind fun x3 => Rg.ret ({ { { zF t with p := bs x1 } with l := x2 } with ve := x3 } : OpF) := by
  unfold gFld
  simp only [zH, zI, or_false] at htt
  rcases htt with rfl <;> rfl
 rw [hg]
 have hc : WB (bBuf p.data.toList ++ (bBuf l ++ (bInt ve))) ((gText 4096).bind fun x1 => (gBuf 1048575).bind fun x2 => (gInt).bind fun x3 => Rg.ret ({ { { zF t with p := bs x1 } with l := x2 } with ve := x3 } : OpF)) (⟨t, p, l, [], 0, ve, false, 0, 0, 0, 0, [], [], [], [], [], 0, []⟩ : OpF) := by
  refine (wb_text (s := p) (most := 4096) (by have := h.p; dsimp only at this; omega) (by omega) h.pv).bind ((wb_buf (b := l) (most := 1048575) (by have := h.l; dsimp only at this; omega) (by omega)).bind ((wb_int ok.ve).last ?_))
  rw [obs_of]
  rfl
 simp only [zL] at hc ⊢
 exact hc
theorem back_g4 {t : Int} (htt : t ∈ ([7] : List Int)) {n : Nat} {p : ByteArray} {L : List AclT} {ve : Int} (h : OwnOk ⟨t, p, [], L, 0, ve, false, 0, 0, 0, 0, [], [], [], [], [], 0, []⟩ n) (ok : OpF.Ok ⟨t, p, [], L, 0, ve, false, 0, 0, 0, 0, [], [], [], [], [], 0, []⟩) : WB (bBuf p.data.toList ++ (bInt L.length ++ pAclsB L) ++ bInt ve) (gFld t) (⟨t, p, [], L, 0, ve, false, 0, 0, 0, 0, [], [], [], [], [], 0, []⟩ : OpF) := by
 have hg : gFld t = (gText 4096).bind fun x1 => (gGet 16 12 gAcl).bind fun x2 => (gInt).bind fun x3 => Rg.ret ({ { { zF t with p := bs x1 } with L := x2 } with ve := x3 } : OpF) := by
  unfold gFld
  simp only [zH, zI, or_false] at htt
  rcases htt with rfl <;> rfl
 rw [hg]
 have hc : WB (bBuf p.data.toList ++ ((bInt L.length ++ pAclsB L) ++ (bInt ve))) ((gText 4096).bind fun x1 => (gGet 16 12 gAcl).bind fun x2 => (gInt).bind fun x3 => Rg.ret ({ { { zF t with p := bs x1 } with L := x2 } with ve := x3 } : OpF)) (⟨t, p, [], L, 0, ve, false, 0, 0, 0, 0, [], [], [], [], [], 0, []⟩ : OpF) := by
  refine (wb_text (s := p) (most := 4096) (by have := h.p; dsimp only at this; omega) (by omega) h.pv).bind ((wb_acls h.L (fun x hx => h.ids x.2 (List.mem_append_right _ (List.mem_map_of_mem hx))) (fun x hx => (ok.acl x hx).1)).bind ((wb_int ok.ve).last ?_))
  rw [obs_of]
  rfl
 simp only [zL] at hc ⊢
 exact hc
theorem back_g5 {t : Int} (htt : t ∈ ([120] : List Int)) {n : Nat} {p : ByteArray} {ct : Int} {by_ : Int} (h : OwnOk ⟨t, p, [], [], 0, 0, false, ct, by_, 0, 0, [], [], [], [], [], 0, []⟩ n) (ok : OpF.Ok ⟨t, p, [], [], 0, 0, false, ct, by_, 0, 0, [], [], [], [], [], 0, []⟩) : WB (bBuf p.data.toList ++ bLong ct ++ bLong by_) (gFld t) (⟨t, p, [], [], 0, 0, false, ct, by_, 0, 0, [], [], [], [], [], 0, []⟩ : OpF) := by
 have hg : gFld t = (gText 4096).bind fun x1 => (gLong).bind fun x2 => (gLong).bind fun x3 => Rg.ret ({ { { zF t with p := bs x1 } with ct := x2 } with by_ := x3 } : OpF) := by
  unfold gFld
  simp only [zH, zI, or_false] at htt
  rcases htt with rfl <;> rfl
 rw [hg]
 have hc : WB (bBuf p.data.toList ++ (bLong ct ++ (bLong by_))) ((gText 4096).bind fun x1 => (gLong).bind fun x2 => (gLong).bind fun x3 => Rg.ret ({ { { zF t with p := bs x1 } with ct := x2 } with by_ := x3 } : OpF)) (⟨t, p, [], [], 0, 0, false, ct, by_, 0, 0, [], [], [], [], [], 0, []⟩ : OpF) := by
  refine (wb_text (s := p) (most := 4096) (by have := h.p; dsimp only at this; omega) (by omega) h.pv).bind ((wb_long ok.ct).bind ((wb_long ok.by_).last ?_))
  rw [obs_of]
  rfl
 simp only [zL] at hc ⊢
 exact hc
theorem back_g6 {t : Int} (htt : t ∈ ([121, 6, 9, 103, 104] : List Int)) {n : Nat} {p : ByteArray} (h : OwnOk ⟨t, p, [], [], 0, 0, false, 0, 0, 0, 0, [], [], [], [], [], 0, []⟩ n) (ok : OpF.Ok ⟨t, p, [], [], 0, 0, false, 0, 0, 0, 0, [], [], [], [], [], 0, []⟩) : WB (bBuf p.data.toList) (gFld t) (⟨t, p, [], [], 0, 0, false, 0, 0, 0, 0, [], [], [], [], [], 0, []⟩ : OpF) := by
 have hg : gFld t = (gText 4096).bind fun x1 => Rg.ret ({ zF t with p := bs x1 } : OpF) := by
  unfold gFld
  simp only [zH, zI, or_false] at htt
  rcases htt with rfl | rfl | rfl | rfl | rfl <;> rfl
 rw [hg]
 have hc : WB (bBuf p.data.toList) ((gText 4096).bind fun x1 => Rg.ret ({ zF t with p := bs x1 } : OpF)) (⟨t, p, [], [], 0, 0, false, 0, 0, 0, 0, [], [], [], [], [], 0, []⟩ : OpF) := by
  refine (wb_text (s := p) (most := 4096) (by have := h.p; dsimp only at this; omega) (by omega) h.pv).last ?_
  rw [obs_of]
  rfl
 simp only [zL] at hc ⊢
 exact hc
theorem back_g7 {t : Int} (htt : t ∈ ([3, 4, 8, 12] : List Int)) {n : Nat} {p : ByteArray} {wa : Bool} (h : OwnOk ⟨t, p, [], [], 0, 0, wa, 0, 0, 0, 0, [], [], [], [], [], 0, []⟩ n) (ok : OpF.Ok ⟨t, p, [], [], 0, 0, wa, 0, 0, 0, 0, [], [], [], [], [], 0, []⟩) : WB (bBuf p.data.toList ++ bBool wa) (gFld t) (⟨t, p, [], [], 0, 0, wa, 0, 0, 0, 0, [], [], [], [], [], 0, []⟩ : OpF) := by
 have hg : gFld t = (gText 4096).bind fun x1 => (gBool).bind fun x2 => Rg.ret ({ { zF t with p := bs x1 } with wa := x2 } : OpF) := by
  unfold gFld
  simp only [zH, zI, or_false] at htt
  rcases htt with rfl | rfl | rfl | rfl <;> rfl
 rw [hg]
 have hc : WB (bBuf p.data.toList ++ (bBool wa)) ((gText 4096).bind fun x1 => (gBool).bind fun x2 => Rg.ret ({ { zF t with p := bs x1 } with wa := x2 } : OpF)) (⟨t, p, [], [], 0, 0, wa, 0, 0, 0, 0, [], [], [], [], [], 0, []⟩ : OpF) := by
  refine (wb_text (s := p) (most := 4096) (by have := h.p; dsimp only at this; omega) (by omega) h.pv).bind ((wb_bool wa).last ?_)
  rw [obs_of]
  rfl
 simp only [zL] at hc ⊢
 exact hc
theorem back_g8 {t : Int} (htt : t ∈ ([106, 18] : List Int)) {n : Nat} {p : ByteArray} {fl : Int} (h : OwnOk ⟨t, p, [], [], fl, 0, false, 0, 0, 0, 0, [], [], [], [], [], 0, []⟩ n) (ok : OpF.Ok ⟨t, p, [], [], fl, 0, false, 0, 0, 0, 0, [], [], [], [], [], 0, []⟩) : WB (bBuf p.data.toList ++ bInt fl) (gFld t) (⟨t, p, [], [], fl, 0, false, 0, 0, 0, 0, [], [], [], [], [], 0, []⟩ : OpF) := by
 have hg : gFld t = (gText 4096).bind fun x1 => (gInt).bind fun x2 => Rg.ret ({ { zF t with p := bs x1 } with fl := x2 } : OpF) := by
  unfold gFld
  simp only [zH, zI, or_false] at htt
  rcases htt with rfl | rfl <;> rfl
 rw [hg]
 have hc : WB (bBuf p.data.toList ++ (bInt fl)) ((gText 4096).bind fun x1 => (gInt).bind fun x2 => Rg.ret ({ { zF t with p := bs x1 } with fl := x2 } : OpF)) (⟨t, p, [], [], fl, 0, false, 0, 0, 0, 0, [], [], [], [], [], 0, []⟩ : OpF) := by
  refine (wb_text (s := p) (most := 4096) (by have := h.p; dsimp only at this; omega) (by omega) h.pv).bind ((wb_int ok.fl).last ?_)
  rw [obs_of]
  rfl
 simp only [zL] at hc ⊢
 exact hc
theorem back_g9 {t : Int} (htt : t ∈ ([(-10)] : List Int)) {n : Nat} {to_ : Int} {I : List (ByteArray × ByteArray)} (h : OwnOk ⟨t, ⟨#[]⟩, [], [], 0, 0, false, 0, 0, 0, 0, [], [], [], [], [], to_, I⟩ n) (ok : OpF.Ok ⟨t, ⟨#[]⟩, [], [], 0, 0, false, 0, 0, 0, 0, [], [], [], [], [], to_, I⟩) : WB (bInt to_ ++ (bInt I.length ++ pIdsB I)) (gFld t) (⟨t, ⟨#[]⟩, [], [], 0, 0, false, 0, 0, 0, 0, [], [], [], [], [], to_, I⟩ : OpF) := by
 have hg : gFld t = (gInt).bind fun x1 => (gGet 16 8 gIdO).bind fun x2 => Rg.ret ({ (⟨(zF t).t, (zF t).p, (zF t).l, (zF t).L, (zF t).fl, (zF t).ve, (zF t).wa, (zF t).ct, (zF t).by_, (zF t).tl, (zF t).zx, (zF t).K0, (zF t).K1, (zF t).K2, (zF t).K3, (zF t).K4, x1, (zF t).I⟩ : OpF) with I := x2 } : OpF) := by
  unfold gFld
  simp only [zH, zI, or_false] at htt
  rcases htt with rfl <;> rfl
 rw [hg]
 have hc : WB (bInt to_ ++ ((bInt I.length ++ pIdsB I))) ((gInt).bind fun x1 => (gGet 16 8 gIdO).bind fun x2 => Rg.ret ({ (⟨(zF t).t, (zF t).p, (zF t).l, (zF t).L, (zF t).fl, (zF t).ve, (zF t).wa, (zF t).ct, (zF t).by_, (zF t).tl, (zF t).zx, (zF t).K0, (zF t).K1, (zF t).K2, (zF t).K3, (zF t).K4, x1, (zF t).I⟩ : OpF) with I := x2 } : OpF)) (⟨t, ⟨#[]⟩, [], [], 0, 0, false, 0, 0, 0, 0, [], [], [], [], [], to_, I⟩ : OpF) := by
  refine (wb_int ok.to).bind ((wb_ids h.I (fun x hx => h.ids x (List.mem_append_left _ hx))).last ?_)
  rfl
 simp only [zL] at hc ⊢
 exact hc
theorem back_g10 {t : Int} (htt : t ∈ ([(-11), 11, 107] : List Int)) {n : Nat}  (h : OwnOk ⟨t, ⟨#[]⟩, [], [], 0, 0, false, 0, 0, 0, 0, [], [], [], [], [], 0, []⟩ n) (ok : OpF.Ok ⟨t, ⟨#[]⟩, [], [], 0, 0, false, 0, 0, 0, 0, [], [], [], [], [], 0, []⟩) : WB ([]) (gFld t) (⟨t, ⟨#[]⟩, [], [], 0, 0, false, 0, 0, 0, 0, [], [], [], [], [], 0, []⟩ : OpF) := by
 have hg : gFld t = Rg.ret (zF t : OpF) := by
  unfold gFld
  simp only [zH, zI, or_false] at htt
  rcases htt with rfl | rfl | rfl <;> rfl
 rw [hg]
 exact WB.ret (zF t)
theorem fld_back {f : OpF} {n : Nat} (h : OwnOk f n) (ok : f.Ok) (h14 : f.t ≠ 14) (h22 : f.t ≠ 22) (h101 : f.t ≠ 101) (h5 : kindN f.t ≠ 5) : WB (fldB f) (gFld f.t) f := by
 obtain ⟨t, p, l, L, fl, ve, wa, ct, by_, tl, zx, K0, K1, K2, K3, K4, to_, I⟩ := f
 have hk := h.kept
 have htt := kind_types h.kind
 dsimp only at h14 h22 h101 h5 htt
 simp only [ownTypes, zH, zI, or_false] at htt
 rcases htt with rfl | rfl | rfl | rfl | rfl | rfl | rfl | rfl | rfl | rfl | rfl | rfl | rfl | rfl | rfl | rfl | rfl | rfl | rfl | rfl | rfl | rfl | rfl | rfl | rfl | rfl | rfl | rfl
 · have e : keptF ⟨1, p, l, L, fl, ve, wa, ct, by_, tl, zx, K0, K1, K2, K3, K4, to_, I⟩ = ⟨1, p, l, L, fl, 0, false, 0, 0, 0, 0, [], [], [], [], [], 0, []⟩ := rfl
   rw [e] at hk
   simp only [OpF.mk.injEq, true_and, and_true] at hk
   obtain ⟨rfl, rfl, rfl, rfl, rfl, rfl, rfl, rfl, rfl, rfl, rfl, rfl, rfl⟩ := hk
   exact back_g0 (t := 1) (by decide) h ok
 · have e : keptF ⟨15, p, l, L, fl, ve, wa, ct, by_, tl, zx, K0, K1, K2, K3, K4, to_, I⟩ = ⟨15, p, l, L, fl, 0, false, 0, 0, 0, 0, [], [], [], [], [], 0, []⟩ := rfl
   rw [e] at hk
   simp only [OpF.mk.injEq, true_and, and_true] at hk
   obtain ⟨rfl, rfl, rfl, rfl, rfl, rfl, rfl, rfl, rfl, rfl, rfl, rfl, rfl⟩ := hk
   exact back_g0 (t := 15) (by decide) h ok
 · have e : keptF ⟨19, p, l, L, fl, ve, wa, ct, by_, tl, zx, K0, K1, K2, K3, K4, to_, I⟩ = ⟨19, p, l, L, fl, 0, false, 0, 0, 0, 0, [], [], [], [], [], 0, []⟩ := rfl
   rw [e] at hk
   simp only [OpF.mk.injEq, true_and, and_true] at hk
   obtain ⟨rfl, rfl, rfl, rfl, rfl, rfl, rfl, rfl, rfl, rfl, rfl, rfl, rfl⟩ := hk
   exact back_g0 (t := 19) (by decide) h ok
 · have e : keptF ⟨21, p, l, L, fl, ve, wa, ct, by_, tl, zx, K0, K1, K2, K3, K4, to_, I⟩ = ⟨21, p, l, L, fl, 0, false, 0, 0, tl, 0, [], [], [], [], [], 0, []⟩ := rfl
   rw [e] at hk
   simp only [OpF.mk.injEq, true_and, and_true] at hk
   obtain ⟨rfl, rfl, rfl, rfl, rfl, rfl, rfl, rfl, rfl, rfl, rfl, rfl⟩ := hk
   exact back_g1 (t := 21) (by decide) h ok
 · have e : keptF ⟨2, p, l, L, fl, ve, wa, ct, by_, tl, zx, K0, K1, K2, K3, K4, to_, I⟩ = ⟨2, p, [], [], 0, ve, false, 0, 0, 0, 0, [], [], [], [], [], 0, []⟩ := rfl
   rw [e] at hk
   simp only [OpF.mk.injEq, true_and, and_true] at hk
   obtain ⟨rfl, rfl, rfl, rfl, rfl, rfl, rfl, rfl, rfl, rfl, rfl, rfl, rfl, rfl, rfl⟩ := hk
   exact back_g2 (t := 2) (by decide) h ok
 · have e : keptF ⟨13, p, l, L, fl, ve, wa, ct, by_, tl, zx, K0, K1, K2, K3, K4, to_, I⟩ = ⟨13, p, [], [], 0, ve, false, 0, 0, 0, 0, [], [], [], [], [], 0, []⟩ := rfl
   rw [e] at hk
   simp only [OpF.mk.injEq, true_and, and_true] at hk
   obtain ⟨rfl, rfl, rfl, rfl, rfl, rfl, rfl, rfl, rfl, rfl, rfl, rfl, rfl, rfl, rfl⟩ := hk
   exact back_g2 (t := 13) (by decide) h ok
 · have e : keptF ⟨5, p, l, L, fl, ve, wa, ct, by_, tl, zx, K0, K1, K2, K3, K4, to_, I⟩ = ⟨5, p, l, [], 0, ve, false, 0, 0, 0, 0, [], [], [], [], [], 0, []⟩ := rfl
   rw [e] at hk
   simp only [OpF.mk.injEq, true_and, and_true] at hk
   obtain ⟨rfl, rfl, rfl, rfl, rfl, rfl, rfl, rfl, rfl, rfl, rfl, rfl, rfl, rfl⟩ := hk
   exact back_g3 (t := 5) (by decide) h ok
 · have e : keptF ⟨7, p, l, L, fl, ve, wa, ct, by_, tl, zx, K0, K1, K2, K3, K4, to_, I⟩ = ⟨7, p, [], L, 0, ve, false, 0, 0, 0, 0, [], [], [], [], [], 0, []⟩ := rfl
   rw [e] at hk
   simp only [OpF.mk.injEq, true_and, and_true] at hk
   obtain ⟨rfl, rfl, rfl, rfl, rfl, rfl, rfl, rfl, rfl, rfl, rfl, rfl, rfl, rfl⟩ := hk
   exact back_g4 (t := 7) (by decide) h ok
 · have e : keptF ⟨120, p, l, L, fl, ve, wa, ct, by_, tl, zx, K0, K1, K2, K3, K4, to_, I⟩ = ⟨120, p, [], [], 0, 0, false, ct, by_, 0, 0, [], [], [], [], [], 0, []⟩ := rfl
   rw [e] at hk
   simp only [OpF.mk.injEq, true_and, and_true] at hk
   obtain ⟨rfl, rfl, rfl, rfl, rfl, rfl, rfl, rfl, rfl, rfl, rfl, rfl, rfl, rfl⟩ := hk
   exact back_g5 (t := 120) (by decide) h ok
 · have e : keptF ⟨121, p, l, L, fl, ve, wa, ct, by_, tl, zx, K0, K1, K2, K3, K4, to_, I⟩ = ⟨121, p, [], [], 0, 0, false, 0, 0, 0, 0, [], [], [], [], [], 0, []⟩ := rfl
   rw [e] at hk
   simp only [OpF.mk.injEq, true_and, and_true] at hk
   obtain ⟨rfl, rfl, rfl, rfl, rfl, rfl, rfl, rfl, rfl, rfl, rfl, rfl, rfl, rfl, rfl, rfl⟩ := hk
   exact back_g6 (t := 121) (by decide) h ok
 · exact absurd rfl h14
 · have e : keptF ⟨(-10), p, l, L, fl, ve, wa, ct, by_, tl, zx, K0, K1, K2, K3, K4, to_, I⟩ = ⟨(-10), ⟨#[]⟩, [], [], 0, 0, false, 0, 0, 0, 0, [], [], [], [], [], to_, I⟩ := rfl
   rw [e] at hk
   simp only [OpF.mk.injEq, true_and, and_true] at hk
   obtain ⟨rfl, rfl, rfl, rfl, rfl, rfl, rfl, rfl, rfl, rfl, rfl, rfl, rfl, rfl, rfl⟩ := hk
   exact back_g9 (t := (-10)) (by decide) h ok
 · have e : keptF ⟨(-11), p, l, L, fl, ve, wa, ct, by_, tl, zx, K0, K1, K2, K3, K4, to_, I⟩ = ⟨(-11), ⟨#[]⟩, [], [], 0, 0, false, 0, 0, 0, 0, [], [], [], [], [], 0, []⟩ := rfl
   rw [e] at hk
   simp only [OpF.mk.injEq, true_and, and_true] at hk
   obtain ⟨rfl, rfl, rfl, rfl, rfl, rfl, rfl, rfl, rfl, rfl, rfl, rfl, rfl, rfl, rfl, rfl, rfl⟩ := hk
   exact back_g10 (t := (-11)) (by decide) h ok
 · exact absurd (by decide) h5
 · have e : keptF ⟨3, p, l, L, fl, ve, wa, ct, by_, tl, zx, K0, K1, K2, K3, K4, to_, I⟩ = ⟨3, p, [], [], 0, 0, wa, 0, 0, 0, 0, [], [], [], [], [], 0, []⟩ := rfl
   rw [e] at hk
   simp only [OpF.mk.injEq, true_and, and_true] at hk
   obtain ⟨rfl, rfl, rfl, rfl, rfl, rfl, rfl, rfl, rfl, rfl, rfl, rfl, rfl, rfl, rfl⟩ := hk
   exact back_g7 (t := 3) (by decide) h ok
 · have e : keptF ⟨4, p, l, L, fl, ve, wa, ct, by_, tl, zx, K0, K1, K2, K3, K4, to_, I⟩ = ⟨4, p, [], [], 0, 0, wa, 0, 0, 0, 0, [], [], [], [], [], 0, []⟩ := rfl
   rw [e] at hk
   simp only [OpF.mk.injEq, true_and, and_true] at hk
   obtain ⟨rfl, rfl, rfl, rfl, rfl, rfl, rfl, rfl, rfl, rfl, rfl, rfl, rfl, rfl, rfl⟩ := hk
   exact back_g7 (t := 4) (by decide) h ok
 · have e : keptF ⟨8, p, l, L, fl, ve, wa, ct, by_, tl, zx, K0, K1, K2, K3, K4, to_, I⟩ = ⟨8, p, [], [], 0, 0, wa, 0, 0, 0, 0, [], [], [], [], [], 0, []⟩ := rfl
   rw [e] at hk
   simp only [OpF.mk.injEq, true_and, and_true] at hk
   obtain ⟨rfl, rfl, rfl, rfl, rfl, rfl, rfl, rfl, rfl, rfl, rfl, rfl, rfl, rfl, rfl⟩ := hk
   exact back_g7 (t := 8) (by decide) h ok
 · have e : keptF ⟨12, p, l, L, fl, ve, wa, ct, by_, tl, zx, K0, K1, K2, K3, K4, to_, I⟩ = ⟨12, p, [], [], 0, 0, wa, 0, 0, 0, 0, [], [], [], [], [], 0, []⟩ := rfl
   rw [e] at hk
   simp only [OpF.mk.injEq, true_and, and_true] at hk
   obtain ⟨rfl, rfl, rfl, rfl, rfl, rfl, rfl, rfl, rfl, rfl, rfl, rfl, rfl, rfl, rfl⟩ := hk
   exact back_g7 (t := 12) (by decide) h ok
 · have e : keptF ⟨6, p, l, L, fl, ve, wa, ct, by_, tl, zx, K0, K1, K2, K3, K4, to_, I⟩ = ⟨6, p, [], [], 0, 0, false, 0, 0, 0, 0, [], [], [], [], [], 0, []⟩ := rfl
   rw [e] at hk
   simp only [OpF.mk.injEq, true_and, and_true] at hk
   obtain ⟨rfl, rfl, rfl, rfl, rfl, rfl, rfl, rfl, rfl, rfl, rfl, rfl, rfl, rfl, rfl, rfl⟩ := hk
   exact back_g6 (t := 6) (by decide) h ok
 · have e : keptF ⟨9, p, l, L, fl, ve, wa, ct, by_, tl, zx, K0, K1, K2, K3, K4, to_, I⟩ = ⟨9, p, [], [], 0, 0, false, 0, 0, 0, 0, [], [], [], [], [], 0, []⟩ := rfl
   rw [e] at hk
   simp only [OpF.mk.injEq, true_and, and_true] at hk
   obtain ⟨rfl, rfl, rfl, rfl, rfl, rfl, rfl, rfl, rfl, rfl, rfl, rfl, rfl, rfl, rfl, rfl⟩ := hk
   exact back_g6 (t := 9) (by decide) h ok
 · have e : keptF ⟨103, p, l, L, fl, ve, wa, ct, by_, tl, zx, K0, K1, K2, K3, K4, to_, I⟩ = ⟨103, p, [], [], 0, 0, false, 0, 0, 0, 0, [], [], [], [], [], 0, []⟩ := rfl
   rw [e] at hk
   simp only [OpF.mk.injEq, true_and, and_true] at hk
   obtain ⟨rfl, rfl, rfl, rfl, rfl, rfl, rfl, rfl, rfl, rfl, rfl, rfl, rfl, rfl, rfl, rfl⟩ := hk
   exact back_g6 (t := 103) (by decide) h ok
 · have e : keptF ⟨104, p, l, L, fl, ve, wa, ct, by_, tl, zx, K0, K1, K2, K3, K4, to_, I⟩ = ⟨104, p, [], [], 0, 0, false, 0, 0, 0, 0, [], [], [], [], [], 0, []⟩ := rfl
   rw [e] at hk
   simp only [OpF.mk.injEq, true_and, and_true] at hk
   obtain ⟨rfl, rfl, rfl, rfl, rfl, rfl, rfl, rfl, rfl, rfl, rfl, rfl, rfl, rfl, rfl, rfl⟩ := hk
   exact back_g6 (t := 104) (by decide) h ok
 · have e : keptF ⟨106, p, l, L, fl, ve, wa, ct, by_, tl, zx, K0, K1, K2, K3, K4, to_, I⟩ = ⟨106, p, [], [], fl, 0, false, 0, 0, 0, 0, [], [], [], [], [], 0, []⟩ := rfl
   rw [e] at hk
   simp only [OpF.mk.injEq, true_and, and_true] at hk
   obtain ⟨rfl, rfl, rfl, rfl, rfl, rfl, rfl, rfl, rfl, rfl, rfl, rfl, rfl, rfl, rfl⟩ := hk
   exact back_g8 (t := 106) (by decide) h ok
 · have e : keptF ⟨11, p, l, L, fl, ve, wa, ct, by_, tl, zx, K0, K1, K2, K3, K4, to_, I⟩ = ⟨11, ⟨#[]⟩, [], [], 0, 0, false, 0, 0, 0, 0, [], [], [], [], [], 0, []⟩ := rfl
   rw [e] at hk
   simp only [OpF.mk.injEq, true_and, and_true] at hk
   obtain ⟨rfl, rfl, rfl, rfl, rfl, rfl, rfl, rfl, rfl, rfl, rfl, rfl, rfl, rfl, rfl, rfl, rfl⟩ := hk
   exact back_g10 (t := 11) (by decide) h ok
 · have e : keptF ⟨18, p, l, L, fl, ve, wa, ct, by_, tl, zx, K0, K1, K2, K3, K4, to_, I⟩ = ⟨18, p, [], [], fl, 0, false, 0, 0, 0, 0, [], [], [], [], [], 0, []⟩ := rfl
   rw [e] at hk
   simp only [OpF.mk.injEq, true_and, and_true] at hk
   obtain ⟨rfl, rfl, rfl, rfl, rfl, rfl, rfl, rfl, rfl, rfl, rfl, rfl, rfl, rfl, rfl⟩ := hk
   exact back_g8 (t := 18) (by decide) h ok
 · exact absurd rfl h22
 · exact absurd rfl h101
 · have e : keptF ⟨107, p, l, L, fl, ve, wa, ct, by_, tl, zx, K0, K1, K2, K3, K4, to_, I⟩ = ⟨107, ⟨#[]⟩, [], [], 0, 0, false, 0, 0, 0, 0, [], [], [], [], [], 0, []⟩ := rfl
   rw [e] at hk
   simp only [OpF.mk.injEq, true_and, and_true] at hk
   obtain ⟨rfl, rfl, rfl, rfl, rfl, rfl, rfl, rfl, rfl, rfl, rfl, rfl, rfl, rfl, rfl, rfl, rfl⟩ := hk
   exact back_g10 (t := 107) (by decide) h ok
theorem wat_back {f : OpF} {n : Nat} (h : OwnOk f n) (ok : f.Ok) (h101 : f.t = 101) : WB (fldB f) gWat f := by
 obtain ⟨t, p, l, L, fl, ve, wa, ct, by_, tl, zx, K0, K1, K2, K3, K4, to_, I⟩ := f
 have hk := h.kept
 dsimp only at h101
 subst h101
 have e : keptF ⟨101, p, l, L, fl, ve, wa, ct, by_, tl, zx, K0, K1, K2, K3, K4, to_, I⟩ = ⟨101, ⟨#[]⟩, [], [], 0, 0, false, 0, 0, 0, zx, K0, K1, K2, K3, K4, 0, []⟩ := rfl
 rw [e] at hk
 simp only [OpF.mk.injEq, true_and, and_true] at hk
 obtain ⟨rfl, rfl, rfl, rfl, rfl, rfl, rfl, rfl, rfl, rfl, rfl⟩ := hk
 have hl := h.lists
 have ht := h.texts
 unfold OpF.lists at hl
 unfold OpF.texts at ht
 dsimp only at hl ht
 have t0 := wb_texts (L := K0) (hl K0 (by simp)) (fun s hs => ht s (by simp [hs]))
 have t1 := wb_texts (L := K1) (hl K1 (by simp)) (fun s hs => ht s (by simp [hs]))
 have t2 := wb_texts (L := K2) (hl K2 (by simp)) (fun s hs => ht s (by simp [hs]))
 have t3 := wb_texts (L := K3) (hl K3 (by simp)) (fun s hs => ht s (by simp [hs]))
 have t4 := wb_texts (L := K4) (hl K4 (by simp)) (fun s hs => ht s (by simp [hs]))
 have hf : fldB ⟨101, ⟨#[]⟩, [], [], 0, 0, false, 0, 0, 0, zx, K0, K1, K2, K3, K4, 0, []⟩ = bLong zx ++ ((bInt K0.length ++ bTexts K0) ++ ((bInt K1.length ++ bTexts K1) ++ ((bInt K2.length ++ bTexts K2) ++ ((bInt K3.length ++ bTexts K3) ++ (bInt K4.length ++ bTexts K4))))) := by
  show bLong zx ++ pListsB _ = _
  unfold pListsB OpF.lists
  simp only [List.flatMap_cons, List.flatMap_nil, List.append_nil]
 rw [hf]
 refine (wb_long ok.zx).bind (t0.bind (t1.bind (t2.bind (t3.bind (t4.last ?_)))))
 rw [map_bs, map_bs, map_bs, map_bs, map_bs]
 rfl
theorem bool_bk' {l : List UInt8} {p q : Nat} {b : Bool} (h : gBool l p = .inl (b, q)) : Bk l p q (bBool b) := by
 unfold gBool at h
 split at h
 · rename_i n q' hn
   split at h
   · cases h
   · rename_i hle
     simp only [Sum.inl.injEq, Prod.mk.injEq] at h
     obtain ⟨rfl, rfl⟩ := h
     obtain ⟨h1, rfl, h3⟩ := num_back hn
     refine ⟨?_, by omega, h3⟩
     rw [Nat.add_sub_cancel_left, ← h1]
     have hn2 : n = 0 ∨ n = 1 := by omega
     rcases hn2 with rfl | rfl <;> rfl
 · cases h
theorem buf_bk' {most : Int} {l x : List UInt8} {p q : Nat} (h : gBuf most l p = .inl (x, q)) : Bk l p q (bBuf x) := buf_back h
theorem many_fo {α : Type} {g : Rg α} {f : α → List UInt8} {Q : α → Prop} {l : List UInt8} (hg : ∀ x p q, g l p = .inl (x, q) → Bk l p q (f x) ∧ Q x) : ∀ (n p q : Nat) (L : List α), p ≤ l.length → gMany g n l p = .inl (L, q) → Bk l p q (L.flatMap f) ∧ L.length = n ∧ ∀ x ∈ L, Q x
 | 0, p, q, L, hp, h => by
   simp only [gMany, Rg.ret, Sum.inl.injEq, Prod.mk.injEq] at h
   obtain ⟨rfl, rfl⟩ := h
   exact ⟨Bk.nil l p hp, rfl, fun _ h => by cases h⟩
 | n + 1, p, q, L, hp, h => by
   rw [gMany_succ] at h
   split at h
   · rename_i x q1 hx
     split at h
     · rename_i r q2 hr
       simp only [Sum.inl.injEq, Prod.mk.injEq] at h
       obtain ⟨rfl, rfl⟩ := h
       obtain ⟨h1, h2⟩ := hg _ _ _ hx
       obtain ⟨h3, h4, h5⟩ := many_fo hg n q1 q2 r h1.2.2 hr
       rw [List.flatMap_cons, zM, h4]
       exact ⟨h1.app h3, rfl, fun y hy => by
        rcases zH.1 hy with rfl | hy
        · exact h2
        · exact h5 y hy⟩
     · cases h
   · cases h
theorem get_fo {α : Type} {g : Rg α} {f : α → List UInt8} {Q : α → Prop} {l : List UInt8} (hg : ∀ x p q, g l p = .inl (x, q) → Bk l p q (f x) ∧ Q x) {most least : Int} {p q : Nat} {L : List α} (h : gGet most least g l p = .inl (L, q)) : Bk l p q (bInt L.length ++ L.flatMap f) ∧ (L.length : Int) ≤ most ∧ ∀ x ∈ L, Q x := by
 unfold gGet at h
 obtain ⟨n, q1, hc, hm⟩ := bind_inl h
 obtain ⟨c1, c2, c3⟩ := count_back hc
 obtain ⟨h1, h2, h3⟩ := many_fo hg n q1 q L (by omega) hm
 have hb : Bk l p q1 (bInt L.length) := ⟨by rw [h2, c1, c2, Nat.add_sub_cancel_left], by omega, by omega⟩
 exact ⟨hb.app h1, by rw [h2]; exact gCount_most hc, h3⟩
theorem text_fo {most : Int} {l x : List UInt8} {p q : Nat} (h : gText most l p = .inl (x, q)) : Bk l p q (bBuf (bs x).data.toList) ∧ ((bs x).size : Int) ≤ most ∧ validS (bs x) = true := by
 rw [obs_list, bs_size]
 exact ⟨text_back h, gText_most h, by unfold validS; rw [obs_list]; exact (gText_inl h).2⟩
theorem id_fo {l : List UInt8} {p q : Nat} {x : ByteArray × ByteArray} (h : gIdO l p = .inl (x, q)) : Bk l p q (pIdB x) ∧ (longI x = false ∧ oddI x = false) := by
 obtain ⟨s, q1, h1, h⟩ := bind_inl h
 obtain ⟨i, h2, rfl⟩ := map_inl h
 obtain ⟨a1, a2, a3⟩ := text_fo h1
 obtain ⟨b1, b2, b3⟩ := text_fo h2
 refine ⟨a1.app b1, ?_, ?_⟩
 · unfold longI
   simp only [Bool.or_eq_false_iff, decide_eq_false_iff_not]
   constructor <;> omega
 · unfold oddI
   rw [a3, b3]
   rfl
theorem acl_fo {l : List UInt8} {p q : Nat} {x : AclT} (h : gAcl l p = .inl (x, q)) : Bk l p q (pAclB x) ∧ (longI x.2 = false ∧ oddI x.2 = false) := by
 obtain ⟨z, q1, h1, h⟩ := bind_inl h
 obtain ⟨i, h2, rfl⟩ := map_inl h
 obtain ⟨b1, b2⟩ := id_fo h2
 exact ⟨(int_bk h1).app b1, b2⟩
theorem ids_fo {l : List UInt8} {p q : Nat} {L : List (ByteArray × ByteArray)} (h : gGet 16 8 gIdO l p = .inl (L, q)) : Bk l p q (bInt L.length ++ pIdsB L) ∧ L.length ≤ 16 ∧ ∀ x ∈ L, longI x = false ∧ oddI x = false := by
 obtain ⟨h1, h2, h3⟩ := get_fo (fun x p q h => id_fo h) h
 exact ⟨h1, by omega, h3⟩
theorem acls_fo {l : List UInt8} {p q : Nat} {L : List AclT} (h : gGet 16 12 gAcl l p = .inl (L, q)) : Bk l p q (bInt L.length ++ pAclsB L) ∧ L.length ≤ 16 ∧ ∀ x ∈ L, longI x.2 = false ∧ oddI x.2 = false := by
 obtain ⟨h1, h2, h3⟩ := get_fo (fun x p q h => acl_fo h) h
 exact ⟨h1, by omega, h3⟩
theorem texts_fo {l : List UInt8} {p q : Nat} {L : List (List UInt8)} (h : gTexts l p = .inl (L, q)) : Bk l p q (bInt (L.map bs).length ++ bTexts (L.map bs)) ∧ (L.map bs).length ≤ 1024 ∧ ∀ s ∈ L.map bs, s.size ≤ 4096 ∧ validS s = true := by
 obtain ⟨h1, h2, h3⟩ := get_fo (f := fun x => bBuf (bs x).data.toList) (Q := fun x => (bs x).size ≤ 4096 ∧ validS (bs x) = true) (fun x p q h => by
  obtain ⟨a, b, c⟩ := text_fo h
  exact ⟨a, by omega, c⟩) h
 unfold bTexts
 rw [List.length_map, List.flatMap_map]
 refine ⟨h1, by omega, fun s hs => ?_⟩
 obtain ⟨x, hx, rfl⟩ := List.mem_map.1 hs
 exact h3 x hx
theorem empty_valid : validS ⟨#[]⟩ = true := by
 unfold validS
 rfl
theorem forth_g0 {t : Int} (htt : t ∈ ([1, 15, 19] : List Int)) {l : List UInt8} {p q : Nat} {f : OpF} (h : gFld t l p = .inl (f, q)) (hp : p ≤ l.length) : Bk l p q (fldB f) ∧ f.t = t ∧ OwnOk f 0 := by
 simp only [zH, zI, or_false] at htt
 have h : ((gText 4096).bind fun x1 => (gBuf 1048575).bind fun x2 => (gGet 16 12 gAcl).bind fun x3 => (gInt).bind fun x4 => Rg.ret ({ { { { zF t with p := bs x1 } with l := x2 } with L := x3 } with fl := x4 } : OpF)) l p = .inl (f, q) := by
  rcases htt with rfl | rfl | rfl <;> exact h
 obtain ⟨x1, q1, h1, h⟩ := bind_inl h
 have a1 := text_fo h1
 obtain ⟨x2, q2, h2, h⟩ := bind_inl h
 have a2 := gBuf_most h2
 obtain ⟨x3, q3, h3, h⟩ := bind_inl h
 have a3 := acls_fo h3
 obtain ⟨x4, q4, h4, h⟩ := bind_inl h
 have h : (Sum.inl (_, _) : (OpF × Nat) ⊕ (Int × Nat)) = .inl (f, q) := h
 simp only [Sum.inl.injEq, Prod.mk.injEq] at h
 obtain ⟨rfl, rfl⟩ := h
 refine ⟨by rcases htt with rfl | rfl | rfl <;> exact (((a1.1).app (buf_bk' h2)).app a3.1).app (int_bk h4), rfl, ⟨by dsimp only [zF]; rcases htt with rfl | rfl | rfl <;> decide, (by have := a1.2.1; dsimp only; omega), (by dsimp only; omega), a3.2.1, Nat.zero_le _, ?_, ?_, fun _ => Nat.zero_le _, ?_, a1.2.2, by rcases htt with rfl | rfl | rfl <;> rfl, fun _ => rfl⟩⟩
 · intro K hK
   simp only [OpF.lists, zF, zH, zI, or_false, or_self] at hK
   subst hK
   exact Nat.zero_le _
 · intro s hs
   simp [OpF.texts, zF] at hs
 · intro x hx
   simp only [OpF.ids, zF, List.nil_append] at hx
   obtain ⟨y, hy, rfl⟩ := List.mem_map.1 hx
   exact a3.2.2 y hy
theorem forth_g1 {t : Int} (htt : t ∈ ([21] : List Int)) {l : List UInt8} {p q : Nat} {f : OpF} (h : gFld t l p = .inl (f, q)) (hp : p ≤ l.length) : Bk l p q (fldB f) ∧ f.t = t ∧ OwnOk f 0 := by
 simp only [zH, zI, or_false] at htt
 have h : ((gText 4096).bind fun x1 => (gBuf 1048575).bind fun x2 => (gGet 16 12 gAcl).bind fun x3 => (gInt).bind fun x4 => (gLong).bind fun x5 => Rg.ret ({ { { { { zF t with p := bs x1 } with l := x2 } with L := x3 } with fl := x4 } with tl := x5 } : OpF)) l p = .inl (f, q) := by
  rcases htt with rfl <;> exact h
 obtain ⟨x1, q1, h1, h⟩ := bind_inl h
 have a1 := text_fo h1
 obtain ⟨x2, q2, h2, h⟩ := bind_inl h
 have a2 := gBuf_most h2
 obtain ⟨x3, q3, h3, h⟩ := bind_inl h
 have a3 := acls_fo h3
 obtain ⟨x4, q4, h4, h⟩ := bind_inl h
 obtain ⟨x5, q5, h5, h⟩ := bind_inl h
 have h : (Sum.inl (_, _) : (OpF × Nat) ⊕ (Int × Nat)) = .inl (f, q) := h
 simp only [Sum.inl.injEq, Prod.mk.injEq] at h
 obtain ⟨rfl, rfl⟩ := h
 refine ⟨by rcases htt with rfl <;> exact ((((a1.1).app (buf_bk' h2)).app a3.1).app (int_bk h4)).app (long_bk h5), rfl, ⟨by dsimp only [zF]; rcases htt with rfl <;> decide, (by have := a1.2.1; dsimp only; omega), (by dsimp only; omega), a3.2.1, Nat.zero_le _, ?_, ?_, fun _ => Nat.zero_le _, ?_, a1.2.2, by rcases htt with rfl <;> rfl, fun _ => rfl⟩⟩
 · intro K hK
   simp only [OpF.lists, zF, zH, zI, or_false, or_self] at hK
   subst hK
   exact Nat.zero_le _
 · intro s hs
   simp [OpF.texts, zF] at hs
 · intro x hx
   simp only [OpF.ids, zF, List.nil_append] at hx
   obtain ⟨y, hy, rfl⟩ := List.mem_map.1 hx
   exact a3.2.2 y hy
theorem forth_g2 {t : Int} (htt : t ∈ ([2, 13] : List Int)) {l : List UInt8} {p q : Nat} {f : OpF} (h : gFld t l p = .inl (f, q)) (hp : p ≤ l.length) : Bk l p q (fldB f) ∧ f.t = t ∧ OwnOk f 0 := by
 simp only [zH, zI, or_false] at htt
 have h : ((gText 4096).bind fun x1 => (gInt).bind fun x2 => Rg.ret ({ { zF t with p := bs x1 } with ve := x2 } : OpF)) l p = .inl (f, q) := by
  rcases htt with rfl | rfl <;> exact h
 obtain ⟨x1, q1, h1, h⟩ := bind_inl h
 have a1 := text_fo h1
 obtain ⟨x2, q2, h2, h⟩ := bind_inl h
 have h : (Sum.inl (_, _) : (OpF × Nat) ⊕ (Int × Nat)) = .inl (f, q) := h
 simp only [Sum.inl.injEq, Prod.mk.injEq] at h
 obtain ⟨rfl, rfl⟩ := h
 refine ⟨by rcases htt with rfl | rfl <;> exact (a1.1).app (int_bk h2), rfl, ⟨by dsimp only [zF]; rcases htt with rfl | rfl <;> decide, (by have := a1.2.1; dsimp only; omega), Nat.zero_le _, Nat.zero_le _, Nat.zero_le _, ?_, ?_, fun _ => Nat.zero_le _, ?_, a1.2.2, by rcases htt with rfl | rfl <;> rfl, fun _ => rfl⟩⟩
 · intro K hK
   simp only [OpF.lists, zF, zH, zI, or_false, or_self] at hK
   subst hK
   exact Nat.zero_le _
 · intro s hs
   simp [OpF.texts, zF] at hs
 · intro x hx
   simp [OpF.ids, zF] at hx
theorem forth_g3 {t : Int} (htt : t ∈ ([5] : List Int)) {l : List UInt8} {p q : Nat} {f : OpF} (h : gFld t l p = .inl (f, q)) (hp : p ≤ l.length) : Bk l p q (fldB f) ∧ f.t = t ∧ OwnOk f 0 := by
 simp only [zH, zI, or_false] at htt
 have h : ((gText 4096).bind fun x1 => (gBuf 1048575).bind fun x2 => (gInt).bind fun x3 => Rg.ret ({ { { zF t with p := bs x1 } with l := x2 } with ve := x3 } : OpF)) l p = .inl (f, q) := by
  rcases htt with rfl <;> exact h
 obtain ⟨x1, q1, h1, h⟩ := bind_inl h
 have a1 := text_fo h1
 obtain ⟨x2, q2, h2, h⟩ := bind_inl h
 have a2 := gBuf_most h2
 obtain ⟨x3, q3, h3, h⟩ := bind_inl h
 have h : (Sum.inl (_, _) : (OpF × Nat) ⊕ (Int × Nat)) = .inl (f, q) := h
 simp only [Sum.inl.injEq, Prod.mk.injEq] at h
 obtain ⟨rfl, rfl⟩ := h
 refine ⟨by rcases htt with rfl <;> exact ((a1.1).app (buf_bk' h2)).app (int_bk h3), rfl, ⟨by dsimp only [zF]; rcases htt with rfl <;> decide, (by have := a1.2.1; dsimp only; omega), (by dsimp only; omega), Nat.zero_le _, Nat.zero_le _, ?_, ?_, fun _ => Nat.zero_le _, ?_, a1.2.2, by rcases htt with rfl <;> rfl, fun _ => rfl⟩⟩
 · intro K hK
   simp only [OpF.lists, zF, zH, zI, or_false, or_self] at hK
   subst hK
   exact Nat.zero_le _
 · intro s hs
   simp [OpF.texts, zF] at hs
 · intro x hx
   simp [OpF.ids, zF] at hx
theorem forth_g4 {t : Int} (htt : t ∈ ([7] : List Int)) {l : List UInt8} {p q : Nat} {f : OpF} (h : gFld t l p = .inl (f, q)) (hp : p ≤ l.length) : Bk l p q (fldB f) ∧ f.t = t ∧ OwnOk f 0 := by
 simp only [zH, zI, or_false] at htt
 have h : ((gText 4096).bind fun x1 => (gGet 16 12 gAcl).bind fun x2 => (gInt).bind fun x3 => Rg.ret ({ { { zF t with p := bs x1 } with L := x2 } with ve := x3 } : OpF)) l p = .inl (f, q) := by
  rcases htt with rfl <;> exact h
 obtain ⟨x1, q1, h1, h⟩ := bind_inl h
 have a1 := text_fo h1
 obtain ⟨x2, q2, h2, h⟩ := bind_inl h
 have a2 := acls_fo h2
 obtain ⟨x3, q3, h3, h⟩ := bind_inl h
 have h : (Sum.inl (_, _) : (OpF × Nat) ⊕ (Int × Nat)) = .inl (f, q) := h
 simp only [Sum.inl.injEq, Prod.mk.injEq] at h
 obtain ⟨rfl, rfl⟩ := h
 refine ⟨by rcases htt with rfl <;> exact ((a1.1).app a2.1).app (int_bk h3), rfl, ⟨by dsimp only [zF]; rcases htt with rfl <;> decide, (by have := a1.2.1; dsimp only; omega), Nat.zero_le _, a2.2.1, Nat.zero_le _, ?_, ?_, fun _ => Nat.zero_le _, ?_, a1.2.2, by rcases htt with rfl <;> rfl, fun _ => rfl⟩⟩
 · intro K hK
   simp only [OpF.lists, zF, zH, zI, or_false, or_self] at hK
   subst hK
   exact Nat.zero_le _
 · intro s hs
   simp [OpF.texts, zF] at hs
 · intro x hx
   simp only [OpF.ids, zF, List.nil_append] at hx
   obtain ⟨y, hy, rfl⟩ := List.mem_map.1 hx
   exact a2.2.2 y hy
theorem forth_g5 {t : Int} (htt : t ∈ ([120] : List Int)) {l : List UInt8} {p q : Nat} {f : OpF} (h : gFld t l p = .inl (f, q)) (hp : p ≤ l.length) : Bk l p q (fldB f) ∧ f.t = t ∧ OwnOk f 0 := by
 simp only [zH, zI, or_false] at htt
 have h : ((gText 4096).bind fun x1 => (gLong).bind fun x2 => (gLong).bind fun x3 => Rg.ret ({ { { zF t with p := bs x1 } with ct := x2 } with by_ := x3 } : OpF)) l p = .inl (f, q) := by
  rcases htt with rfl <;> exact h
 obtain ⟨x1, q1, h1, h⟩ := bind_inl h
 have a1 := text_fo h1
 obtain ⟨x2, q2, h2, h⟩ := bind_inl h
 obtain ⟨x3, q3, h3, h⟩ := bind_inl h
 have h : (Sum.inl (_, _) : (OpF × Nat) ⊕ (Int × Nat)) = .inl (f, q) := h
 simp only [Sum.inl.injEq, Prod.mk.injEq] at h
 obtain ⟨rfl, rfl⟩ := h
 refine ⟨by rcases htt with rfl <;> exact ((a1.1).app (long_bk h2)).app (long_bk h3), rfl, ⟨by dsimp only [zF]; rcases htt with rfl <;> decide, (by have := a1.2.1; dsimp only; omega), Nat.zero_le _, Nat.zero_le _, Nat.zero_le _, ?_, ?_, fun _ => Nat.zero_le _, ?_, a1.2.2, by rcases htt with rfl <;> rfl, fun _ => rfl⟩⟩
 · intro K hK
   simp only [OpF.lists, zF, zH, zI, or_false, or_self] at hK
   subst hK
   exact Nat.zero_le _
 · intro s hs
   simp [OpF.texts, zF] at hs
 · intro x hx
   simp [OpF.ids, zF] at hx
theorem forth_g6 {t : Int} (htt : t ∈ ([121, 6, 9, 103, 104] : List Int)) {l : List UInt8} {p q : Nat} {f : OpF} (h : gFld t l p = .inl (f, q)) (hp : p ≤ l.length) : Bk l p q (fldB f) ∧ f.t = t ∧ OwnOk f 0 := by
 simp only [zH, zI, or_false] at htt
 have h : ((gText 4096).bind fun x1 => Rg.ret ({ zF t with p := bs x1 } : OpF)) l p = .inl (f, q) := by
  rcases htt with rfl | rfl | rfl | rfl | rfl <;> exact h
 obtain ⟨x1, q1, h1, h⟩ := bind_inl h
 have a1 := text_fo h1
 have h : (Sum.inl (_, _) : (OpF × Nat) ⊕ (Int × Nat)) = .inl (f, q) := h
 simp only [Sum.inl.injEq, Prod.mk.injEq] at h
 obtain ⟨rfl, rfl⟩ := h
 refine ⟨by rcases htt with rfl | rfl | rfl | rfl | rfl <;> exact a1.1, rfl, ⟨by dsimp only [zF]; rcases htt with rfl | rfl | rfl | rfl | rfl <;> decide, (by have := a1.2.1; dsimp only; omega), Nat.zero_le _, Nat.zero_le _, Nat.zero_le _, ?_, ?_, fun _ => Nat.zero_le _, ?_, a1.2.2, by rcases htt with rfl | rfl | rfl | rfl | rfl <;> rfl, fun _ => rfl⟩⟩
 · intro K hK
   simp only [OpF.lists, zF, zH, zI, or_false, or_self] at hK
   subst hK
   exact Nat.zero_le _
 · intro s hs
   simp [OpF.texts, zF] at hs
 · intro x hx
   simp [OpF.ids, zF] at hx
theorem forth_g7 {t : Int} (htt : t ∈ ([3, 4, 8, 12] : List Int)) {l : List UInt8} {p q : Nat} {f : OpF} (h : gFld t l p = .inl (f, q)) (hp : p ≤ l.length) : Bk l p q (fldB f) ∧ f.t = t ∧ OwnOk f 0 := by
 simp only [zH, zI, or_false] at htt
 have h : ((gText 4096).bind fun x1 => (gBool).bind fun x2 => Rg.ret ({ { zF t with p := bs x1 } with wa := x2 } : OpF)) l p = .inl (f, q) := by
  rcases htt with rfl | rfl | rfl | rfl <;> exact h
 obtain ⟨x1, q1, h1, h⟩ := bind_inl h
 have a1 := text_fo h1
 obtain ⟨x2, q2, h2, h⟩ := bind_inl h
 have h : (Sum.inl (_, _) : (OpF × Nat) ⊕ (Int × Nat)) = .inl (f, q) := h
 simp only [Sum.inl.injEq, Prod.mk.injEq] at h
 obtain ⟨rfl, rfl⟩ := h
 refine ⟨by rcases htt with rfl | rfl | rfl | rfl <;> exact (a1.1).app (bool_bk' h2), rfl, ⟨by dsimp only [zF]; rcases htt with rfl | rfl | rfl | rfl <;> decide, (by have := a1.2.1; dsimp only; omega), Nat.zero_le _, Nat.zero_le _, Nat.zero_le _, ?_, ?_, fun _ => Nat.zero_le _, ?_, a1.2.2, by rcases htt with rfl | rfl | rfl | rfl <;> rfl, fun _ => rfl⟩⟩
 · intro K hK
   simp only [OpF.lists, zF, zH, zI, or_false, or_self] at hK
   subst hK
   exact Nat.zero_le _
 · intro s hs
   simp [OpF.texts, zF] at hs
 · intro x hx
   simp [OpF.ids, zF] at hx
theorem forth_g8 {t : Int} (htt : t ∈ ([106, 18] : List Int)) {l : List UInt8} {p q : Nat} {f : OpF} (h : gFld t l p = .inl (f, q)) (hp : p ≤ l.length) : Bk l p q (fldB f) ∧ f.t = t ∧ OwnOk f 0 := by
 simp only [zH, zI, or_false] at htt
 have h : ((gText 4096).bind fun x1 => (gInt).bind fun x2 => Rg.ret ({ { zF t with p := bs x1 } with fl := x2 } : OpF)) l p = .inl (f, q) := by
  rcases htt with rfl | rfl <;> exact h
 obtain ⟨x1, q1, h1, h⟩ := bind_inl h
 have a1 := text_fo h1
 obtain ⟨x2, q2, h2, h⟩ := bind_inl h
 have h : (Sum.inl (_, _) : (OpF × Nat) ⊕ (Int × Nat)) = .inl (f, q) := h
 simp only [Sum.inl.injEq, Prod.mk.injEq] at h
 obtain ⟨rfl, rfl⟩ := h
 refine ⟨by rcases htt with rfl | rfl <;> exact (a1.1).app (int_bk h2), rfl, ⟨by dsimp only [zF]; rcases htt with rfl | rfl <;> decide, (by have := a1.2.1; dsimp only; omega), Nat.zero_le _, Nat.zero_le _, Nat.zero_le _, ?_, ?_, fun _ => Nat.zero_le _, ?_, a1.2.2, by rcases htt with rfl | rfl <;> rfl, fun _ => rfl⟩⟩
 · intro K hK
   simp only [OpF.lists, zF, zH, zI, or_false, or_self] at hK
   subst hK
   exact Nat.zero_le _
 · intro s hs
   simp [OpF.texts, zF] at hs
 · intro x hx
   simp [OpF.ids, zF] at hx
theorem forth_g9 {t : Int} (htt : t ∈ ([(-10)] : List Int)) {l : List UInt8} {p q : Nat} {f : OpF} (h : gFld t l p = .inl (f, q)) (hp : p ≤ l.length) : Bk l p q (fldB f) ∧ f.t = t ∧ OwnOk f 0 := by
 simp only [zH, zI, or_false] at htt
 have h : ((gInt).bind fun x1 => (gGet 16 8 gIdO).bind fun x2 => Rg.ret ({ (⟨(zF t).t, (zF t).p, (zF t).l, (zF t).L, (zF t).fl, (zF t).ve, (zF t).wa, (zF t).ct, (zF t).by_, (zF t).tl, (zF t).zx, (zF t).K0, (zF t).K1, (zF t).K2, (zF t).K3, (zF t).K4, x1, (zF t).I⟩ : OpF) with I := x2 } : OpF)) l p = .inl (f, q) := by
  rcases htt with rfl <;> exact h
 obtain ⟨x1, q1, h1, h⟩ := bind_inl h
 obtain ⟨x2, q2, h2, h⟩ := bind_inl h
 have a2 := ids_fo h2
 have h : (Sum.inl (_, _) : (OpF × Nat) ⊕ (Int × Nat)) = .inl (f, q) := h
 simp only [Sum.inl.injEq, Prod.mk.injEq] at h
 obtain ⟨rfl, rfl⟩ := h
 refine ⟨by rcases htt with rfl <;> exact ((int_bk h1)).app a2.1, rfl, ⟨by dsimp only [zF]; rcases htt with rfl <;> decide, Nat.zero_le _, Nat.zero_le _, Nat.zero_le _, a2.2.1, ?_, ?_, fun _ => Nat.zero_le _, ?_, empty_valid, by rcases htt with rfl <;> rfl, fun _ => rfl⟩⟩
 · intro K hK
   simp only [OpF.lists, zF, zH, zI, or_false, or_self] at hK
   subst hK
   exact Nat.zero_le _
 · intro s hs
   simp [OpF.texts, zF] at hs
 · intro x hx
   simp only [OpF.ids, zF, List.map_nil, List.append_nil] at hx
   exact a2.2.2 x hx
theorem forth_g10 {t : Int} (htt : t ∈ ([(-11), 11, 107] : List Int)) {l : List UInt8} {p q : Nat} {f : OpF} (h : gFld t l p = .inl (f, q)) (hp : p ≤ l.length) : Bk l p q (fldB f) ∧ f.t = t ∧ OwnOk f 0 := by
 simp only [zH, zI, or_false] at htt
 have h : (Rg.ret (zF t : OpF)) l p = .inl (f, q) := by
  rcases htt with rfl | rfl | rfl <;> exact h
 have h : (Sum.inl (_, _) : (OpF × Nat) ⊕ (Int × Nat)) = .inl (f, q) := h
 simp only [Sum.inl.injEq, Prod.mk.injEq] at h
 obtain ⟨rfl, rfl⟩ := h
 refine ⟨by rcases htt with rfl | rfl | rfl <;> exact Bk.nil l p hp, rfl, ⟨by dsimp only [zF]; rcases htt with rfl | rfl | rfl <;> decide, Nat.zero_le _, Nat.zero_le _, Nat.zero_le _, Nat.zero_le _, ?_, ?_, fun _ => Nat.zero_le _, ?_, empty_valid, by rcases htt with rfl | rfl | rfl <;> rfl, fun _ => rfl⟩⟩
 · intro K hK
   simp only [OpF.lists, zF, zH, zI, or_false, or_self] at hK
   subst hK
   exact Nat.zero_le _
 · intro s hs
   simp [OpF.texts, zF] at hs
 · intro x hx
   simp [OpF.ids, zF] at hx
theorem wat_forth {l : List UInt8} {p q : Nat} {f : OpF} (h : gWat l p = .inl (f, q)) : Bk l p q (fldB f) ∧ f.t = 101 ∧ OwnOk f 0 := by
 obtain ⟨z, q0, h0, h⟩ := bind_inl h
 obtain ⟨x0, q1, h1, h⟩ := bind_inl h
 obtain ⟨x1, q2, h2, h⟩ := bind_inl h
 obtain ⟨x2, q3, h3, h⟩ := bind_inl h
 obtain ⟨x3, q4, h4, h⟩ := bind_inl h
 obtain ⟨x4, q5, h5, h⟩ := bind_inl h
 have h : (Sum.inl (_, _) : (OpF × Nat) ⊕ (Int × Nat)) = .inl (f, q) := h
 simp only [Sum.inl.injEq, Prod.mk.injEq] at h
 obtain ⟨rfl, rfl⟩ := h
 obtain ⟨a1, b1, c1⟩ := texts_fo h1
 obtain ⟨a2, b2, c2⟩ := texts_fo h2
 obtain ⟨a3, b3, c3⟩ := texts_fo h3
 obtain ⟨a4, b4, c4⟩ := texts_fo h4
 obtain ⟨a5, b5, c5⟩ := texts_fo h5
 refine ⟨?_, rfl, ⟨by dsimp only [zF]; decide, Nat.zero_le _, Nat.zero_le _, Nat.zero_le _, Nat.zero_le _, ?_, ?_, fun _ => Nat.zero_le _, ?_, empty_valid, rfl, fun _ => rfl⟩⟩
 · have hb := (long_bk h0).app (a1.app (a2.app (a3.app (a4.app a5))))
   refine cast (congrArg (Bk l p q5) ?_) hb
   show _ = bLong z ++ pListsB _
   unfold pListsB OpF.lists
   simp only [List.flatMap_cons, List.flatMap_nil, List.append_nil]
 · intro K hK
   simp only [OpF.lists, zH, zI, or_false] at hK
   rcases hK with rfl | rfl | rfl | rfl | rfl
   · exact b1
   · exact b2
   · exact b3
   · exact b4
   · exact b5
 · intro s hs
   simp only [OpF.texts, List.mem_append] at hs
   rcases hs with hs | hs | hs | hs | hs
   · exact c1 s hs
   · exact c2 s hs
   · exact c3 s hs
   · exact c4 s hs
   · exact c5 s hs
 · intro x hx
   simp [OpF.ids, zF] at hx
theorem fld_forth {t : Int} {l : List UInt8} {p q : Nat} {f : OpF} (h : gFld t l p = .inl (f, q)) (hp : p ≤ l.length) (h0 : kindN t ≠ 0) (h5 : kindN t ≠ 5) (h14 : t ≠ 14) (h22 : t ≠ 22) (h101 : t ≠ 101) : Bk l p q (fldB f) ∧ f.t = t ∧ OwnOk f 0 := by
 have htt := kind_types h0
 simp only [ownTypes, zH, zI, or_false] at htt
 rcases htt with rfl | rfl | rfl | rfl | rfl | rfl | rfl | rfl | rfl | rfl | rfl | rfl | rfl | rfl | rfl | rfl | rfl | rfl | rfl | rfl | rfl | rfl | rfl | rfl | rfl | rfl | rfl | rfl
 · exact forth_g0 (by decide) h hp
 · exact forth_g0 (by decide) h hp
 · exact forth_g0 (by decide) h hp
 · exact forth_g1 (by decide) h hp
 · exact forth_g2 (by decide) h hp
 · exact forth_g2 (by decide) h hp
 · exact forth_g3 (by decide) h hp
 · exact forth_g4 (by decide) h hp
 · exact forth_g5 (by decide) h hp
 · exact forth_g6 (by decide) h hp
 · exact absurd rfl h14
 · exact forth_g9 (by decide) h hp
 · exact forth_g10 (by decide) h hp
 · exact absurd (by decide) h5
 · exact forth_g7 (by decide) h hp
 · exact forth_g7 (by decide) h hp
 · exact forth_g7 (by decide) h hp
 · exact forth_g7 (by decide) h hp
 · exact forth_g6 (by decide) h hp
 · exact forth_g6 (by decide) h hp
 · exact forth_g6 (by decide) h hp
 · exact forth_g6 (by decide) h hp
 · exact forth_g8 (by decide) h hp
 · exact forth_g10 (by decide) h hp
 · exact forth_g8 (by decide) h hp
 · exact absurd rfl h22
 · exact absurd rfl h101
 · exact forth_g10 (by decide) h hp

mutual
def OpC.good : OpC → Prop
 | .mk f S => f.Ok ∧ goodL S
def goodL : List OpC → Prop
 | [] => True
 | x :: r => x.good ∧ goodL r
end
theorem goodL_of : ∀ {S : List OpC}, (∀ x ∈ S, x.good) → goodL S
 | [], _ => by rw [goodL]; trivial
 | x :: r, h => by rw [goodL]; exact ⟨h x (by simp), goodL_of fun y hy => h y (by simp [hy])⟩
theorem At.good {w : World} {lo : Option Nat} {x : OpC} {cs : List Value} (h : At w lo x cs) : x.good := by
 induction h with
 | mk f d a k0 k1 k2 k3 k4 i s Q ok hd ha hk0 hk1 hk2 hk3 hk4 hi hs _ ih =>
   rw [OpC.good]
   refine ⟨ok, goodL_of fun x hx => ?_⟩
   obtain ⟨q, hq, rfl⟩ := List.mem_map.1 hx
   exact ih q hq
theorem kind_14 {t : Int} : kindN t = 2 ↔ t = 14 := by
 constructor
 · intro h
   have htt := kind_types (by rw [h]; decide)
   simp only [ownTypes, zH, zI, or_false] at htt
   rcases htt with rfl | rfl | rfl | rfl | rfl | rfl | rfl | rfl | rfl | rfl | rfl | rfl | rfl | rfl | rfl | rfl | rfl | rfl | rfl | rfl | rfl | rfl | rfl | rfl | rfl | rfl | rfl | rfl <;> first | rfl | exact absurd h (by decide)
 · rintro rfl
   decide
theorem may_kind {t i : Int} (h : mayN t i = true) : kindN t ≠ 0 ∧ kindN t ≠ 5 ∧ t ≠ -1 := by
 unfold mayN at h
 have hm : kindN t ≠ 0 → t ≠ -1 := fun h e => h (by rw [e]; decide)
 split at h
 · simp only [Bool.or_eq_true, beq_iff_eq] at h
   rcases h with (((rfl | rfl) | rfl) | rfl) | rfl <;> decide
 · simp only [Bool.or_eq_true, beq_iff_eq] at h
   rcases h with h | h <;> exact ⟨by rw [h]; decide, by rw [h]; decide, hm (by rw [h]; decide)⟩
theorem may_22 {t : Int} (h : mayN t 22 = true) : t ≠ 14 := by
 rintro rfl
 exact absurd h (by decide)
theorem more_parts {k : Cnt} {t : Int} (h : t ≠ 14) : k.more t = ⟨k.parts + 1, k.multis, k.depth⟩ := by
 unfold Cnt.more
 rw [if_neg (fun e => h (kind_14.1 e))]
theorem more_multis {k : Cnt} : k.more 14 = ⟨k.parts, k.multis + 1, k.depth⟩ := by
 unfold Cnt.more
 rw [if_pos (by decide)]
def OpC.after (x : OpC) (k : Cnt) : Cnt := if x.f.t = 14 then ⟨k.parts + partsL x.S, k.multis + multisL x.S, k.depth⟩ else k
theorem after_more (x : OpC) (k : Cnt) : x.after (k.more x.f.t) = ⟨k.parts + x.parts, k.multis + x.multis, k.depth⟩ := by
 obtain ⟨f, S⟩ := x
 rw [OpC.parts, OpC.multis]
 unfold OpC.after OpC.f OpC.S
 dsimp only
 by_cases h : f.t = 14
 · rw [if_pos h, if_pos h, if_pos h, h, more_multis, Cnt.mk.injEq]
   exact ⟨rfl, by dsimp only; omega, rfl⟩
 · rw [if_neg h, if_neg h, if_neg h, more_parts h]
   rfl
theorem hdr_item {N : Nat} {i t : Int} {k : Cnt} {l : List UInt8} {p : Nat} (hm : mayN t i = true) (hw : (Lit.int .i32 t).wf = true) (ha : Atb l p (hdrB t false)) (hb : (k.more t).big t = false) : gSubs (N + 1) i k l p = itemOf (gSubs N) i t k l (p + 9) := by
 unfold hdrB at ha
 have ht := (may_kind hm).2.2
 have h1 := wb_int hw l p ha.left.left
 have h2 := wb_bool false l _ ha.left.right
 have h3 := wb_int (z := -1) (by decide) l _ ha.right
 have e : p + (bInt t ++ bBool false).length = p + (bInt t).length + (bBool false).length := by rw [zG, Nat.add_assoc]
 rw [e] at h3
 have e9 : p + (bInt t).length + (bBool false).length + (bInt (-1)).length = p + 9 := by rw [bInt_len, bInt_len]; simp [bBool]
 rw [e9] at h3
 show (gInt.bind fun t => if (t != -1 && !mayN t i) = true then gFailR 110 else gBool.bind fun e => if (e != (t == -1)) = true then gFailR 22 else gInt.bind fun z => if (z != -1) = true then gFailR 22
  else if e = true then Rg.ret ([], k) else if (k.more t).big t = true then gFailR 3 else itemOf (gSubs N) i t k) l p = _
 rw [gb_ev h1, if_neg (by rw [hm]; simp), gb_ev h2, if_neg (by simpa using ht), gb_ev h3, if_neg (by decide), if_neg (by decide), hb, if_neg (by decide)]
theorem hdr_end {N : Nat} {i : Int} {k : Cnt} {l : List UInt8} {p : Nat} (ha : Atb l p (hdrB (-1) true)) : gSubs (N + 1) i k l p = .inl (([], k), p + 9) := by
 unfold hdrB at ha
 have h1 := wb_int (z := -1) (by decide) l p ha.left.left
 have h2 := wb_bool true l _ ha.left.right
 have h3 := wb_int (z := -1) (by decide) l _ ha.right
 have e : p + (bInt (-1) ++ bBool true).length = p + (bInt (-1)).length + (bBool true).length := by rw [zG, Nat.add_assoc]
 rw [e] at h3
 have e9 : p + (bInt (-1)).length + (bBool true).length + (bInt (-1)).length = p + 9 := by rw [bInt_len]; simp [bBool]
 rw [e9] at h3
 show (gInt.bind fun t => if (t != -1 && !mayN t i) = true then gFailR 110 else gBool.bind fun e => if (e != (t == -1)) = true then gFailR 22 else gInt.bind fun z => if (z != -1) = true then gFailR 22
  else if e = true then Rg.ret ([], k) else if (k.more t).big t = true then gFailR 3 else itemOf (gSubs N) i t k) l p = _
 rw [gb_ev h1, if_neg (by simp), gb_ev h2, if_neg (by decide), gb_ev h3, if_neg (by decide), if_pos rfl]
 rfl
theorem all_parts {f : OpF} {S : List OpC} (h : (OpC.mk f S).allE = 0) : OwnOk f S.length ∧ allL f.t S = 0 := by
 rw [OpC.allE] at h
 split at h
 · exact absurd h ‹_›
 · exact ⟨own_ok.1 (by simpa using ‹¬ ownE f S.length ≠ 0›), h⟩
theorem allL_cons {i : Int} {x : OpC} {r : List OpC} (h : allL i (x :: r) = 0) : mayN x.f.t i = true ∧ x.allE = 0 ∧ allL i r = 0 := by
 rw [allL] at h
 split at h
 · cases h
 rename_i h1
 split at h
 · exact absurd h ‹_›
 rename_i h2
 exact ⟨by simpa using h1, by simpa using h2, h⟩
theorem many_counts : ∀ {S : List OpC}, allL 22 S = 0 → partsL S = S.length ∧ multisL S = 0 ∧ depthL S = 0
 | [], _ => by rw [partsL, multisL, depthL]; exact ⟨rfl, rfl, rfl⟩
 | .mk f T :: r, h => by
   obtain ⟨h1, _, h3⟩ := allL_cons h
   obtain ⟨a, b, c⟩ := many_counts h3
   have ht : f.t ≠ 14 := may_22 h1
   rw [partsL, multisL, depthL, OpC.parts, OpC.multis, OpC.depth, if_neg ht, if_neg ht, if_neg ht, a, b, c, zM]
   omega
theorem big_not {x : OpC} {k : Cnt} (h1 : k.parts + x.parts ≤ 1024) (h2 : k.multis + x.multis ≤ 1024) (h3 : k.depth + x.depth ≤ 8) : (k.more x.f.t).big x.f.t = false := by
 obtain ⟨f, S⟩ := x
 rw [OpC.parts] at h1
 rw [OpC.multis] at h2
 rw [OpC.depth] at h3
 show (k.more f.t).big f.t = false
 by_cases ht : f.t = 14
 · rw [if_pos ht] at h1 h2 h3
   rw [ht, more_multis]
   unfold Cnt.big
   simp only [Bool.or_eq_false_iff, decide_eq_false_iff_not, Bool.and_eq_false_iff, beq_eq_false_iff_ne]
   exact ⟨⟨by omega, by omega⟩, .inr (by omega)⟩
 · rw [if_neg ht] at h1 h2 h3
   rw [more_parts ht]
   unfold Cnt.big
   simp only [Bool.or_eq_false_iff, decide_eq_false_iff_not, Bool.and_eq_false_iff, beq_eq_false_iff_ne]
   exact ⟨⟨by omega, by omega⟩, .inl (fun e => ht (kind_14.1 e))⟩
mutual
theorem op_back : ∀ (x : OpC) (N : Nat) (k : Cnt) (l : List UInt8) (p : Nat), x.allE = 0 → x.good → kindN x.f.t ≠ 5 → (x.f.t = 14 → k.parts + partsL x.S ≤ 1024 ∧ k.multis + multisL x.S ≤ 1024 ∧ k.depth + 1 + depthL x.S ≤ 8) → Atb l p x.putB → l.length - p < N →
 opWith (gSubs N) x.f.t k l p = .inl ((x, x.after k), p + x.putB.length)
 | .mk f S, N, k, l, p, ha, hg, h5, h14, hb, hN => by
   obtain ⟨hf, hS⟩ := all_parts ha
   rw [OpC.good] at hg
   rw [OpC.putB] at hb ⊢
   unfold OpC.after OpC.f OpC.S at *
   dsimp only at *
   unfold opWith
   rw [if_neg (fun e => e.elim hf.kind h5)]
   have hz : keptF f = f := hf.kept
   by_cases ht : f.t = 14
   · rw [if_pos ht, if_pos ht]
     rw [if_pos (.inl ht)] at hb ⊢
     obtain ⟨c1, c2, c3⟩ := h14 ht
     rw [ht] at hS
     have hs := subs_back S 14 N ⟨k.parts, k.multis, k.depth + 1⟩ l p hS hg.2 c1 c2 c3 hb hN
     have hf14 : f = zF 14 := by
      rw [← hz]
      obtain ⟨t, p, l, L, fl, ve, wa, ct, by_, tl, zx, K0, K1, K2, K3, K4, to_, I⟩ := f
      dsimp only at ht
      subst ht
      rfl
     unfold Rg.map
     rw [hs, ← hf14]
     rfl
   · rw [if_neg ht, if_neg ht]
     by_cases ht2 : f.t = 22
     · rw [if_pos ht2]
       rw [if_pos (.inr ht2)] at hb ⊢
       rw [ht2] at hS
       obtain ⟨c1, c2, c3⟩ := many_counts hS
       have c4 := hf.many ht2
       have hs := subs_back S 22 N ⟨0, 0, 0⟩ l p hS hg.2 (by rw [c1]; dsimp only; omega) (by rw [c2]; exact Nat.zero_le _) (by rw [c3]; exact Nat.zero_le _) hb hN
       have hf22 : f = zF 22 := by
        rw [← hz]
        obtain ⟨t, p, l, L, fl, ve, wa, ct, by_, tl, zx, K0, K1, K2, K3, K4, to_, I⟩ := f
        dsimp only at ht2
        subst ht2
        rfl
       unfold Rg.map
       rw [hs, ← hf22]
     · have hS0 : S = [] := List.eq_nil_of_length_eq_zero (hf.none (by simp only [tS, zH, zI, or_false]; exact fun e => e.elim ht ht2))
       subst hS0
       rw [if_neg ht2]
       rw [if_neg (show ¬ (f.t = 14 ∨ f.t = 22) from fun e => e.elim ht ht2)] at hb ⊢
       by_cases ht3 : f.t = 101
       · rw [if_pos ht3]
         unfold Rg.map
         rw [wat_back hf hg.1 ht3 l p hb]
       · rw [if_neg ht3]
         unfold Rg.map
         rw [fld_back hf hg.1 ht ht2 ht3 h5 l p hb]
theorem subs_back : ∀ (S : List OpC) (i : Int) (N : Nat) (k : Cnt) (l : List UInt8) (p : Nat), allL i S = 0 → goodL S → k.parts + partsL S ≤ 1024 → k.multis + multisL S ≤ 1024 → k.depth + depthL S ≤ 8 → Atb l p (subsB S ++ hdrB (-1) true) → l.length - p < N →
 gSubs N i k l p = .inl ((S, ⟨k.parts + partsL S, k.multis + multisL S, k.depth⟩), p + (subsB S ++ hdrB (-1) true).length)
 | [], i, N, k, l, p, _, _, _, _, _, hb, hN => by
   obtain ⟨N, rfl⟩ : ∃ M, N = M + 1 := ⟨N - 1, by omega⟩
   rw [subsB, List.nil_append] at hb ⊢
   rw [hdr_end hb, partsL, multisL, hdrB_len]
   rfl
 | x :: r, i, N, k, l, p, ha, hg, h1, h2, h3, hb, hN => by
   obtain ⟨N, rfl⟩ : ∃ M, N = M + 1 := ⟨N - 1, by omega⟩
   obtain ⟨a1, a2, a3⟩ := allL_cons ha
   rw [goodL] at hg
   rw [partsL] at h1 ⊢
   rw [multisL] at h2 ⊢
   rw [depthL] at h3
   rw [subsB] at hb ⊢
   rw [zL, zL] at hb
   have hl := hb.left
   have hr := hb.right
   rw [hdrB_len] at hr
   have hpl := hb.1
   rw [zG, hdrB_len] at hpl
   have hwf : (Lit.int .i32 x.f.t).wf = true := by
    obtain ⟨f, S⟩ := x
    have := hg.1
    rw [OpC.good] at this
    exact this.1.t
   have hx14 : x.f.t = 14 → partsL x.S = x.parts ∧ multisL x.S + 1 = x.multis ∧ depthL x.S + 1 = x.depth := by
    obtain ⟨f, S⟩ := x
    intro ht
    have ht : f.t = 14 := ht
    rw [OpC.parts, OpC.multis, OpC.depth, if_pos ht, if_pos ht, if_pos ht]
    exact ⟨rfl, Nat.add_comm _ _, rfl⟩
   rw [hdr_item a1 hwf hl (big_not (by omega) (by omega) (by omega))]
   have hx := op_back x N (k.more x.f.t) l (p + 9) a2 hg.1 (may_kind a1).2.1 (fun ht => by
    obtain ⟨e1, e2, e3⟩ := hx14 ht
    rw [ht, more_multis]
    dsimp only
    omega) hr.left (by omega)
   rw [after_more] at hx
   have hs := subs_back r i N ⟨k.parts + x.parts, k.multis + x.multis, k.depth⟩ l (p + 9 + x.putB.length) a3 hg.2 (by dsimp only; omega) (by dsimp only; omega) (by dsimp only; omega) hr.right (by omega)
   unfold itemOf
   rw [gb_ev hx]
   unfold Rg.map
   dsimp only at hs ⊢
   rw [hs]
   simp only [zG, hdrB_len, Sum.inl.injEq, Prod.mk.injEq, Cnt.mk.injEq, true_and, and_true]
   omega
end
theorem more_ok {k : Cnt} {t : Int} (hk : k.Ok) (h : (k.more t).big t = false) : (k.more t).Ok ∧ (k.more t).depth = k.depth ∧ (t = 14 → k.depth < 8) := by
 unfold Cnt.big at h
 simp only [Bool.or_eq_false_iff, decide_eq_false_iff_not, Bool.and_eq_false_iff, beq_eq_false_iff_ne] at h
 obtain ⟨⟨h1, h2⟩, h3⟩ := h
 have hd := hk.depth
 by_cases ht : t = 14
 · subst ht
   rw [more_multis] at h1 h2 h3 ⊢
   dsimp only at h1 h2 h3 ⊢
   rcases h3 with h3 | h3
   · exact absurd (by decide) h3
   · exact ⟨⟨by dsimp only; omega, by dsimp only; omega, hd⟩, rfl, fun _ => by omega⟩
 · rw [more_parts ht] at h1 h2 ⊢
   dsimp only at h1 h2 ⊢
   exact ⟨⟨by dsimp only; omega, by dsimp only; omega, hd⟩, rfl, fun h => absurd h ht⟩
def SubsFo (N : Nat) : Prop := ∀ (i : Int) (k : Cnt) (l : List UInt8) (p : Nat) (S : List OpC) (k' : Cnt) (q : Nat), gSubs N i k l p = .inl ((S, k'), q) → p ≤ l.length → k.Ok →
 Bk l p q (subsB S ++ hdrB (-1) true) ∧ allL i S = 0 ∧ k' = ⟨k.parts + partsL S, k.multis + multisL S, k.depth⟩ ∧ k'.Ok ∧ k.depth + depthL S ≤ 8
theorem op_forth {N : Nat} (HS : SubsFo N) {t : Int} {k : Cnt} {l : List UInt8} {p : Nat} {x : OpC} {k' : Cnt} {q : Nat} (h : opWith (gSubs N) t k l p = .inl ((x, k'), q)) (hp : p ≤ l.length) (hk : k.Ok) (h14 : t = 14 → k.depth < 8) :
 Bk l p q x.putB ∧ x.f.t = t ∧ x.allE = 0 ∧ k' = x.after k ∧ k'.Ok ∧ k.depth + x.depth ≤ 8 ∧ kindN t ≠ 5 := by
 unfold opWith at h
 split at h
 · cases h
 rename_i hkd
 have h0 : kindN t ≠ 0 := fun e => hkd (.inl e)
 have h5 : kindN t ≠ 5 := fun e => hkd (.inr e)
 have hd8 := hk.depth
 split at h
 · rename_i ht
   subst ht
   obtain ⟨⟨S, k1⟩, hs, he⟩ := map_inl h
   simp only [Prod.mk.injEq] at he
   obtain ⟨rfl, rfl⟩ := he
   obtain ⟨b1, b2, b3, b4, b5⟩ := HS 14 _ l p S k1 q hs hp ⟨hk.parts, hk.multis, h14 rfl⟩
   dsimp only at b3 b5
   subst b3
   refine ⟨?_, rfl, ?_, ?_, ⟨b4.parts, b4.multis, hd8⟩, ?_, by decide⟩
   · rw [OpC.putB, if_pos (show (zF 14).t = 14 ∨ (zF 14).t = 22 from .inl rfl)]
     exact b1
   · rw [OpC.allE, own_ok.2 (⟨by decide, Nat.zero_le _, Nat.zero_le _, Nat.zero_le _, Nat.zero_le _, fun K hK => by
      simp only [OpF.lists, zF, zH, zI, or_false, or_self] at hK
      subst hK
      exact Nat.zero_le _, fun s hs => by simp [OpF.texts, zF] at hs, fun h => absurd h (by decide), fun x hx => by simp [OpF.ids, zF] at hx, empty_valid, rfl, fun h => absurd (by decide) h⟩ : OwnOk (zF 14) S.length), if_neg (by simp)]
     exact b2
   · show _ = if (14 : Int) = 14 then (⟨k.parts + partsL S, k.multis + multisL S, k.depth⟩ : Cnt) else k
     rw [if_pos rfl]
     rfl
   · rw [OpC.depth, if_pos (show (zF 14).t = 14 from rfl)]
     omega
 rename_i ht14
 split at h
 · rename_i ht
   subst ht
   obtain ⟨⟨S, k1⟩, hs, he⟩ := map_inl h
   simp only [Prod.mk.injEq] at he
   obtain ⟨rfl, rfl⟩ := he
   obtain ⟨b1, b2, b3, b4, b5⟩ := HS 22 _ l p S k1 q hs hp ⟨Nat.zero_le _, Nat.zero_le _, Nat.zero_le _⟩
   dsimp only at b3 b5
   have hlen : S.length ≤ 1024 := by
    have := b4.parts
    rw [b3] at this
    have hm := (many_counts b2).1
    dsimp only at this
    omega
   refine ⟨?_, rfl, ?_, ?_, hk, ?_, by decide⟩
   · rw [OpC.putB, if_pos (show (zF 22).t = 14 ∨ (zF 22).t = 22 from .inr rfl)]
     exact b1
   · rw [OpC.allE, own_ok.2 (⟨by decide, Nat.zero_le _, Nat.zero_le _, Nat.zero_le _, Nat.zero_le _, fun K hK => by
      simp only [OpF.lists, zF, zH, zI, or_false, or_self] at hK
      subst hK
      exact Nat.zero_le _, fun s hs => by simp [OpF.texts, zF] at hs, fun _ => hlen, fun x hx => by simp [OpF.ids, zF] at hx, empty_valid, rfl, fun h => absurd (by decide) h⟩ : OwnOk (zF 22) S.length), if_neg (by simp)]
     exact b2
   · show _ = if (22 : Int) = 14 then (⟨k.parts + partsL S, k.multis + multisL S, k.depth⟩ : Cnt) else k
     rw [if_neg (by decide)]
   · rw [OpC.depth, if_neg (show ¬ (zF 22).t = 14 by decide)]
     exact hd8
 rename_i ht22
 have leaf : ∀ (f : OpF), Bk l p q (fldB f) → f.t = t → OwnOk f 0 → x = .mk f [] → k' = k → Bk l p q x.putB ∧ x.f.t = t ∧ x.allE = 0 ∧ k' = x.after k ∧ k'.Ok ∧ k.depth + x.depth ≤ 8 ∧ kindN t ≠ 5 := by
  rintro f a1 a2 a3 rfl rfl
  refine ⟨?_, a2, ?_, ?_, hk, ?_, h5⟩
  · rw [OpC.putB, a2, if_neg (fun e => e.elim ht14 ht22)]
    exact a1
  · rw [OpC.allE, show ([] : List OpC).length = 0 from rfl, own_ok.2 a3, if_neg (by simp), allL]
  · unfold OpC.after
    rw [show (OpC.mk f []).f.t = t from a2, if_neg ht14]
  · rw [OpC.depth, a2, if_neg ht14]
    exact hd8
 split at h
 · obtain ⟨f, hf, he⟩ := map_inl h
   simp only [Prod.mk.injEq] at he
   obtain ⟨a1, a2, a3⟩ := wat_forth hf
   exact leaf f a1 (by rw [a2]; exact (by assumption : t = 101).symm) a3 he.1.symm he.2.symm
 · rename_i ht101
   obtain ⟨f, hf, he⟩ := map_inl h
   simp only [Prod.mk.injEq] at he
   obtain ⟨a1, a2, a3⟩ := fld_forth hf hp h0 h5 ht14 ht22 ht101
   exact leaf f a1 a2 a3 he.1.symm he.2.symm
theorem subs_forth : ∀ N, SubsFo N
 | 0 => fun i k l p S k' q h => by cases h
 | N + 1 => fun i k l p S k' q h hp hk => by
   have HS := subs_forth N
   have h : (gInt.bind fun t => if (t != -1 && !mayN t i) = true then gFailR 110 else gBool.bind fun e => if (e != (t == -1)) = true then gFailR 22 else gInt.bind fun z => if (z != -1) = true then gFailR 22
    else if e = true then Rg.ret ([], k) else if (k.more t).big t = true then gFailR 3 else itemOf (gSubs N) i t k) l p = .inl ((S, k'), q) := h
   obtain ⟨t, q1, h1, ha⟩ := bind_inl h
   clear h
   by_cases hm : (t != -1 && !mayN t i) = true
   · rw [if_pos hm] at ha; cases ha
   rw [if_neg hm] at ha
   obtain ⟨e, q2, h2, hb0⟩ := bind_inl ha
   clear ha
   by_cases he : (e != (t == -1)) = true
   · rw [if_pos he] at hb0; cases hb0
   rw [if_neg he] at hb0
   obtain ⟨z, q3, h3, h⟩ := bind_inl hb0
   clear hb0
   by_cases hz : (z != -1) = true
   · rw [if_pos hz] at h; cases h
   rw [if_neg hz] at h
   have hz : z = -1 := by simpa using hz
   subst hz
   have b1 := int_bk h1
   have b2 := bool_bk' h2
   have b3 := int_bk h3
   have hb : Bk l p q3 (hdrB t e) := (b1.app b2).app b3
   have hd8 := hk.depth
   have he : e = (t == -1) := by simpa using he
   by_cases het : e = true
   · rw [if_pos het] at h
     subst het
     have ht : t = -1 := by simpa using he.symm
     subst ht
     simp only [Rg.ret, Sum.inl.injEq, Prod.mk.injEq] at h
     obtain ⟨⟨rfl, rfl⟩, rfl⟩ := h
     rw [subsB, List.nil_append, allL, partsL, multisL, depthL]
     exact ⟨hb, rfl, rfl, hk, hd8⟩
   rw [if_neg het] at h
   have hef : e = false := by simpa using het
   subst hef
   have ht : t ≠ -1 := by simpa using he.symm
   have hm : mayN t i = true := by simpa [ht] using hm
   by_cases hbig : (k.more t).big t = true
   · rw [if_pos hbig] at h; cases h
   rw [if_neg hbig] at h
   have hbig : (k.more t).big t = false := by simpa using hbig
   obtain ⟨m1, m2, m3⟩ := more_ok hk hbig
   unfold itemOf at h
   obtain ⟨⟨x, k1⟩, q4, h4, hc⟩ := bind_inl h
   obtain ⟨⟨r, k2⟩, h5, he2⟩ := map_inl hc
   clear h hc
   simp only [Prod.mk.injEq] at he2
   obtain ⟨rfl, rfl⟩ := he2
   obtain ⟨c1, c2, c3, c4, c5, c6, _⟩ := op_forth HS h4 hb.2.2 m1 (fun h => by rw [m2]; exact m3 h)
   obtain ⟨d1, d2, d3, d4, d5⟩ := HS i k1 l q4 r k2 q h5 c1.2.2 c5
   subst c2
   rw [after_more] at c4
   subst c4
   dsimp only at d3 d5
   rw [m2] at c6
   refine ⟨?_, ?_, ?_, d4, ?_⟩
   · rw [subsB]
     have := (hb.app c1).app d1
     rw [← zL] at this
     exact this
   · rw [allL, hm, if_neg (by decide), c3, if_neg (by simp)]
     exact d2
   · rw [d3, partsL, multisL, Cnt.mk.injEq]
     exact ⟨Nat.add_assoc _ _ _, Nat.add_assoc _ _ _, rfl⟩
   · rw [depthL]
     omega
end Go.Proofs.YtpjjnmdfgcfnmaaDoor
