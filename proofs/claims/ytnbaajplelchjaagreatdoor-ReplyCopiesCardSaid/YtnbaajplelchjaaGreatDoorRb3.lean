/- The law's spoil: the lists of a result of the call's own are written over, and nothing else has changed. (printed by gen_rb3.py) -/
import Derived.Test.YtnbaajplelchjaaGreatDoorRb2
import Derived.Test.YtnbaajplelchjaaGreatDoorRp1
import Derived.Test.YtnbaajplelchjaaGreatDoorDul
set_option linter.unusedVariables false
set_option linter.unusedSimpArgs false
namespace Go.Proofs.YtnbaajplelchjaaGreatDoor
open Go.RowKit

theorem At.c0 {w : World} {lo : Option Nat} {x : ResC} {cs : List Value} (h : At w lo x cs) : cs[0]? = some (.int .i32 x.f.t) := by
  cases h
  rfl
theorem r_nil {P : Program} {o : Oper} {ρ : Operand → Value} {w : World} (x : Operand) (ho : o.op = .nilCheck x) {ad : Addr} (hx : ρ x = .pointer (some ad)) : (execOp ρ o).run P w = .ok (.value (.pointer (some ad))) w := by
  unfold execOp
  simp only [ho, hx]
  rfl
theorem r_addv {P : Program} {o : Oper} {ρ : Operand → Value} {w : World} (t : TypeId) (x y : Operand) (t' : TypeId) (ho : o.op = .binOp .add t x y t') {k : IntKind} {m n z : Int} (hx : ρ x = .int k m) (hy : ρ y = .int k n) (hr : (binOp .add t (.int k m) (.int k n)).run P w = .ok (.int k z) w) : (execOp ρ o).run P w = .ok (.value (.int k z)) w := by
  unfold execOp
  simp [go_sem] at hr
  simp [ho, hx, hy, eqGuard, go_sem, hr]
theorem add1_any (c : Int) : ∃ z : Int, ∀ w, (binOp .add 5 (.int .u8 c) (.int .u8 1)).run Tryz.prog w = .ok (.int .u8 z) w := ⟨_, fun w => by simp [go_sem, Tryz.underlying5]; rfl⟩
set_option maxRecDepth 100000 in
set_option maxHeartbeats 16000000 in
theorem spoil_any {w0 : World} {lo : Option Nat} {x : ResC} {cs : List Value} (h : At w0 lo x cs) : ∀ {b : Nat}, lo = some b → b ≤ w0.heap.size → ∀ (W : World) (g off : Nat) (t : TypeId) (c1 : Array Value), SplB b w0 W → Blk W g t c1 → (∀ j v, cs[j]? = some v → ∃ v', c1[off + j]? = some v' ∧ LikeV v v') →
    Calls Tryz.prog 26 #[.pointer (some ⟨g, off, none⟩)] W fun e w' => e = .returned (.tuple #[]) ∧ SplB b W w' := by
  induction h with
  | mk f d a kk i s Q ok hd ha hk hi hs hQ ih =>
    intro b hlo hb W g off t c1 hW hblk hL
    subst hlo
    have H01 : Hid (SplB b w0 W) := hW
    have HBG : Hid (b ≤ W.heap.size) := Nat.le_trans hb hW.below.size
    have hhead : ∀ j A n c, (f.row d a kk i s)[j]? = some (.slice A n c) → ∀ wr, SplB b W wr → wr.cell? ⟨g, off + j, none⟩ = some (.slice A n c) := fun j A n c hj wr h => by
      obtain ⟨v', h1, h2⟩ := hL j _ hj
      rw [LikeV.slice h2] at h1
      exact h.head hblk h1
    have HD : Hid (∀ wr, SplB b W wr → wr.cell? ⟨g, off + 14, none⟩ = some (.slice d.A d.n d.c)) := hhead 14 _ _ _ rfl
    have HA : Hid (∀ wr, SplB b W wr → wr.cell? ⟨g, off + 15, none⟩ = some (.slice a.A a.n a.c)) := hhead 15 _ _ _ rfl
    have HK : Hid (∀ wr, SplB b W wr → wr.cell? ⟨g, off + 16, none⟩ = some (.slice kk.A kk.n kk.c)) := hhead 16 _ _ _ rfl
    have HI : Hid (∀ wr, SplB b W wr → wr.cell? ⟨g, off + 20, none⟩ = some (.slice i.A i.n i.c)) := hhead 20 _ _ _ rfl
    have HS : Hid (∀ wr, SplB b W wr → wr.cell? ⟨g, off + 21, none⟩ = some (.slice s.A s.n s.c)) := hhead 21 _ _ _ rfl
    have HSD := Lib.hid hd
    have HSA := Lib.hid ha
    have HSK := Lib.hid hk
    have HSI := Lib.hid hi
    have HSS := Lib.hid hs
    have HQ : Hid (∀ q ∈ Q, At w0 (some b) q.1 q.2) := hQ
    have HIH : Hid (∀ q ∈ Q, ∀ (W : World) (g off : Nat) (t : TypeId) (c1 : Array Value), SplB b w0 W → Blk W g t c1 → (∀ j v, q.2[j]? = some v → ∃ v', c1[off + j]? = some v' ∧ LikeV v v') → Calls Tryz.prog 26 #[.pointer (some ⟨g, off, none⟩)] W fun e w' => e = .returned (.tuple #[]) ∧ SplB b W w') := fun q hq => ih q hq rfl hb
    have bd := hd.bd (by decide)
    have ba := ha.bd (by decide)
    have bk := hk.bd (by decide)
    have bi := hi.bd (by decide)
    have bs := hs.bd (by decide)
    have d14 := HD.out W (SplB.refl _ _)
    clear ih hQ hd ha hk hi hs hW hL hb ok hhead hblk
    go_enter Tryz.func26, Tryz.ntmps26
    go_wp2
    clear d14
    -- the bytes
    go_loopw [2] (fun v2 wr => ∃ k : Nat, k ≤ d.n ∧ v2 = .int .i64 (k : Int) ∧ SplB b W wr) (fun v2 _ => d.n - (intOf v2).toNat)
    case atStart => exact ⟨0, by omega, rfl, SplB.refl _ _⟩
    case round =>
      obtain ⟨k, hkn, rfl, hwr⟩ := hrel
      have d14 := HD.out wr hwr
      have HWR := Lib.hid hwr
      by_cases hk : k < d.n
      · obtain ⟨gd, c0, hA, hbg, hblk, hcs⟩ := spl_at HSD.out (H01.out.trans hwr) (by omega)
        have hlk : k < f.l.length := by rw [HSD.out.len]; exact hk
        have hck : c0[k]? = some (.int .u8 ((f.l[k]).toNat : Int)) := hcs k _ (by rw [bcells, List.getElem?_map, List.getElem?_eq_getElem hlk]; rfl)
        obtain ⟨v', hc1, hlv⟩ := (H01.out.trans hwr).cell hblk hck
        obtain ⟨cv, rfl⟩ := hlv
        obtain ⟨zx, hzx⟩ := add1_any cv
        obtain ⟨ad, had⟩ : ∃ ad, ad = (⟨gd, 0, none⟩ : Addr) := ⟨_, rfl⟩
        have had2 : ad.add (k * 1) = ⟨gd, k, none⟩ := by rw [had, Go.WideShapes.add_plain, Nat.zero_add, Nat.mul_one]
        rw [← had] at hA
        have HAA := Lib.hid hA
        have HXO := Lib.hid hzx
        have HHD : Hid (∀ W', Below wr.heap.size wr W' → W'.cell? ⟨g, off + 14, none⟩ = some (.slice (some ad) d.n d.c)) := fun W' hW' => by
          rw [← hA]
          exact HD.out W' (hwr.trans (SplB.of_below hW' (Nat.le_trans HBG.out hwr.below.size)))
        obtain ⟨c2, hb1, _, _⟩ := (H01.out.trans hwr).cells _ _ _ hblk
        have HB1 := Lib.hid hb1
        have HCL : Hid (∀ W', Below wr.heap.size wr W' → W'.cell? (ad.add (k * 1)) = some (.int .u8 cv)) := fun W' hW' => by
          rw [had2]
          rw [hb1.cell k] at hc1
          exact ((hb1.below hW' hb1.lt).cell k).trans hc1
        have hc2 : c2[k]? = some (.int .u8 cv) := by rw [← hb1.cell k]; exact hc1
        have HC2 := Lib.hid hc2
        have HBGG := Lib.hid hbg
        have hsz1 : k < c2.size := (Array.getElem?_eq_some_iff.1 hc2).1
        have HAD2 := Lib.hid had2
        have HHAD := Lib.hid had
        have hrb : Below b wr wr := Below.refl _ _
        clear hA hblk hcs hck hc1 hzx had had2 hwr hlk d14 hc2 hb1
        have d14 := HHD.out wr (Below.refl _ _)
        go_wp2
        refine wp_region_last (w0 := wr) 14 rfl (.inl (.pointer (some ⟨g, off, none⟩)) ::
    .inl (.pointer (some ⟨g, off, none⟩)) ::
    .inl (.pointer (some ⟨g, off + 14, none⟩)) ::
    .inl (.slice (some ad) d.n d.c) ::
    .inl (.int .i64 (k : Int)) ::
    .inl (.pointer (some ⟨g, off, none⟩)) ::
    .inl (.pointer (some ⟨g, off, none⟩)) ::
    .inl (.pointer (some ⟨g, off + 14, none⟩)) ::
    .inl (.slice (some ad) d.n d.c) ::
    .inl (.int .i64 (k : Int)) ::
    .inl (.pointer (some (ad.add (k * 1)))) ::
    .inl (.int .u8 cv) ::
    .inl (.int .u8 zx) ::
    .inl (.pointer (some (ad.add (k * 1)))) :: []) rfl (by as_aux_lemma => kernel_rfl) (by as_aux_lemma => kernel_rfl) (by as_aux_lemma => kernel_rfl) (by as_aux_lemma => kernel_rfl) (by as_aux_lemma => kernel_rfl) (nomono rfl) ⟨fun ac W' hb hold hdep K hK => op_u (u := .pointer (some ⟨g, off, none⟩)) rfl (r_move _ rfl (eval_tmp ((hold 0 (free_slot (by as_aux_lemma => kernel_rfl))).trans rfl))) (hK _ _ rfl (Below.refl _ _)),
        fun ac W' hb hold hdep K hK => op_u (u := .pointer (some ⟨g, off, none⟩)) rfl (r_nil _ rfl (eval_tmp (dep_val (hdep ⟨0, .data⟩ (by simp) rfl 16 rfl)))) (hK _ _ rfl (Below.refl _ _)),
        fun ac W' hb hold hdep K hK => op_u (u := .pointer (some ⟨g, off + 14, none⟩)) rfl (r_field 33 _ 4 rfl (eval_tmp (dep_val (hdep ⟨1, .data⟩ (by simp) rfl 17 rfl))) Tryz.underlying33 rfl (n := 0) isz_25 rfl) (hK _ _ rfl (Below.refl _ _)),
        fun ac W' hb hold hdep K hK => op_u (u := .slice (some ad) d.n d.c) rfl (r_load 25 _ rfl (eval_tmp (dep_val (hdep ⟨2, .data⟩ (by simp) rfl 18 rfl))) (HHD.out W' hb) Tryz.underlying25 rfl) (hK _ _ rfl (Below.refl _ _)),
        fun ac W' hb hold hdep K hK => op_u (u := .int .i64 (k : Int)) rfl (r_move _ rfl (eval_tmp ((hold 2 (free_slot (by as_aux_lemma => kernel_rfl))).trans rfl))) (hK _ _ rfl (Below.refl _ _)),
        fun ac W' hb hold hdep K hK => op_u (u := .pointer (some ⟨g, off, none⟩)) rfl (r_move _ rfl (eval_tmp ((hold 0 (free_slot (by as_aux_lemma => kernel_rfl))).trans rfl))) (hK _ _ rfl (Below.refl _ _)),
        fun ac W' hb hold hdep K hK => op_u (u := .pointer (some ⟨g, off, none⟩)) rfl (r_nil _ rfl (eval_tmp (dep_val (hdep ⟨5, .data⟩ (by simp) rfl 21 rfl)))) (hK _ _ rfl (Below.refl _ _)),
        fun ac W' hb hold hdep K hK => op_u (u := .pointer (some ⟨g, off + 14, none⟩)) rfl (r_field 33 _ 4 rfl (eval_tmp (dep_val (hdep ⟨6, .data⟩ (by simp) rfl 22 rfl))) Tryz.underlying33 rfl (n := 0) isz_25 rfl) (hK _ _ rfl (Below.refl _ _)),
        fun ac W' hb hold hdep K hK => op_u (u := .slice (some ad) d.n d.c) rfl (r_load 25 _ rfl (eval_tmp (dep_val (hdep ⟨7, .data⟩ (by simp) rfl 23 rfl))) (HHD.out W' hb) Tryz.underlying25 rfl) (hK _ _ rfl (Below.refl _ _)),
        fun ac W' hb hold hdep K hK => op_u (u := .int .i64 (k : Int)) rfl (r_move _ rfl (eval_tmp ((hold 2 (free_slot (by as_aux_lemma => kernel_rfl))).trans rfl))) (hK _ _ rfl (Below.refl _ _)),
        fun ac W' hb hold hdep K hK => op_u (u := .pointer (some (ad.add (k * 1)))) rfl (r_index 25 _ _ rfl (eval_tmp (dep_val (hdep ⟨8, .data⟩ (by simp) rfl 24 rfl))) (eval_tmp (dep_val (hdep ⟨9, .data⟩ (by simp) rfl 25 rfl))) hk Tryz.underlying25 isz_5 rfl) (hK _ _ rfl (Below.refl _ _)),
        fun ac W' hb hold hdep K hK => op_u (u := .int .u8 cv) rfl (r_load 5 _ rfl (eval_tmp (dep_val (hdep ⟨10, .data⟩ (by simp) rfl 26 rfl))) (HCL.out W' hb) Tryz.underlying5 rfl) (hK _ _ rfl (Below.refl _ _)),
        fun ac W' hb hold hdep K hK => op_u (u := .int .u8 zx) rfl (r_addv 5 _ _ _ rfl (eval_tmp (dep_val (hdep ⟨11, .data⟩ (by simp) rfl 27 rfl))) rfl (HXO.out W')) (hK _ _ rfl (Below.refl _ _)),
        fun ac W' hb hold hdep K hK => op_u (u := .pointer (some (ad.add (k * 1)))) rfl (r_index 25 _ _ rfl (eval_tmp (dep_val (hdep ⟨3, .data⟩ (by simp) rfl 19 rfl))) (eval_tmp (dep_val (hdep ⟨4, .data⟩ (by simp) rfl 20 rfl))) hk Tryz.underlying25 isz_5 rfl) (hK _ _ rfl (Below.refl _ _)), trivial⟩ ?_
        intro w4 hb4
        simp only [Fin, List.take_succ_cons, List.take_zero, Act.put, List.setIfInBounds_toArray, List.set_cons_zero, List.set_cons_succ]
        refine stepL_store_mid rfl 5 (.tmp 29) (.tmp 28) rfl gd k (.int .u8 zx) (by rw [← HAD2.out]; rfl) rfl (HB1.out.below hb4 HB1.out.lt) (news := [.int .u8 zx]) rfl isz_5 (by simp; omega) (by simp [Value.oneCell']) ?_
        intro w5 cn hBn hxn hgn hzn
        have HW5 : Hid (SplB b W w5) := (HWR.out.trans (SplB.of_below hb4 (Nat.le_trans HBG.out HWR.out.below.size))).mid (HB1.out.below hb4 HB1.out.lt) hBn HBGG.out hgn hxn HC2.out ⟨_, rfl⟩
        clear hb4 hBn hxn hgn hzn d14
        go_wp2
        go_roundw
        case rel => exact ⟨k + 1, by omega, by go_num, HW5.out⟩
        case measure => simp [intOf]; omega
      · have d14 := HD.out wr hwr
        clear hwr
        go_wp2
        clear d14
        go_loopw [3] (fun vv wr => ∃ k : Nat, k ≤ a.n ∧ vv = .int .i64 (k : Int) ∧ SplB b W wr) (fun vv _ => a.n - (intOf vv).toNat)
        case atStart => exact ⟨0, by omega, rfl, HWR.out⟩
        case round =>
          clear HWR
          obtain ⟨k', hkn, rfl, hwr⟩ := hrel
          have HWR := Lib.hid hwr
          by_cases hk : k' < a.n
          · have hlk : k' < f.L.length := by rw [HSA.out.len]; exact hk
            obtain ⟨gl, hA, ⟨v', hc, hl⟩, hf, hset⟩ := spl_cell H01.out HSA.out (by omega) hwr ((aclCells_get f.L k' hlk).1)
            obtain ⟨cv, rfl⟩ := hl
            have e0 := HA.out wr hwr
            rw [hA] at e0
            have HW5 : Hid (SplB b W (wr.setCell ⟨gl, k' * 3, none⟩ (.int .i32 77))) := hset _ ⟨_, rfl⟩
            clear hA hset hwr hlk
            go_wp2
            go_roundw
            case rel => exact ⟨k' + 1, by omega, by go_num, HW5.out⟩
            case measure => simp [intOf]; omega
          · have d15 := HA.out wr hwr
            clear hwr
            go_wp2
            clear d15
            go_loopw [4] (fun vv wr => ∃ k : Nat, k ≤ kk.n ∧ vv = .int .i64 (k : Int) ∧ SplB b W wr) (fun vv _ => kk.n - (intOf vv).toNat)
            case atStart => exact ⟨0, by omega, rfl, HWR.out⟩
            case round =>
              clear HWR
              obtain ⟨k', hkn, rfl, hwr⟩ := hrel
              have HWR := Lib.hid hwr
              by_cases hk : k' < kk.n
              · have hlk : k' < f.K.length := by rw [HSK.out.len]; exact hk
                obtain ⟨gl, hA, ⟨v', hc, hl⟩, hf, hset⟩ := spl_cell H01.out HSK.out (by omega) hwr (j := k') (v := .string f.K[k']) (by have := strCells_get f.K k' hlk; simpa using this)
                obtain ⟨cv, rfl⟩ := hl
                have e0 := HK.out wr hwr
                rw [hA] at e0
                have HW5 : Hid (SplB b W (wr.setCell ⟨gl, k', none⟩ (.string ⟨#[109, 97, 114, 107]⟩))) := hset _ ⟨_, rfl⟩
                clear hA hset hwr hlk
                go_wp2
                go_roundw
                case rel => exact ⟨k' + 1, by omega, by go_num, HW5.out⟩
                case measure => simp [intOf]; omega
              · have d16 := HK.out wr hwr
                clear hwr
                go_wp2
                clear d16
                go_loopw [5] (fun vv wr => ∃ k : Nat, k ≤ i.n ∧ vv = .int .i64 (k : Int) ∧ SplB b W wr) (fun vv _ => i.n - (intOf vv).toNat)
                case atStart => exact ⟨0, by omega, rfl, HWR.out⟩
                case round =>
                  clear HWR
                  obtain ⟨k', hkn, rfl, hwr⟩ := hrel
                  have HWR := Lib.hid hwr
                  by_cases hk : k' < i.n
                  · have hlk : k' < f.I.length := by rw [HSI.out.len]; exact hk
                    obtain ⟨gl, hA, ⟨v', hc, hl⟩, hf, hset⟩ := spl_cell H01.out HSI.out (by omega) hwr ((idCells_get f.I k' hlk).2)
                    obtain ⟨cv, rfl⟩ := hl
                    have e0 := HI.out wr hwr
                    rw [hA] at e0
                    have HW5 : Hid (SplB b W (wr.setCell ⟨gl, k' * 2 + 1, none⟩ (.string ⟨#[109, 97, 114, 107]⟩))) := hset _ ⟨_, rfl⟩
                    clear hA hset hwr hlk
                    go_wp2
                    go_roundw
                    case rel => exact ⟨k' + 1, by omega, by go_num, HW5.out⟩
                    case measure => simp [intOf]; omega
                  · have d20 := HI.out wr hwr
                    clear hwr
                    go_wp2
                    clear d20
                    go_loopw [6] (fun vv wr => ∃ k : Nat, k ≤ s.n ∧ vv = .int .i64 (k : Int) ∧ SplB b W wr) (fun vv _ => s.n - (intOf vv).toNat)
                    case atStart => exact ⟨0, by omega, rfl, HWR.out⟩
                    case round =>
                      clear HWR
                      obtain ⟨k', hkn, rfl, hwr⟩ := hrel
                      have HWR := Lib.hid hwr
                      have e0 := HS.out wr hwr
                      by_cases hk : k' < s.n
                      · have hlk : k' < Q.length := by rw [HSS.out.len]; exact hk
                        obtain ⟨gs, cr, hA, hbs, hrb, hrc⟩ := spl_rowP HSS.out (fun q hq => (HQ.out q hq).len) (H01.out.trans hwr) hlk
                        have hih := HIH.out _ (List.getElem_mem hlk) wr gs (k' * 22) _ cr (H01.out.trans hwr) hrb hrc
                        have hq0 : ∃ z, (Q.flatMap Prod.snd)[k' * 22]? = some (.int .i32 z) := by
                          rw [← Nat.add_zero (k' * 22), subs_row Q (fun q hq => (HQ.out q hq).len) k' hlk 0 (by omega)]
                          exact ⟨_, (HQ.out _ (List.getElem_mem hlk)).c0⟩
                        obtain ⟨zt, hzt⟩ := hq0
                        have HPS : Hid (∀ wx, SplB b W wx → ∃ g', s.A = some ⟨g', 0, none⟩ ∧ (∃ v', wx.cell? ⟨g', k' * 22, none⟩ = some v' ∧ LikeV (.int .i32 zt) v') ∧ wx.frozen? ⟨g', k' * 22, none⟩ = false ∧ ∀ x, LikeV (.int .i32 zt) x → SplB b W (wx.setCell ⟨g', k' * 22, none⟩ x)) := fun wx hwx => spl_cell H01.out HSS.out (by omega) hwx hzt
                        have HIK := Lib.hid hih
                        obtain ⟨sA, sn, sc⟩ := s
                        dsimp only at hA hk hkn e0
                        subst hA
                        clear hrb hrc hih hzt hwr hlk
                        go_wp2_with (first
                          | (go_at_call 26
                             refine HIK.out.mono ?_
                             rintro e w3 ⟨rfl, h3⟩
                             have H13 : Hid (SplB b W w3) := HWR.out.trans h3
                             have e1 := HS.out w3 H13.out
                             obtain ⟨g', hg', ⟨v', hc, hl⟩, hf, hset⟩ := HPS.out w3 H13.out
                             injection hg' with hg'
                             injection hg' with hg'
                             subst hg'
                             obtain ⟨cv, rfl⟩ := hl
                             have HW5 : Hid (SplB b W (w3.setCell ⟨gs, k' * 22, none⟩ (.int .i32 99))) := hset _ ⟨_, rfl⟩
                             clear hset h3))
                        go_roundw
                        case rel => exact ⟨k' + 1, by omega, by go_num, HW5.out⟩
                        case measure => simp [intOf]; omega
                      · clear hwr
                        go_wp2
                        go_end0
                        exact ⟨rfl, HWR.out⟩
end Go.Proofs.YtnbaajplelchjaaGreatDoor
