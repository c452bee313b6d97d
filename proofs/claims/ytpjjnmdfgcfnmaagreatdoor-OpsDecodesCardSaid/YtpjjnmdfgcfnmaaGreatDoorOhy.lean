/- The document's ops.Get, subs: of any type, of any depth, if the type of watches is read as it should be. -/
import Derived.Test.YtpjjnmdfgcfnmaaGreatDoorOh5
import Derived.Test.YtpjjnmdfgcfnmaaGreatDoorOh6
set_option linter.unusedVariables false
set_option linter.unusedSimpArgs false
namespace Go.Proofs.YtpjjnmdfgcfnmaaGreatDoor
open Go.RowKit

/-- the type of watches is read as it should be -/
def RWatOk : Prop := ∀ (base R C c p : Nat) (A : Option Addr) (l : List UInt8) (inn : Int) (K : Array Value) (w : World), RR w base R A c l p 0 → Blk w C 98 K → C ≠ R →
  Calls Tryz.prog 62 #[.pointer (some ⟨R, 0, none⟩), .int .i32 101, .int .i64 inn, .pointer (some ⟨C, 0, none⟩)] w (RGot base R C c A l (vFld w.heap.size C K) (gWat l p) w)
theorem rgot_fld {base R C c : Nat} {A : Option Addr} {l : List UInt8} {t : Int} {pr mr n p : Nat} {k : Cnt} {g : Rg OpF} {w w' : World} {e : Ending} (h : RGot base R C c A l (vFld w.heap.size C (cRow pr mr)) (g l p) w e w') (hop : opWith (gSubs n) t k l p = (g.map fun f => ((.mk f [], k) : OpC × Cnt)) l p) (ht : ¬ t = 14) :
    RGot base R C c A l (vGetR w.heap.size C t pr mr) (opWith (gSubs n) t k l p) w e w' := by
  rw [hop]
  unfold Rg.map
  rcases hg : g l p with ⟨f, q⟩ | ⟨er, q⟩
  · rw [hg] at h
    obtain ⟨⟨v, h1, cs, h2, h3, h4⟩, h5, h6⟩ := h
    exact ⟨⟨v, h1, ⟨cs, h2, h3⟩, by rw [if_neg ht]; exact h4⟩, h5, h6⟩
  · rw [hg] at h
    exact h
theorem rget_any (HW : RWatOk) (n : Nat) (HS : RSubsOk n) : RGetOk n := fun base R C c p A l t inn pr mr k w hwf h hC hCR hbC hk1 hk2 h14 hp => by
  by_cases hb : kindN t = 0 ∨ kindN t = 5
  · have hop : opWith (gSubs n) t k l p = .inr (110, p) := by unfold opWith; rw [if_pos hb]; rfl
    rw [hop]
    exact rget_bad t hb hwf base R C c p A l inn _ _ w h hC.lt
  by_cases e14 : t = 14
  · obtain ⟨a1, a2, a3, a4⟩ := h14 e14
    subst e14
    exact rget_14 n HS base R C c p A l inn pr mr k w h hC hCR hbC hk1 hk2 a3 a4 a1 a2 hp
  by_cases e22 : t = 22
  · subst e22
    exact rget_22 n HS base R C c p A l inn pr mr k w h hC hCR hbC hk1 hk2 hp
  by_cases e101 : t = 101
  · subst e101
    exact (HW base R C c p A l inn _ w h hC hCR).mono fun e w' he => rgot_fld he (by unfold opWith; rw [if_neg (by decide), if_neg (by decide), if_neg (by decide), if_pos rfl]) (by decide)
  have hpl : t ∈ plainT := by
    have htt := kind_types (fun e => hb (.inl e))
    have : ∀ t ∈ ownTypes, ¬ (kindN t = 0 ∨ kindN t = 5) → ¬ t = 14 → ¬ t = 22 → ¬ t = 101 → t ∈ plainT := by decide +kernel
    exact this t htt hb e14 e22 e101
  exact (rget_flds t hpl base R C c p A l inn _ w h hC hCR).mono fun e w' he => rgot_fld he (opWith_fld hb (by simp [e14, e22, e101])) e14
theorem rsubs_all (HW : RWatOk) : ∀ n, RSubsOk n := fun n => by
  induction n using Nat.strongRecOn with
  | ind n ih => exact rsubs_any n fun m hm => rget_any HW m (ih m hm)
theorem rget_all (HW : RWatOk) (n : Nat) : RGetOk n := rget_any HW n (rsubs_all HW n)
end Go.Proofs.YtpjjnmdfgcfnmaaGreatDoor
/- The document's Decode. (printed by gen_h8.py) -/
namespace Go.Proofs.YtpjjnmdfgcfnmaaGreatDoor
open Go.RowKit

section
variable {ops : Array Oper}
theorem left_valO {F : List (Value ⊕ (Value → World → Prop))} {a : Act} {w : World} {i k : Nat} {u : Value} (h : Left ops (FL F) a w i) (hF : F[i]? = some (.inl u)) (hk : dstAt ops i = some k) : a.tmps[k]? = some u := by
  obtain ⟨v, h1, h2⟩ := h
  unfold FL at h1
  rw [hF] at h1
  have h3 : v = u := h1
  rw [← h3]
  exact h2 k hk
end
theorem gReq_no1 {l : List UInt8} {e : Int × Nat} (h : gInt l 0 = .inr e) : gReq l 0 = .inr e := gb_no h
theorem decO_er {l : List UInt8} {er : Int} {q : Nat} (h : gReq l 0 = .inr (er, q)) : decO l = .inl ((q : Int), er) := by unfold decO; rw [h]
set_option maxRecDepth 100000 in
set_option maxHeartbeats 40000000 in
theorem refDecode_any (HW : RWatOk) (c n : Nat) (A : Option Addr) (l : List UInt8) (w : World) (hr : Reads w w.heap.size 1 A n (bcells l)) (hln : l.length = n) (hnc : n ≤ c) (hn : n ≤ 140737488355328) (hnil : A = none → c = 0) :
    Calls Tryz.prog 28 #[.slice A n c] w fun e w' => Decoded l w e w' := by
  subst hln
  obtain ⟨w1, hw1⟩ : ∃ w1, ((w.alloc (.cells #[.int .i32 0, .int .i32 0, .string ⟨#[]⟩, .slice none 0 0, .slice none 0 0, .int .i32 0, .int .i32 0, .bool false, .int .i64 0, .int .i64 0, .int .i64 0, .int .i64 0, .slice none 0 0, .slice none 0 0, .slice none 0 0, .slice none 0 0, .slice none 0 0, .int .i32 0, .slice none 0 0, .slice none 0 0] 44)).alloc (.cells #[.slice A l.length c, .int .i64 0, .int .i64 0] 94)).alloc (.cells #[.int .i32 0, .int .i32 0, .string ⟨#[]⟩, .slice none 0 0, .slice none 0 0, .int .i32 0, .int .i32 0, .bool false, .int .i64 0, .int .i64 0, .int .i64 0, .int .i64 0, .slice none 0 0, .slice none 0 0, .slice none 0 0, .slice none 0 0, .slice none 0 0, .int .i32 0, .slice none 0 0, .slice none 0 0] 44) = w1 := ⟨_, rfl⟩
  have hz1 : w1.heap.size = w.heap.size + 3 := by rw [← hw1]; simp
  have hb1 : Below w.heap.size w w1 := by rw [← hw1]; exact (((Below.refl _ _).alloc (Nat.le_refl _) _).alloc (by simp) _).alloc (by simp; omega) _
  have br : Blk w1 w.heap.size 44 #[.int .i32 0, .int .i32 0, .string ⟨#[]⟩, .slice none 0 0, .slice none 0 0, .int .i32 0, .int .i32 0, .bool false, .int .i64 0, .int .i64 0, .int .i64 0, .int .i64 0, .slice none 0 0, .slice none 0 0, .slice none 0 0, .slice none 0 0, .slice none 0 0, .int .i32 0, .slice none 0 0, .slice none 0 0] := by rw [← hw1]; exact ((Blk.new _ _ _).alloc _).alloc _
  have bR : Blk w1 (w.heap.size + 1) 94 #[.slice A l.length c, .int .i64 ((0 : Nat) : Int), .int .i64 0] := by rw [← hw1]; exact (Blk.new' (by simp)).alloc _
  have bq : Blk w1 (w.heap.size + 2) 44 #[.int .i32 0, .int .i32 0, .string ⟨#[]⟩, .slice none 0 0, .slice none 0 0, .int .i32 0, .int .i32 0, .bool false, .int .i64 0, .int .i64 0, .int .i64 0, .int .i64 0, .slice none 0 0, .slice none 0 0, .slice none 0 0, .slice none 0 0, .slice none 0 0, .int .i32 0, .slice none 0 0, .slice none 0 0] := by rw [← hw1]; exact Blk.new' (by simp)
  have hRR : RR w1 w.heap.size (w.heap.size + 1) A c l 0 0 := ⟨bR, hr.below hb1, by omega, hnc, Nat.zero_le _, hn, hnil⟩
  have HB1 := Lib.hid hb1
  have HRS1 := Lib.hid br
  have HQ1 := Lib.hid bq
  have HR1 := Lib.hid hRR
  have HGA := Lib.hid (rget_all HW (l.length + 1))
  obtain ⟨r1, hr1⟩ : ∃ r, r = stepS gInt 0 l (0, 0) := ⟨_, rfl⟩
  obtain ⟨r2, hr2⟩ : ∃ r, r = stepS gInt 0 l r1.2 := ⟨_, rfl⟩
  have HI1 : Hid (Calls Tryz.prog 61 #[.pointer (some ⟨w.heap.size + 1, 0, none⟩)] w1 fun e w' => e = .returned (.int .i32 r1.1) ∧ Kp [w.heap.size + 1] w1 w' ∧ RR w' w.heap.size (w.heap.size + 1) A c l r1.2.1 r1.2.2) := (sInt _ _ A c l 0 0 w1 hRR).mono fun e w' ⟨⟨v, h1, h2⟩, h3, h4⟩ => by rw [hr1]; exact ⟨by rw [h1]; exact congrArg Ending.returned h2, h3, h4⟩
  have HI2 : Hid (∀ W, RR W w.heap.size (w.heap.size + 1) A c l r1.2.1 r1.2.2 → Calls Tryz.prog 61 #[.pointer (some ⟨w.heap.size + 1, 0, none⟩)] W fun e w' => e = .returned (.int .i32 r2.1) ∧ Kp [w.heap.size + 1] W w' ∧ RR w' w.heap.size (w.heap.size + 1) A c l r2.2.1 r2.2.2) := fun W hW => (sInt _ _ A c l r1.2.1 r1.2.2 W hW).mono fun e w' ⟨⟨v, h1, h2⟩, h3, h4⟩ => by rw [hr2]; exact ⟨by rw [h1]; exact congrArg Ending.returned h2, h3, h4⟩
  have HR1E := Lib.hid hr1
  have HR2E := Lib.hid hr2
  clear hr hb1 br bR bq hRR hr1 hr2 HW
  go_enter Tryz.func28, Tryz.ntmps28
  go_wp2_with (go_at_call 61; refine HI1.out.mono ?_; rintro e w2 ⟨rfl, hk, hR⟩; have hq2 := HQ1.out.kp hk (by simp); have hs2 := HRS1.out.kp hk (by simp); have kc := hq2.cell; have kf := hq2.frozen; have hz2 := hk.size; have HK2 := Lib.hid hk; have HRR2 := Lib.hid hR; have HQ2 := Lib.hid hq2; have HRS2 := Lib.hid hs2; clear hk hR hq2 hs2; refine Hid.out ?_)
  refine Lib.hid ?_
  obtain ⟨w3, hw3⟩ : ∃ w3, w2.setCell ⟨w.heap.size + 2, 0, none⟩ (.int .i32 r1.1) = w3 := ⟨_, rfl⟩
  have HR3 : Hid (RR w3 w.heap.size (w.heap.size + 1) A c l r1.2.1 r1.2.2) := by unfold Hid; rw [← hw3]; exact HRR2.out.set (by omega) (by omega) 0 _
  have HQ3 : Hid (Blk w3 (w.heap.size + 2) 44 (Value.int .i32 r1.1 :: [.int .i32 0, .string ⟨#[]⟩, .slice none 0 0, .slice none 0 0, .int .i32 0, .int .i32 0, .bool false, .int .i64 0, .int .i64 0, .int .i64 0, .int .i64 0, .slice none 0 0, .slice none 0 0, .slice none 0 0, .slice none 0 0, .slice none 0 0, .int .i32 0, .slice none 0 0, .slice none 0 0]).toArray) := by unfold Hid; rw [← hw3]; exact HQ2.out.set_ 0 _
  have HRS3 : Hid (Blk w3 w.heap.size 44 #[.int .i32 0, .int .i32 0, .string ⟨#[]⟩, .slice none 0 0, .slice none 0 0, .int .i32 0, .int .i32 0, .bool false, .int .i64 0, .int .i64 0, .int .i64 0, .int .i64 0, .slice none 0 0, .slice none 0 0, .slice none 0 0, .slice none 0 0, .slice none 0 0, .int .i32 0, .slice none 0 0, .slice none 0 0]) := by unfold Hid; rw [← hw3]; exact HRS2.out.far (p := ⟨w.heap.size + 2, 0, none⟩) (by simp) _
  have HB3 : Hid (Below w.heap.size w w3) := by unfold Hid; rw [← hw3]; exact (HB1.out.trans (HK2.out.below (by simp) HB1.out.size)).setCell (by simp) _
  have hz3 : w.heap.size + 3 ≤ w3.heap.size := by rw [← hw3]; simp; omega
  go_wp2_with (go_at_call 61; refine (HI2.out _ HR3.out).mono ?_; rintro e w4 ⟨rfl, hk, hR⟩; have hz4 := hk.size; have HQ4 := Lib.hid (HQ3.out.kp hk (by simp)); have HRS4 := Lib.hid (HRS3.out.kp hk (by simp)); have HB4 := Lib.hid (HB3.out.trans (hk.below (by simp) HB3.out.size)); have HRR4 := Lib.hid hR; clear hk hR; refine Hid.out ?_)
  clear kc kf hw3 HK2 HRR2 HQ2 HRS2 HR3 HQ3 HRS3 HB3 HI1 HI2
  obtain ⟨d0, d1, d2, g1, g2⟩ := HRR4.out.cells
  by_cases he : r2.2.2 = 0
  rotate_left
  · -- no type
    have hd : decO l = .inl ((r2.2.1 : Int), r2.2.2) := by
      have hr1 := HR1E.out
      have hr2 := HR2E.out
      rcases h1 : gInt l 0 with ⟨z, p1⟩ | ⟨er, p1⟩
      · rw [stepS_yes 0 h1] at hr1
        subst hr1
        rcases h2 : gInt l p1 with ⟨t, p2⟩ | ⟨er, p2⟩
        · rw [stepS_yes 0 h2] at hr2
          subst hr2
          exact absurd rfl he
        · rw [stepS_no 0 h2] at hr2
          subst hr2
          exact decO_er (by unfold gReq; rw [gb_ev h1, gb_no h2])
      · have hne := gInt_ne h1
        rw [stepS_no 0 h1] at hr1
        subst hr1
        rw [stepS_dead _ _ _ hne] at hr2
        subst hr2
        exact decO_er (gReq_no1 h1)
    obtain ⟨E, hE⟩ : ∃ E, E = r2.2.2 := ⟨_, rfl⟩
    obtain ⟨q9, hq9⟩ : ∃ q, q = r2.2.1 := ⟨_, rfl⟩
    rw [← hE, ← hq9] at hd
    rw [← hE] at he d2
    have HR4 := HRR4
    rw [← hE, ← hq9] at HR4
    have hnb : (E == 0) = false := by simpa using he
    have hnb2 : (E != 0) = true := by simpa using he
    have HNE := Lib.hid he
    have HD := Lib.hid hd
    clear he hd hE hq9
    refine Lib.hid ?_
    go_wp2_with (go_at_call 63; refine (dEnd _ _ _ _ _ _ _ E HR4.out).mono ?_; rintro e wq ⟨rfl, hk, hR⟩; rw [if_neg (fun h => HNE.out h.1)] at hR; have HRES := Lib.hid (HRS4.out.kp hk (by simp)); have HBZ := Lib.hid (HB4.out.trans (hk.below (by simp) HB4.out.size)); have HRR := Lib.hid hR; obtain ⟨b0, b1, b2, b3, b4⟩ := hR.cells; clear hk hR d0 d1 d2 g1 g2)
    clear b0 b1 b2 b3 b4
    obtain ⟨qi, hqi⟩ : ∃ q : Int, q = (q9 : Int) := ⟨_, rfl⟩
    have HQI := Lib.hid hqi
    have HDP : Hid (wq.cell? ⟨w.heap.size + 1, 1, none⟩ = some (.int .i64 qi)) := by unfold Hid; rw [hqi]; exact HRR.out.cells.2.1
    have HDR : Hid (wq.cell? ⟨w.heap.size + 1, 2, none⟩ = some (.int .i64 E)) := HRR.out.cells.2.2.1
    have hs9 : w.heap.size + 1 < wq.heap.size := HRR.out.lt
    clear hqi
    refine wp_region_stepsC (fun u v => Kp [w.heap.size] u v ∧ (Blk u w.heap.size 44 #[.int .i32 0, .int .i32 0, .string ⟨#[]⟩, .slice none 0 0, .slice none 0 0, .int .i32 0, .int .i32 0, .bool false, .int .i64 0, .int .i64 0, .int .i64 0, .int .i64 0, .slice none 0 0, .slice none 0 0, .slice none 0 0, .slice none 0 0, .slice none 0 0, .int .i32 0, .slice none 0 0, .slice none 0 0] → Blk v w.heap.size 44 #[.int .i32 0, .int .i32 0, .string ⟨#[]⟩, .slice none 0 0, .slice none 0 0, .int .i32 0, .int .i32 0, .bool false, .int .i64 0, .int .i64 0, .int .i64 0, .int .i64 0, .slice none 0 0, .slice none 0 0, .slice none 0 0, .slice none 0 0, .slice none 0 0, .int .i32 0, .slice none 0 0, .slice none 0 0])) [.inl (.agg #[.int .i32 0, .int .i32 0, .string ⟨#[]⟩, .slice none 0 0, .slice none 0 0, .int .i32 0, .int .i32 0, .bool false, .int .i64 0, .int .i64 0, .int .i64 0, .int .i64 0, .slice none 0 0, .slice none 0 0, .slice none 0 0, .slice none 0 0, .slice none 0 0, .int .i32 0, .slice none 0 0, .slice none 0 0]), .inl (.pointer (some ⟨w.heap.size + 1, 0, none⟩)), .inl (.pointer (some ⟨w.heap.size + 1, 0, none⟩)), .inl (.pointer (some ⟨w.heap.size + 1, 1, none⟩)), .inl (.int .i64 qi), .inl (.pointer (some ⟨w.heap.size + 1, 0, none⟩)), .inl (.pointer (some ⟨w.heap.size + 1, 0, none⟩)), .inl (.pointer (some ⟨w.heap.size + 1, 2, none⟩)), .inl (.int .i64 E), .inr (fun _ _ => True), .inl (.int .i64 qi), .inl (.int .i64 E)]
      ⟨Kp.drew, fun h => h.drew⟩ (fun h1 h2 => ⟨h1.1.trans h2.1, fun h => h2.2 (h1.2 h)⟩) (by as_aux_lemma => kernel_rfl) (by as_aux_lemma => kernel_rfl) (by as_aux_lemma => kernel_rfl) (by as_aux_lemma => kernel_rfl) ?_ ⟨?_, ?_, ?_, ?_, ?_, ?_, ?_, ?_, ?_, ?_, ?_, ?_, trivial⟩ ?_
    · intro p hp v W W' h hb
      simp only [List.mem_cons, reduceCtorEq, Sum.inr.injEq, List.not_mem_nil, or_false, false_or] at hp
      subst hp
      trivial
    · intro a W hC hold hdep K hK
      refine step_val (want_free rfl) (v := .agg #[.int .i32 0, .int .i32 0, .string ⟨#[]⟩, .slice none 0 0, .slice none 0 0, .int .i32 0, .int .i32 0, .bool false, .int .i64 0, .int .i64 0, .int .i64 0, .int .i64 0, .slice none 0 0, .slice none 0 0, .slice none 0 0, .slice none 0 0, .slice none 0 0, .int .i32 0, .slice none 0 0, .slice none 0 0]) ?_ (hK _ _ rfl ⟨Kp.refl _ _, id⟩)
      go_simp
    · intro a W hC hold hdep K hK
      exact step_val (want_free rfl) (r_move _ rfl (eval_tmp ((hold 5 (free_slot (by as_aux_lemma => kernel_rfl))).trans rfl))) (hK _ _ rfl ⟨Kp.refl _ _, id⟩)
    · intro a W hC hold hdep K hK
      have e35 := eval_tmp (left_valO (hdep ⟨1, .data⟩ (by simp) rfl (by decide)) rfl (k := 35) rfl)
      refine step_val (want_free rfl) (v := .pointer (some ⟨w.heap.size + 1, 0, none⟩)) ?_ (hK _ _ rfl ⟨Kp.refl _ _, id⟩)
      unfold execOp
      simp only [e35]
      go_simp
    · intro a W hC hold hdep K hK
      have e36 := eval_tmp (left_valO (hdep ⟨2, .data⟩ (by simp) rfl (by decide)) rfl (k := 36) rfl)
      refine step_val (want_free rfl) (v := .pointer (some ⟨w.heap.size + 1, 1, none⟩)) ?_ (hK _ _ rfl ⟨Kp.refl _ _, id⟩)
      unfold execOp
      simp only [e36]
      go_simp
    · intro a W hC hold hdep K hK
      have e37 := eval_tmp (left_valO (hdep ⟨3, .data⟩ (by simp) rfl (by decide)) rfl (k := 37) rfl)
      have hc : W.cell? ⟨w.heap.size + 1, 1, none⟩ = some (.int .i64 qi) := (hC.1.cell (p := ⟨w.heap.size + 1, 1, none⟩) hs9 (by simp)).trans HDP.out
      refine step_val (want_free rfl) (v := .int .i64 qi) ?_ (hK _ _ rfl ⟨Kp.refl _ _, id⟩)
      unfold execOp
      simp only [e37]
      go_simp
    · intro a W hC hold hdep K hK
      exact step_val (want_free rfl) (r_move _ rfl (eval_tmp ((hold 5 (free_slot (by as_aux_lemma => kernel_rfl))).trans rfl))) (hK _ _ rfl ⟨Kp.refl _ _, id⟩)
    · intro a W hC hold hdep K hK
      have e39 := eval_tmp (left_valO (hdep ⟨5, .data⟩ (by simp) rfl (by decide)) rfl (k := 39) rfl)
      refine step_val (want_free rfl) (v := .pointer (some ⟨w.heap.size + 1, 0, none⟩)) ?_ (hK _ _ rfl ⟨Kp.refl _ _, id⟩)
      unfold execOp
      simp only [e39]
      go_simp
    · intro a W hC hold hdep K hK
      have e40 := eval_tmp (left_valO (hdep ⟨6, .data⟩ (by simp) rfl (by decide)) rfl (k := 40) rfl)
      refine step_val (want_free rfl) (v := .pointer (some ⟨w.heap.size + 1, 2, none⟩)) ?_ (hK _ _ rfl ⟨Kp.refl _ _, id⟩)
      unfold execOp
      simp only [e40]
      go_simp
    · intro a W hC hold hdep K hK
      have e41 := eval_tmp (left_valO (hdep ⟨7, .data⟩ (by simp) rfl (by decide)) rfl (k := 41) rfl)
      have hc : W.cell? ⟨w.heap.size + 1, 2, none⟩ = some (.int .i64 E) := (hC.1.cell (p := ⟨w.heap.size + 1, 2, none⟩) hs9 (by simp)).trans HDR.out
      refine step_val (want_free rfl) (v := .int .i64 E) ?_ (hK _ _ rfl ⟨Kp.refl _ _, id⟩)
      unfold execOp
      simp only [e41]
      go_simp
    · intro a W hC hold hdep K hK
      have e2 := eval_tmp ((hold 2 (free_slot (by as_aux_lemma => kernel_rfl))).trans rfl)
      have e56 := eval_tmp (left_valO (hdep ⟨0, .data⟩ (by simp) rfl (by decide)) rfl (k := 34) rfl)
      rw [if_pos (want_free rfl)]
      exact wp_store_row 44 (.tmp 2) (.tmp 34) rfl w.heap.size #[.int .i32 0, .int .i32 0, .string ⟨#[]⟩, .slice none 0 0, .slice none 0 0, .int .i32 0, .int .i32 0, .bool false, .int .i64 0, .int .i64 0, .int .i64 0, .int .i64 0, .slice none 0 0, .slice none 0 0, .slice none 0 0, .slice none 0 0, .slice none 0 0, .int .i32 0, .slice none 0 0, .slice none 0 0] e2 e56 44 #[.int .i32 0, .int .i32 0, .string ⟨#[]⟩, .slice none 0 0, .slice none 0 0, .int .i32 0, .int .i32 0, .bool false, .int .i64 0, .int .i64 0, .int .i64 0, .int .i64 0, .slice none 0 0, .slice none 0 0, .slice none 0 0, .slice none 0 0, .slice none 0 0, .int .i32 0, .slice none 0 0, .slice none 0 0] (hC.2 HRES.out) (by rw [req_size]; rfl) rfl (by simp [Value.oneCell']) (hK _ _ trivial ⟨Kp.setRow _ _, fun h => cells_setRow h⟩)
    · intro a W hC hold hdep K hK
      exact step_val (want_free rfl) (r_assign _ rfl (eval_tmp (left_valO (hdep ⟨4, .data⟩ (by simp) rfl (by decide)) rfl (k := 38) rfl))) (hK _ _ rfl ⟨Kp.refl _ _, id⟩)
    · intro a W hC hold hdep K hK
      exact step_val (want_free rfl) (r_assign _ rfl (eval_tmp (left_valO (hdep ⟨8, .data⟩ (by simp) rfl (by decide)) rfl (k := 42) rfl))) (hK _ _ rfl ⟨Kp.refl _ _, id⟩)
    · intro a W hC hdef hlen hold hall
      have h2 := (hold 2 (free_slot (by as_aux_lemma => kernel_rfl))).trans rfl
      have h3 := left_valO (hall 10 (by decide)) rfl (k := 3) rfl
      have h4 := left_valO (hall 11 (by decide)) rfl (k := 4) rfl
      have hR := hC.2 HRES.out
      have hB : Below w.heap.size w W := HBZ.out.trans (hC.1.below (by simp) HBZ.out.size)
      clear hall hold hlen
      obtain ⟨tm, df⟩ := a
      dsimp only at hdef h2 h3 h4
      subst hdef
      go_wp2
      (try simp only [Exit.inBlock, Exit.then])
      refine bodyPost_ret (results_cell_tmp2 rfl _ _ w.heap.size 44 #[.int .i32 0, .int .i32 0, .string ⟨#[]⟩, .slice none 0 0, .slice none 0 0, .int .i32 0, .int .i32 0, .bool false, .int .i64 0, .int .i64 0, .int .i64 0, .int .i64 0, .slice none 0 0, .slice none 0 0, .slice none 0 0, .slice none 0 0, .slice none 0 0, .int .i32 0, .slice none 0 0, .slice none 0 0] _ (.int .i64 qi) (.int .i64 E) (by rw [Array.getD_eq_getD_getElem?, h2]; rfl) (by rw [Array.getD_eq_getD_getElem?, h3]; rfl) (by rw [Array.getD_eq_getD_getElem?, h4]; rfl) hR Tryz.underlying44 rfl (by rw [req_size]; rfl)) rfl ?_
      refine ⟨hB, ?_⟩
      rw [HD.out, ← HQI.out]
      exact ⟨HNE.out, by have := HQI.out; have := HRR.out.here; omega, rfl⟩
  obtain ⟨z, p1, t, p2, h1, h2, e1, e2⟩ : ∃ z p1 t p2, gInt l 0 = .inl (z, p1) ∧ gInt l p1 = .inl (t, p2) ∧ r1 = (z, (p1, 0)) ∧ r2 = (t, (p2, 0)) := by
    have hr1 := HR1E.out
    have hr2 := HR2E.out
    rcases h1 : gInt l 0 with ⟨z, p1⟩ | ⟨er, p1⟩
    · rw [stepS_yes 0 h1] at hr1
      rcases h2 : gInt l p1 with ⟨t, p2⟩ | ⟨er, p2⟩
      · subst hr1
        rw [stepS_yes 0 h2] at hr2
        exact ⟨z, p1, t, p2, rfl, h2, rfl, hr2⟩
      · subst hr1
        rw [stepS_no 0 h2] at hr2
        rw [hr2] at he
        exact absurd he (gInt_ne h2)
    · have hne := gInt_ne h1
      rw [stepS_no 0 h1] at hr1
      subst hr1
      rw [stepS_dead _ _ _ hne] at hr2
      rw [hr2] at he
      exact absurd he hne
  subst e1 e2
  dsimp only at d0 d1 d2 HRR4 HQ4
  have hgr : gReq l 0 = ((gOp t).map fun x => (z, x)) l p2 := by unfold gReq; rw [gb_ev h1, gb_ev h2]
  have HGR := Lib.hid hgr
  have hwf := gInt_wf h2
  obtain ⟨wd, hwd⟩ : ∃ wd, w4.alloc (.cells #[.int .i64 0, .int .i64 1] 98) = wd := ⟨_, rfl⟩
  have HBD := Lib.hid (newB hwd)
  have hnd : Blk wd w4.heap.size 98 (cRow 0 1) := newK hwd
  have hwdz : wd.heap.size = w4.heap.size + 1 := by rw [← hwd]; simp
  have hget := HGA.out w.heap.size (w.heap.size + 1) w4.heap.size c p2 A l t 0 0 1 ⟨0, 1, 0⟩ wd hwf (HRR4.out.later HBD.out) hnd (by omega) (by omega) (by decide) (by decide) (fun _ => ⟨rfl, rfl, rfl, by decide⟩) (by omega)
  have HWZ := Lib.hid hwdz
  clear he hgr hwf hnd hwdz h1 h2 HR1E HR2E
  rcases h3 : opWith (gSubs (l.length + 1)) t ⟨0, 1, 0⟩ l p2 with ⟨⟨x, k'⟩, q⟩ | ⟨er, q⟩
  rotate_left
  · have hd : decO l = .inl ((q : Int), er) := decO_er (by rw [HGR.out]; unfold Rg.map gOp Rg.map; rw [h3])
    rw [h3] at hget
    have HGT := Lib.hid hget
    have hne : er ≠ 0 := by
      exact sure_gOp t l p2 er q (by unfold gOp Rg.map; rw [h3])
    have hnb : (er == 0) = false := by simpa using hne
    have hnb2 : (er != 0) = true := by simpa using hne
    have HNE := Lib.hid hne
    have HD := Lib.hid hd
    obtain ⟨E, rfl⟩ : ∃ E, E = er := ⟨_, rfl⟩
    obtain ⟨q9, rfl⟩ : ∃ q9, q9 = q := ⟨_, rfl⟩
    clear hget hd hne h3
    refine Lib.hid ?_
    go_wp2_with (first
      | (go_at_call 62
         refine HGT.out.mono ?_
         rintro e w5 ⟨⟨cs, rfl, hlen, hone⟩, _, hkp, hR⟩
         have HL := Lib.hid hlen
         have HNW : Hid (∀ v ∈ cs, v.oneCell' = true) := fun v hv => (by rw [Array.all_eq_true_iff_forall_mem] at hone; exact hone v (by simpa using hv))
         clear hlen hone
         have HQ5 := Lib.hid ((HQ4.out.below HBD.out HQ4.out.lt).kp hkp (by simp; omega))
         have HRS5 := Lib.hid ((HRS4.out.below HBD.out HRS4.out.lt).kp hkp (by simp; omega))
         have HB5 := Lib.hid ((HB4.out.trans (HBD.out.mono HB4.out.size)).trans (hkp.below (by simp; omega) (Nat.le_trans HB4.out.size HBD.out.size)))
         have HR5 := Lib.hid hR
         have hz5 := hkp.size
         clear hkp hR)
      | ((with_reducible show wpList _ _ _ (Oper.mk none (.store _ (.tmp 26) _) _ _ _ _ :: _) _ _)
         refine wpList_store_mid rfl 29 (.tmp 26) (.tmp 25) rfl (w.heap.size + 2) 1 (.agg cs.toArray) rfl rfl HQ5.out (news := cs) rfl (by rw [HL.out]; exact isz_29) (by rw [HL.out]; exact Nat.le_refl 20) HNW.out ?_
         intro w6 cn hbn hxn hgn hzn6
         have HQ6 := Lib.hid hbn
         have HXN := Lib.hid hxn
         have HGN := Lib.hid hgn
         have hkg : Kp [w.heap.size + 2] w5 w6 := (Kp.of_grown hgn).mono (fun x hx _ => by simpa using hx)
         have HRS6 := Lib.hid (HRS5.out.kp hkg (by simp))
         have HB6 := Lib.hid (HB5.out.trans (hkg.below (by simp) HB5.out.size))
         have HR6 := Lib.hid (HR5.out.kp hkg (by simp) (by simp))
         obtain ⟨m0, m1, m2, m3, m4⟩ := HR6.out.cells
         clear hbn hxn hgn hzn6 hkg d0 d1 d2 g1 g2)
      | (go_at_call 63; refine (dEnd _ _ _ _ _ _ _ E HR6.out).mono ?_; rintro e wq ⟨rfl, hk, hR⟩; rw [if_neg (fun h => HNE.out h.1)] at hR; have HRES := Lib.hid (HRS6.out.kp hk (by simp)); have HBZ := Lib.hid (HB6.out.trans (hk.below (by simp) HB6.out.size)); have HRR := Lib.hid hR; have HQQ := Lib.hid (HQ6.out.kp hk (by simp)); have HKE := Lib.hid hk; obtain ⟨b0, b1, b2, b3, b4⟩ := hR.cells; clear hk hR m0 m1 m2 m3 m4))
    clear b0 b1 b2 b3 b4
    obtain ⟨qi, hqi⟩ : ∃ q : Int, q = (q9 : Int) := ⟨_, rfl⟩
    have HQI := Lib.hid hqi
    have HDP : Hid (wq.cell? ⟨w.heap.size + 1, 1, none⟩ = some (.int .i64 qi)) := by unfold Hid; rw [hqi]; exact HRR.out.cells.2.1
    have HDR : Hid (wq.cell? ⟨w.heap.size + 1, 2, none⟩ = some (.int .i64 E)) := HRR.out.cells.2.2.1
    have hs9 : w.heap.size + 1 < wq.heap.size := HRR.out.lt
    clear hqi
    refine wp_region_stepsC (fun u v => Kp [w.heap.size] u v ∧ (Blk u w.heap.size 44 #[.int .i32 0, .int .i32 0, .string ⟨#[]⟩, .slice none 0 0, .slice none 0 0, .int .i32 0, .int .i32 0, .bool false, .int .i64 0, .int .i64 0, .int .i64 0, .int .i64 0, .slice none 0 0, .slice none 0 0, .slice none 0 0, .slice none 0 0, .slice none 0 0, .int .i32 0, .slice none 0 0, .slice none 0 0] → Blk v w.heap.size 44 #[.int .i32 0, .int .i32 0, .string ⟨#[]⟩, .slice none 0 0, .slice none 0 0, .int .i32 0, .int .i32 0, .bool false, .int .i64 0, .int .i64 0, .int .i64 0, .int .i64 0, .slice none 0 0, .slice none 0 0, .slice none 0 0, .slice none 0 0, .slice none 0 0, .int .i32 0, .slice none 0 0, .slice none 0 0])) [.inl (.agg #[.int .i32 0, .int .i32 0, .string ⟨#[]⟩, .slice none 0 0, .slice none 0 0, .int .i32 0, .int .i32 0, .bool false, .int .i64 0, .int .i64 0, .int .i64 0, .int .i64 0, .slice none 0 0, .slice none 0 0, .slice none 0 0, .slice none 0 0, .slice none 0 0, .int .i32 0, .slice none 0 0, .slice none 0 0]), .inl (.pointer (some ⟨w.heap.size + 1, 0, none⟩)), .inl (.pointer (some ⟨w.heap.size + 1, 0, none⟩)), .inl (.pointer (some ⟨w.heap.size + 1, 1, none⟩)), .inl (.int .i64 qi), .inl (.pointer (some ⟨w.heap.size + 1, 0, none⟩)), .inl (.pointer (some ⟨w.heap.size + 1, 0, none⟩)), .inl (.pointer (some ⟨w.heap.size + 1, 2, none⟩)), .inl (.int .i64 E), .inr (fun _ _ => True), .inl (.int .i64 qi), .inl (.int .i64 E)]
      ⟨Kp.drew, fun h => h.drew⟩ (fun h1 h2 => ⟨h1.1.trans h2.1, fun h => h2.2 (h1.2 h)⟩) (by as_aux_lemma => kernel_rfl) (by as_aux_lemma => kernel_rfl) (by as_aux_lemma => kernel_rfl) (by as_aux_lemma => kernel_rfl) ?_ ⟨?_, ?_, ?_, ?_, ?_, ?_, ?_, ?_, ?_, ?_, ?_, ?_, trivial⟩ ?_
    · intro p hp v W W' h hb
      simp only [List.mem_cons, reduceCtorEq, Sum.inr.injEq, List.not_mem_nil, or_false, false_or] at hp
      subst hp
      trivial
    · intro a W hC hold hdep K hK
      refine step_val (want_free rfl) (v := .agg #[.int .i32 0, .int .i32 0, .string ⟨#[]⟩, .slice none 0 0, .slice none 0 0, .int .i32 0, .int .i32 0, .bool false, .int .i64 0, .int .i64 0, .int .i64 0, .int .i64 0, .slice none 0 0, .slice none 0 0, .slice none 0 0, .slice none 0 0, .slice none 0 0, .int .i32 0, .slice none 0 0, .slice none 0 0]) ?_ (hK _ _ rfl ⟨Kp.refl _ _, id⟩)
      go_simp
    · intro a W hC hold hdep K hK
      exact step_val (want_free rfl) (r_move _ rfl (eval_tmp ((hold 5 (free_slot (by as_aux_lemma => kernel_rfl))).trans rfl))) (hK _ _ rfl ⟨Kp.refl _ _, id⟩)
    · intro a W hC hold hdep K hK
      have e35 := eval_tmp (left_valO (hdep ⟨1, .data⟩ (by simp) rfl (by decide)) rfl (k := 35) rfl)
      refine step_val (want_free rfl) (v := .pointer (some ⟨w.heap.size + 1, 0, none⟩)) ?_ (hK _ _ rfl ⟨Kp.refl _ _, id⟩)
      unfold execOp
      simp only [e35]
      go_simp
    · intro a W hC hold hdep K hK
      have e36 := eval_tmp (left_valO (hdep ⟨2, .data⟩ (by simp) rfl (by decide)) rfl (k := 36) rfl)
      refine step_val (want_free rfl) (v := .pointer (some ⟨w.heap.size + 1, 1, none⟩)) ?_ (hK _ _ rfl ⟨Kp.refl _ _, id⟩)
      unfold execOp
      simp only [e36]
      go_simp
    · intro a W hC hold hdep K hK
      have e37 := eval_tmp (left_valO (hdep ⟨3, .data⟩ (by simp) rfl (by decide)) rfl (k := 37) rfl)
      have hc : W.cell? ⟨w.heap.size + 1, 1, none⟩ = some (.int .i64 qi) := (hC.1.cell (p := ⟨w.heap.size + 1, 1, none⟩) hs9 (by simp)).trans HDP.out
      refine step_val (want_free rfl) (v := .int .i64 qi) ?_ (hK _ _ rfl ⟨Kp.refl _ _, id⟩)
      unfold execOp
      simp only [e37]
      go_simp
    · intro a W hC hold hdep K hK
      exact step_val (want_free rfl) (r_move _ rfl (eval_tmp ((hold 5 (free_slot (by as_aux_lemma => kernel_rfl))).trans rfl))) (hK _ _ rfl ⟨Kp.refl _ _, id⟩)
    · intro a W hC hold hdep K hK
      have e39 := eval_tmp (left_valO (hdep ⟨5, .data⟩ (by simp) rfl (by decide)) rfl (k := 39) rfl)
      refine step_val (want_free rfl) (v := .pointer (some ⟨w.heap.size + 1, 0, none⟩)) ?_ (hK _ _ rfl ⟨Kp.refl _ _, id⟩)
      unfold execOp
      simp only [e39]
      go_simp
    · intro a W hC hold hdep K hK
      have e40 := eval_tmp (left_valO (hdep ⟨6, .data⟩ (by simp) rfl (by decide)) rfl (k := 40) rfl)
      refine step_val (want_free rfl) (v := .pointer (some ⟨w.heap.size + 1, 2, none⟩)) ?_ (hK _ _ rfl ⟨Kp.refl _ _, id⟩)
      unfold execOp
      simp only [e40]
      go_simp
    · intro a W hC hold hdep K hK
      have e41 := eval_tmp (left_valO (hdep ⟨7, .data⟩ (by simp) rfl (by decide)) rfl (k := 41) rfl)
      have hc : W.cell? ⟨w.heap.size + 1, 2, none⟩ = some (.int .i64 E) := (hC.1.cell (p := ⟨w.heap.size + 1, 2, none⟩) hs9 (by simp)).trans HDR.out
      refine step_val (want_free rfl) (v := .int .i64 E) ?_ (hK _ _ rfl ⟨Kp.refl _ _, id⟩)
      unfold execOp
      simp only [e41]
      go_simp
    · intro a W hC hold hdep K hK
      have e2 := eval_tmp ((hold 2 (free_slot (by as_aux_lemma => kernel_rfl))).trans rfl)
      have e56 := eval_tmp (left_valO (hdep ⟨0, .data⟩ (by simp) rfl (by decide)) rfl (k := 34) rfl)
      rw [if_pos (want_free rfl)]
      exact wp_store_row 44 (.tmp 2) (.tmp 34) rfl w.heap.size #[.int .i32 0, .int .i32 0, .string ⟨#[]⟩, .slice none 0 0, .slice none 0 0, .int .i32 0, .int .i32 0, .bool false, .int .i64 0, .int .i64 0, .int .i64 0, .int .i64 0, .slice none 0 0, .slice none 0 0, .slice none 0 0, .slice none 0 0, .slice none 0 0, .int .i32 0, .slice none 0 0, .slice none 0 0] e2 e56 44 #[.int .i32 0, .int .i32 0, .string ⟨#[]⟩, .slice none 0 0, .slice none 0 0, .int .i32 0, .int .i32 0, .bool false, .int .i64 0, .int .i64 0, .int .i64 0, .int .i64 0, .slice none 0 0, .slice none 0 0, .slice none 0 0, .slice none 0 0, .slice none 0 0, .int .i32 0, .slice none 0 0, .slice none 0 0] (hC.2 HRES.out) (by rw [req_size]; rfl) rfl (by simp [Value.oneCell']) (hK _ _ trivial ⟨Kp.setRow _ _, fun h => cells_setRow h⟩)
    · intro a W hC hold hdep K hK
      exact step_val (want_free rfl) (r_assign _ rfl (eval_tmp (left_valO (hdep ⟨4, .data⟩ (by simp) rfl (by decide)) rfl (k := 38) rfl))) (hK _ _ rfl ⟨Kp.refl _ _, id⟩)
    · intro a W hC hold hdep K hK
      exact step_val (want_free rfl) (r_assign _ rfl (eval_tmp (left_valO (hdep ⟨8, .data⟩ (by simp) rfl (by decide)) rfl (k := 42) rfl))) (hK _ _ rfl ⟨Kp.refl _ _, id⟩)
    · intro a W hC hdef hlen hold hall
      have h2 := (hold 2 (free_slot (by as_aux_lemma => kernel_rfl))).trans rfl
      have h3 := left_valO (hall 10 (by decide)) rfl (k := 3) rfl
      have h4 := left_valO (hall 11 (by decide)) rfl (k := 4) rfl
      have hR := hC.2 HRES.out
      have hB : Below w.heap.size w W := HBZ.out.trans (hC.1.below (by simp) HBZ.out.size)
      clear hall hold hlen
      obtain ⟨tm, df⟩ := a
      dsimp only at hdef h2 h3 h4
      subst hdef
      go_wp2
      (try simp only [Exit.inBlock, Exit.then])
      refine bodyPost_ret (results_cell_tmp2 rfl _ _ w.heap.size 44 #[.int .i32 0, .int .i32 0, .string ⟨#[]⟩, .slice none 0 0, .slice none 0 0, .int .i32 0, .int .i32 0, .bool false, .int .i64 0, .int .i64 0, .int .i64 0, .int .i64 0, .slice none 0 0, .slice none 0 0, .slice none 0 0, .slice none 0 0, .slice none 0 0, .int .i32 0, .slice none 0 0, .slice none 0 0] _ (.int .i64 qi) (.int .i64 E) (by rw [Array.getD_eq_getD_getElem?, h2]; rfl) (by rw [Array.getD_eq_getD_getElem?, h3]; rfl) (by rw [Array.getD_eq_getD_getElem?, h4]; rfl) hR Tryz.underlying44 rfl (by rw [req_size]; rfl)) rfl ?_
      refine ⟨hB, ?_⟩
      rw [HD.out, ← HQI.out]
      exact ⟨HNE.out, by have := HQI.out; have := HRR.out.here; omega, rfl⟩
  have HOP : Hid (gReq l 0 = .inl ((z, x), q)) := by unfold Hid; rw [HGR.out]; unfold Rg.map gOp Rg.map; rw [h3]
  rw [h3] at hget
  have HGT := Lib.hid hget
  clear hget h3 HGR
  by_cases hq : q < l.length
  · have hd : decO l = .inl ((q : Int), 21) := decO_lt HOP.out hq
    have HNE : Hid ((21 : Int) ≠ 0) := by unfold Hid; decide
    have HD := Lib.hid hd
    have HQL := Lib.hid hq
    obtain ⟨q9, rfl⟩ : ∃ q9, q9 = q := ⟨_, rfl⟩
    clear hd hq
    refine Lib.hid ?_
    go_wp2_with (first
      | (go_at_call 62
         refine HGT.out.mono ?_
         rintro e w5 ⟨⟨v, rfl, ⟨cs, rfl, hat⟩, _⟩, hkp, hR⟩
         have HAT := Lib.hid hat
         have HL := Lib.hid hat.len
         have HNW : Hid (∀ v ∈ cs, v.oneCell' = true) := fun v hv => (by have := hat.one; rw [Array.all_eq_true_iff_forall_mem] at this; exact this v (by simpa using hv))
         clear hat
         have HQ5 := Lib.hid ((HQ4.out.below HBD.out HQ4.out.lt).kp hkp (by simp; omega))
         have HRS5 := Lib.hid ((HRS4.out.below HBD.out HRS4.out.lt).kp hkp (by simp; omega))
         have HB5 := Lib.hid ((HB4.out.trans (HBD.out.mono HB4.out.size)).trans (hkp.below (by simp; omega) (Nat.le_trans HB4.out.size HBD.out.size)))
         have HR5 := Lib.hid hR
         have hz5 := hkp.size
         clear hkp hR)
      | ((with_reducible show wpList _ _ _ (Oper.mk none (.store _ (.tmp 26) _) _ _ _ _ :: _) _ _)
         refine wpList_store_mid rfl 29 (.tmp 26) (.tmp 25) rfl (w.heap.size + 2) 1 (.agg cs.toArray) rfl rfl HQ5.out (news := cs) rfl (by rw [HL.out]; exact isz_29) (by rw [HL.out]; exact Nat.le_refl 20) HNW.out ?_
         intro w6 cn hbn hxn hgn hzn6
         have HQ6 := Lib.hid hbn
         have HXN := Lib.hid hxn
         have HGN := Lib.hid hgn
         have hkg : Kp [w.heap.size + 2] w5 w6 := (Kp.of_grown hgn).mono (fun x hx _ => by simpa using hx)
         have HRS6 := Lib.hid (HRS5.out.kp hkg (by simp))
         have HB6 := Lib.hid (HB5.out.trans (hkg.below (by simp) HB5.out.size))
         have HR6 := Lib.hid (HR5.out.kp hkg (by simp) (by simp))
         obtain ⟨m0, m1, m2, m3, m4⟩ := HR6.out.cells
         clear hbn hxn hgn hzn6 hkg d0 d1 d2 g1 g2)
      | (go_at_call 63; refine (dEnd _ _ _ _ _ _ _ 0 HR6.out).mono ?_; rintro e wq ⟨rfl, hk, hR⟩; rw [if_pos ⟨rfl, HQL.out⟩] at hR; have HRES := Lib.hid (HRS6.out.kp hk (by simp)); have HBZ := Lib.hid (HB6.out.trans (hk.below (by simp) HB6.out.size)); have HRR := Lib.hid hR; have HQQ := Lib.hid (HQ6.out.kp hk (by simp)); have HKE := Lib.hid hk; obtain ⟨b0, b1, b2, b3, b4⟩ := hR.cells; clear hk hR m0 m1 m2 m3 m4))
    clear b0 b1 b2 b3 b4
    obtain ⟨qi, hqi⟩ : ∃ q : Int, q = (q9 : Int) := ⟨_, rfl⟩
    have HQI := Lib.hid hqi
    have HDP : Hid (wq.cell? ⟨w.heap.size + 1, 1, none⟩ = some (.int .i64 qi)) := by unfold Hid; rw [hqi]; exact HRR.out.cells.2.1
    have HDR : Hid (wq.cell? ⟨w.heap.size + 1, 2, none⟩ = some (.int .i64 21)) := HRR.out.cells.2.2.1
    have hs9 : w.heap.size + 1 < wq.heap.size := HRR.out.lt
    clear hqi
    refine wp_region_stepsC (fun u v => Kp [w.heap.size] u v ∧ (Blk u w.heap.size 44 #[.int .i32 0, .int .i32 0, .string ⟨#[]⟩, .slice none 0 0, .slice none 0 0, .int .i32 0, .int .i32 0, .bool false, .int .i64 0, .int .i64 0, .int .i64 0, .int .i64 0, .slice none 0 0, .slice none 0 0, .slice none 0 0, .slice none 0 0, .slice none 0 0, .int .i32 0, .slice none 0 0, .slice none 0 0] → Blk v w.heap.size 44 #[.int .i32 0, .int .i32 0, .string ⟨#[]⟩, .slice none 0 0, .slice none 0 0, .int .i32 0, .int .i32 0, .bool false, .int .i64 0, .int .i64 0, .int .i64 0, .int .i64 0, .slice none 0 0, .slice none 0 0, .slice none 0 0, .slice none 0 0, .slice none 0 0, .int .i32 0, .slice none 0 0, .slice none 0 0])) [.inl (.agg #[.int .i32 0, .int .i32 0, .string ⟨#[]⟩, .slice none 0 0, .slice none 0 0, .int .i32 0, .int .i32 0, .bool false, .int .i64 0, .int .i64 0, .int .i64 0, .int .i64 0, .slice none 0 0, .slice none 0 0, .slice none 0 0, .slice none 0 0, .slice none 0 0, .int .i32 0, .slice none 0 0, .slice none 0 0]), .inl (.pointer (some ⟨w.heap.size + 1, 0, none⟩)), .inl (.pointer (some ⟨w.heap.size + 1, 0, none⟩)), .inl (.pointer (some ⟨w.heap.size + 1, 1, none⟩)), .inl (.int .i64 qi), .inl (.pointer (some ⟨w.heap.size + 1, 0, none⟩)), .inl (.pointer (some ⟨w.heap.size + 1, 0, none⟩)), .inl (.pointer (some ⟨w.heap.size + 1, 2, none⟩)), .inl (.int .i64 21), .inr (fun _ _ => True), .inl (.int .i64 qi), .inl (.int .i64 21)]
      ⟨Kp.drew, fun h => h.drew⟩ (fun h1 h2 => ⟨h1.1.trans h2.1, fun h => h2.2 (h1.2 h)⟩) (by as_aux_lemma => kernel_rfl) (by as_aux_lemma => kernel_rfl) (by as_aux_lemma => kernel_rfl) (by as_aux_lemma => kernel_rfl) ?_ ⟨?_, ?_, ?_, ?_, ?_, ?_, ?_, ?_, ?_, ?_, ?_, ?_, trivial⟩ ?_
    · intro p hp v W W' h hb
      simp only [List.mem_cons, reduceCtorEq, Sum.inr.injEq, List.not_mem_nil, or_false, false_or] at hp
      subst hp
      trivial
    · intro a W hC hold hdep K hK
      refine step_val (want_free rfl) (v := .agg #[.int .i32 0, .int .i32 0, .string ⟨#[]⟩, .slice none 0 0, .slice none 0 0, .int .i32 0, .int .i32 0, .bool false, .int .i64 0, .int .i64 0, .int .i64 0, .int .i64 0, .slice none 0 0, .slice none 0 0, .slice none 0 0, .slice none 0 0, .slice none 0 0, .int .i32 0, .slice none 0 0, .slice none 0 0]) ?_ (hK _ _ rfl ⟨Kp.refl _ _, id⟩)
      go_simp
    · intro a W hC hold hdep K hK
      exact step_val (want_free rfl) (r_move _ rfl (eval_tmp ((hold 5 (free_slot (by as_aux_lemma => kernel_rfl))).trans rfl))) (hK _ _ rfl ⟨Kp.refl _ _, id⟩)
    · intro a W hC hold hdep K hK
      have e35 := eval_tmp (left_valO (hdep ⟨1, .data⟩ (by simp) rfl (by decide)) rfl (k := 35) rfl)
      refine step_val (want_free rfl) (v := .pointer (some ⟨w.heap.size + 1, 0, none⟩)) ?_ (hK _ _ rfl ⟨Kp.refl _ _, id⟩)
      unfold execOp
      simp only [e35]
      go_simp
    · intro a W hC hold hdep K hK
      have e36 := eval_tmp (left_valO (hdep ⟨2, .data⟩ (by simp) rfl (by decide)) rfl (k := 36) rfl)
      refine step_val (want_free rfl) (v := .pointer (some ⟨w.heap.size + 1, 1, none⟩)) ?_ (hK _ _ rfl ⟨Kp.refl _ _, id⟩)
      unfold execOp
      simp only [e36]
      go_simp
    · intro a W hC hold hdep K hK
      have e37 := eval_tmp (left_valO (hdep ⟨3, .data⟩ (by simp) rfl (by decide)) rfl (k := 37) rfl)
      have hc : W.cell? ⟨w.heap.size + 1, 1, none⟩ = some (.int .i64 qi) := (hC.1.cell (p := ⟨w.heap.size + 1, 1, none⟩) hs9 (by simp)).trans HDP.out
      refine step_val (want_free rfl) (v := .int .i64 qi) ?_ (hK _ _ rfl ⟨Kp.refl _ _, id⟩)
      unfold execOp
      simp only [e37]
      go_simp
    · intro a W hC hold hdep K hK
      exact step_val (want_free rfl) (r_move _ rfl (eval_tmp ((hold 5 (free_slot (by as_aux_lemma => kernel_rfl))).trans rfl))) (hK _ _ rfl ⟨Kp.refl _ _, id⟩)
    · intro a W hC hold hdep K hK
      have e39 := eval_tmp (left_valO (hdep ⟨5, .data⟩ (by simp) rfl (by decide)) rfl (k := 39) rfl)
      refine step_val (want_free rfl) (v := .pointer (some ⟨w.heap.size + 1, 0, none⟩)) ?_ (hK _ _ rfl ⟨Kp.refl _ _, id⟩)
      unfold execOp
      simp only [e39]
      go_simp
    · intro a W hC hold hdep K hK
      have e40 := eval_tmp (left_valO (hdep ⟨6, .data⟩ (by simp) rfl (by decide)) rfl (k := 40) rfl)
      refine step_val (want_free rfl) (v := .pointer (some ⟨w.heap.size + 1, 2, none⟩)) ?_ (hK _ _ rfl ⟨Kp.refl _ _, id⟩)
      unfold execOp
      simp only [e40]
      go_simp
    · intro a W hC hold hdep K hK
      have e41 := eval_tmp (left_valO (hdep ⟨7, .data⟩ (by simp) rfl (by decide)) rfl (k := 41) rfl)
      have hc : W.cell? ⟨w.heap.size + 1, 2, none⟩ = some (.int .i64 21) := (hC.1.cell (p := ⟨w.heap.size + 1, 2, none⟩) hs9 (by simp)).trans HDR.out
      refine step_val (want_free rfl) (v := .int .i64 21) ?_ (hK _ _ rfl ⟨Kp.refl _ _, id⟩)
      unfold execOp
      simp only [e41]
      go_simp
    · intro a W hC hold hdep K hK
      have e2 := eval_tmp ((hold 2 (free_slot (by as_aux_lemma => kernel_rfl))).trans rfl)
      have e56 := eval_tmp (left_valO (hdep ⟨0, .data⟩ (by simp) rfl (by decide)) rfl (k := 34) rfl)
      rw [if_pos (want_free rfl)]
      exact wp_store_row 44 (.tmp 2) (.tmp 34) rfl w.heap.size #[.int .i32 0, .int .i32 0, .string ⟨#[]⟩, .slice none 0 0, .slice none 0 0, .int .i32 0, .int .i32 0, .bool false, .int .i64 0, .int .i64 0, .int .i64 0, .int .i64 0, .slice none 0 0, .slice none 0 0, .slice none 0 0, .slice none 0 0, .slice none 0 0, .int .i32 0, .slice none 0 0, .slice none 0 0] e2 e56 44 #[.int .i32 0, .int .i32 0, .string ⟨#[]⟩, .slice none 0 0, .slice none 0 0, .int .i32 0, .int .i32 0, .bool false, .int .i64 0, .int .i64 0, .int .i64 0, .int .i64 0, .slice none 0 0, .slice none 0 0, .slice none 0 0, .slice none 0 0, .slice none 0 0, .int .i32 0, .slice none 0 0, .slice none 0 0] (hC.2 HRES.out) (by rw [req_size]; rfl) rfl (by simp [Value.oneCell']) (hK _ _ trivial ⟨Kp.setRow _ _, fun h => cells_setRow h⟩)
    · intro a W hC hold hdep K hK
      exact step_val (want_free rfl) (r_assign _ rfl (eval_tmp (left_valO (hdep ⟨4, .data⟩ (by simp) rfl (by decide)) rfl (k := 38) rfl))) (hK _ _ rfl ⟨Kp.refl _ _, id⟩)
    · intro a W hC hold hdep K hK
      exact step_val (want_free rfl) (r_assign _ rfl (eval_tmp (left_valO (hdep ⟨8, .data⟩ (by simp) rfl (by decide)) rfl (k := 42) rfl))) (hK _ _ rfl ⟨Kp.refl _ _, id⟩)
    · intro a W hC hdef hlen hold hall
      have h2 := (hold 2 (free_slot (by as_aux_lemma => kernel_rfl))).trans rfl
      have h3 := left_valO (hall 10 (by decide)) rfl (k := 3) rfl
      have h4 := left_valO (hall 11 (by decide)) rfl (k := 4) rfl
      have hR := hC.2 HRES.out
      have hB : Below w.heap.size w W := HBZ.out.trans (hC.1.below (by simp) HBZ.out.size)
      clear hall hold hlen
      obtain ⟨tm, df⟩ := a
      dsimp only at hdef h2 h3 h4
      subst hdef
      go_wp2
      (try simp only [Exit.inBlock, Exit.then])
      refine bodyPost_ret (results_cell_tmp2 rfl _ _ w.heap.size 44 #[.int .i32 0, .int .i32 0, .string ⟨#[]⟩, .slice none 0 0, .slice none 0 0, .int .i32 0, .int .i32 0, .bool false, .int .i64 0, .int .i64 0, .int .i64 0, .int .i64 0, .slice none 0 0, .slice none 0 0, .slice none 0 0, .slice none 0 0, .slice none 0 0, .int .i32 0, .slice none 0 0, .slice none 0 0] _ (.int .i64 qi) (.int .i64 21) (by rw [Array.getD_eq_getD_getElem?, h2]; rfl) (by rw [Array.getD_eq_getD_getElem?, h3]; rfl) (by rw [Array.getD_eq_getD_getElem?, h4]; rfl) hR Tryz.underlying44 rfl (by rw [req_size]; rfl)) rfl ?_
      refine ⟨hB, ?_⟩
      rw [HD.out, ← HQI.out]
      exact ⟨HNE.out, by have := HQI.out; have := HRR.out.here; omega, rfl⟩
  · have HQN := Lib.hid hq
    clear hq
    refine Lib.hid ?_
    go_wp2_with (first
      | (go_at_call 62
         refine HGT.out.mono ?_
         rintro e w5 ⟨⟨v, rfl, ⟨cs, rfl, hat⟩, _⟩, hkp, hR⟩
         have HAT := Lib.hid hat
         have HL := Lib.hid hat.len
         have HNW : Hid (∀ v ∈ cs, v.oneCell' = true) := fun v hv => (by have := hat.one; rw [Array.all_eq_true_iff_forall_mem] at this; exact this v (by simpa using hv))
         clear hat
         have HQ5 := Lib.hid ((HQ4.out.below HBD.out HQ4.out.lt).kp hkp (by simp; omega))
         have HRS5 := Lib.hid ((HRS4.out.below HBD.out HRS4.out.lt).kp hkp (by simp; omega))
         have HB5 := Lib.hid ((HB4.out.trans (HBD.out.mono HB4.out.size)).trans (hkp.below (by simp; omega) (Nat.le_trans HB4.out.size HBD.out.size)))
         have HR5 := Lib.hid hR
         have hz5 := hkp.size
         clear hkp hR)
      | ((with_reducible show wpList _ _ _ (Oper.mk none (.store _ (.tmp 26) _) _ _ _ _ :: _) _ _)
         refine wpList_store_mid rfl 29 (.tmp 26) (.tmp 25) rfl (w.heap.size + 2) 1 (.agg cs.toArray) rfl rfl HQ5.out (news := cs) rfl (by rw [HL.out]; exact isz_29) (by rw [HL.out]; exact Nat.le_refl 20) HNW.out ?_
         intro w6 cn hbn hxn hgn hzn6
         have HQ6 := Lib.hid hbn
         have HXN := Lib.hid hxn
         have HGN := Lib.hid hgn
         have hkg : Kp [w.heap.size + 2] w5 w6 := (Kp.of_grown hgn).mono (fun x hx _ => by simpa using hx)
         have HRS6 := Lib.hid (HRS5.out.kp hkg (by simp))
         have HB6 := Lib.hid (HB5.out.trans (hkg.below (by simp) HB5.out.size))
         have HR6 := Lib.hid (HR5.out.kp hkg (by simp) (by simp))
         obtain ⟨m0, m1, m2, m3, m4⟩ := HR6.out.cells
         clear hbn hxn hgn hzn6 hkg d0 d1 d2 g1 g2)
      | (go_at_call 63; refine (dEnd _ _ _ _ _ _ _ 0 HR6.out).mono ?_; rintro e wq ⟨rfl, hk, hR⟩; rw [if_neg (fun h => HQN.out h.2)] at hR; have HRES := Lib.hid (HRS6.out.kp hk (by simp)); have HBZ := Lib.hid (HB6.out.trans (hk.below (by simp) HB6.out.size)); have HRR := Lib.hid hR; have HQQ := Lib.hid (HQ6.out.kp hk (by simp)); have HKE := Lib.hid hk; obtain ⟨b0, b1, b2, b3, b4⟩ := hR.cells; clear hk hR m0 m1 m2 m3 m4)
      | (with_reducible refine wpAt 43 ?_
         have hcn : cn = (Value.int .i32 z :: cs).toArray := (by
           apply Array.toList_inj.1
           rw [HXN.out, HL.out]
           simp)
         have HCN := Lib.hid hcn
         have HCI : Hid ((Tryz.prog.info? 44).map (·.size) = some cn.size) := (by unfold Hid; rw [hcn, req_size, List.size_toArray, List.length_cons, HL.out])
         have HCZ : Hid (20 = cn.size) := (by unfold Hid; rw [hcn, List.size_toArray, List.length_cons, HL.out])
         have HCO : Hid (cn.all (·.oneCell') = true) := (by unfold Hid; rw [hcn, Array.all_eq_true_iff_forall_mem]; intro v hv; simp at hv; rcases hv with rfl | hv; rfl; exact HNW.out v hv)
         clear hcn
         refine wpList_load_row rfl 44 (.tmp 6) rfl (w.heap.size + 2) rfl 44 _ _ _ HQQ.out Tryz.underlying44 rfl HCI.out ?_)
      | ((with_reducible show wpList _ _ _ (Oper.mk none (.store _ (.tmp 2) _) _ _ _ _ :: _) _ _)
         refine wpList_store_row rfl 44 (.tmp 2) (.tmp 43) rfl w.heap.size cn rfl rfl 44 _ HRES.out HCI.out HCZ.out HCO.out ?_
         have hbz := cells_setRow (cs := cn) HRES.out
         have hkz : Kp [w.heap.size] wq (wq.setRow w.heap.size cn) := Kp.setRow _ _
         generalize hww : World.setRow _ _ _ = wz at hbz hkz ⊢
         have HBZ2 := Lib.hid hbz
         have HKZ := Lib.hid hkz
         clear hww hbz hkz))
    refine bodyPost_ret (results_cell_tmp2 rfl _ _ w.heap.size 44 cn _ (.int .i64 0) (.int .i64 0) rfl rfl rfl HBZ2.out Tryz.underlying44 rfl HCI.out) rfl ?_
    refine ⟨HBZ.out.trans (HKZ.out.below (by simp) HBZ.out.size), ?_⟩
    rw [decO_eq HOP.out (by have := HQN.out; have := HRR.out.here; omega)]
    have hz9 := HWZ.out
    exact ⟨cs, by rw [HCN.out], (((HAT.out.kp' (Kp.of_grown HGN.out) (by simp; omega)).kp' HKE.out (by simp; omega)).kp' HKZ.out (by simp; omega)).lo' (by omega)⟩
end Go.Proofs.YtpjjnmdfgcfnmaaGreatDoor
