/- The walk of the document's subs, by what Get does. (printed by gen_h5.py) -/
import Derived.Test.YtpjjnmdfgcfnmaaGreatDoorOh4
set_option linter.unusedVariables false
set_option linter.unusedSimpArgs false
namespace Go.Proofs.YtpjjnmdfgcfnmaaGreatDoor
open Go.RowKit

theorem gBool_at {l : List UInt8} {p q : Nat} {b : Bool} (h : gBool l p = .inl (b, q)) : q = p + 1 ∧ q ≤ l.length := by
  unfold gBool at h
  split at h
  · rename_i n q' hn
    obtain ⟨h1, _, h2, _⟩ := gNum_inl hn
    split at h
    · cases h
    · simp only [Sum.inl.injEq, Prod.mk.injEq] at h
      omega
  · cases h
theorem opWith_same {S : Int → Cnt → Rg (List OpC × Cnt)} {t : Int} {k : Cnt} {l : List UInt8} {p : Nat} {x : OpC} {k' : Cnt} {q : Nat} (ht : ¬ t = 14) (h : opWith S t k l p = .inl ((x, k'), q)) : k' = k := by
  unfold opWith at h
  rw [if_neg ht] at h
  split at h
  · cases h
  split at h
  · obtain ⟨_, h1, h2⟩ := map_inl h
    injection h2 with _ h2
    exact h2.symm
  split at h
  · obtain ⟨_, h1, h2⟩ := map_inl h
    injection h2 with _ h2
    exact h2.symm
  · obtain ⟨_, h1, h2⟩ := map_inl h
    injection h2 with _ h2
    exact h2.symm
theorem pre_no {xs : List OpC} {r : ((List OpC × Cnt) × Nat) ⊕ (Int × Nat)} {e : Int × Nat} (h : r = .inr e) : pre xs r = .inr e := by rw [h]; rfl
set_option maxRecDepth 100000 in
set_option maxHeartbeats 40000000 in
theorem rsubs_any (n : Nat) (HG0 : ∀ m, m < n → RGetOk m) : RSubsOk n := fun base R C c p0 A l i inn mr0 k0 w h hC hCR hbC hk1 hk2 hmr hd hrel hp => by
  obtain ⟨i0, hi0, hz0, hzi1, hzi2⟩ := info_parts op_info
  have hRl := h.lt
  have hCl := hC.lt
  have HGET := Lib.hid HG0
  have HCR := Lib.hid hCR
  have HBC := Lib.hid hbC
  obtain ⟨G, hG⟩ : ∃ G, G = gSubs n i k0 l p0 := ⟨_, rfl⟩
  rw [← hG]
  have HS0 : Hid (SLive w base R C c A l i inn mr0 k0.depth n G [] k0 mr0 n p0 (.slice none 0 0) w) := ⟨h, hC, Kp.refl _ _, FlatSt.nil w, Nat.zero_le _, hk1, hk2, rfl, (by
    by_cases hi : i = 22
    · exact .inl ⟨hi, rfl⟩
    · rcases hrel with h | ⟨h1, h2⟩
      · exact absurd h hi
      · exact .inr ⟨hi, h1, h2⟩), hp, by rw [hG]; exact (pre_nil _).symm⟩
  obtain ⟨d, hdd⟩ : ∃ d, d = k0.depth := ⟨_, rfl⟩
  rw [← hdd] at HS0 hd
  have hcells := h.cells
  clear h hC hCR hbC hk1 hk2 hrel hp hG HG0 hdd
  go_enter Tryz.func97, Tryz.ntmps97
  go_wp2
  clear hcells
  go_loopw [9] (fun v9 wr => ∃ (n1 : Nat) (A1 : Option Addr) (c1 : Nat), v9 = .slice A1 n1 c1 ∧ Hid ((∃ Q k mr m p, Q.length = n1 ∧ SLive w base R C c A l i inn mr0 d n G Q k mr m p (.slice A1 n1 c1) wr ∧ m ≤ n) ∨ SDead w base R C c A l G wr)) (fun _ wr => sMeas R l wr)
  case atStart => exact ⟨0, none, 0, rfl, .inl ⟨[], k0, mr0, n, p0, rfl, HS0.out, Nat.le_refl _⟩⟩
  case round =>
    clear HS0
    obtain ⟨n1, A1, c1, rfl, HS⟩ := hrel
    rcases HS.out with ⟨Q, k, mr, m, p, hQ, ⟨hR, hC, hkp, hfl, hql, hk1, hk2', hkd, hrel, hlm, hg⟩, hmn⟩ | ⟨q, er, hR, hne, hkp, hg⟩
    rotate_left
    · obtain ⟨a00, a01, a02, a03, a04⟩ := hR.cells
      have hnb : (er == 0) = false := by simpa using hne
      have HNE := Lib.hid hne
      have HG := Lib.hid hg
      have HR0 := Lib.hid hR
      have HK0 := Lib.hid hkp
      clear hR hne hkp hg HS
      go_wp2
      go_ret
      rw [HG.out]
      exact ⟨⟨_, _, _, rfl⟩, HNE.out, HK0.out, HR0.out⟩
    subst hQ
    obtain ⟨a00, a01, a02, a03, a04⟩ := hR.cells
    obtain ⟨m, rfl⟩ : ∃ m', m = m' + 1 := ⟨m - 1, by omega⟩
    rw [gSubs_succ] at hg
    have HR0 := Lib.hid hR
    have HKW := Lib.hid hkp
    have HK0 : Hid (Kp [R, C] w wr) := hkp
    have HKS : Hid (Kp [R] wr wr) := Kp.refl _ _
    have HCB := Lib.hid hC
    have HFL := Lib.hid hfl
    have HREL := Lib.hid hrel
    have HLM := Lib.hid hlm
    have hwz : w.heap.size ≤ wr.heap.size := hkp.size
    have hRw : R < wr.heap.size := hR.lt
    have hRb : base ≤ R := hR.old
    clear hR hC hkp hfl hrel hlm HS
    have ht := dInt base R A c l p wr HR0.out
    rcases h1 : gInt l p with ⟨t, p1⟩ | ⟨er, p1⟩
    rotate_left
    · -- no type
      have hne := gInt_ne h1
      rw [h1] at ht
      have HT := Lib.hid ht
      have HG : Hid (G = .inr (er, p1)) := hg.trans (pre_no (gb_no h1))
      have hnb : (er == 0) = false := by simpa using hne
      have hnb2 : (er != 0) = true := by simpa using hne
      have HNE := Lib.hid hne
      have HKI := Lib.hid (fun W => refKind_any 0 W)
      clear ht h1 hg hne
      go_wp2_with (first
        | (go_at_call 61; refine (xInt _ _ _ _ _ _ _ _ HNE.out HR4.out).mono ?_; rintro e w6 ⟨rfl, hk, hR⟩; have HK6 := Lib.hid (HK4.out.trans hk); have HR6 := Lib.hid hR; obtain ⟨a60, a61, a62, a63, a64⟩ := hR.cells; clear hk hR a40 a41 a42 a43 a44)
        | (go_at_call 93; refine (xBool _ _ _ _ _ _ _ _ HNE.out HR2.out).mono ?_; rintro e w4 ⟨rfl, hk, hR⟩; have HK4 := Lib.hid (HK2.out.trans hk); have HR4 := Lib.hid hR; obtain ⟨a40, a41, a42, a43, a44⟩ := hR.cells; clear hk hR a20 a21 a22 a23 a24)
        | (go_at_call 12; refine (HKI.out _).mono ?_; rintro e wk ⟨rfl, he⟩; obtain rfl := he.symm)
        | (go_at_call 61; refine HT.out.mono ?_; rintro e w2 ⟨rfl, _, hk, hR⟩; have HK2 := Lib.hid (HKS.out.trans hk); have HR2 := Lib.hid hR; obtain ⟨a20, a21, a22, a23, a24⟩ := hR.cells; clear hk hR a00 a01 a02 a03 a04))
      go_ret
      rw [HG.out]
      exact ⟨⟨_, _, _, rfl⟩, HNE.out, HK0.out.trans HK6.out.two, HR6.out⟩
    have hwf := gInt_wf h1
    have hp1 := (gInt_inl h1).1
    have hp1l := (gInt_inl h1).2.2
    rw [h1] at ht
    have HT := Lib.hid ht
    have hg1 : G = pre (Q.map Prod.fst) (hdrR t i k (gSubs m) l p1) := hg.trans (congrArg (pre _) (gb_ev h1))
    obtain ⟨kn, hkn⟩ : ∃ z, z = kindN t := ⟨_, rfl⟩
    have HKI : Hid (∀ W, Calls Tryz.prog 12 #[.int .i32 t] W fun e w' => e = .returned (.int .i64 kn) ∧ w' = W) := fun W => by rw [hkn]; exact refKind_any t W
    obtain ⟨mb, hmb⟩ : ∃ b, b = mayN t i := ⟨_, rfl⟩
    have HIN : Hid (∀ W, Calls Tryz.prog 75 #[.int .i32 i, .int .i32 t] W fun e w' => e = .returned (.bool mb) ∧ w' = W) := fun W => by rw [hmb]; exact refInner_any t i W
    have HKN := Lib.hid hkn
    have HMB := Lib.hid hmb
    have HWF := Lib.hid hwf
    unfold hdrR at hg1
    rw [← hmb] at hg1
    clear ht hg h1 hkn hmb hwf
    by_cases hbad : (t != -1 && !mb) = true
    · -- a type that may not stand there
      rw [if_pos hbad] at hg1
      have HG : Hid (G = .inr (110, p1)) := hg1
      rw [Bool.and_eq_true] at hbad
      have hb1 : (t != -1) = true := hbad.1
      obtain rfl : mb = false := by simpa using hbad.2
      have HNE : Hid ((110 : Int) ≠ 0) := by unfold Hid; decide
      clear hg1 hbad
      go_wp2_with (first
        | (go_at_call 61; refine (xInt _ _ _ _ _ _ _ _ HNE.out HR4.out).mono ?_; rintro e w6 ⟨rfl, hk, hR⟩; have HK6 := Lib.hid (HK4.out.trans hk); have HR6 := Lib.hid hR; obtain ⟨a60, a61, a62, a63, a64⟩ := hR.cells; clear hk hR a40 a41 a42 a43 a44)
        | (go_at_call 93; refine (xBool _ _ _ _ _ _ _ _ HNE.out HR3.out).mono ?_; rintro e w4 ⟨rfl, hk, hR⟩; have HK4 := Lib.hid (HK3.out.trans hk); have HR4 := Lib.hid hR; obtain ⟨a40, a41, a42, a43, a44⟩ := hR.cells; clear hk hR a30 a31 a32 a33 a34)
        | (go_at_call 89; refine (dFailU _ _ _ _ _ _ _ 110 HR2.out).mono ?_; rintro e w3 ⟨rfl, hk, hR⟩; have HK3 := Lib.hid (HK2.out.trans hk); have HR3 := Lib.hid hR; obtain ⟨a30, a31, a32, a33, a34⟩ := hR.cells; clear hk hR a20 a21 a22 a23 a24)
        | (go_at_call 75; refine (HIN.out _).mono ?_; rintro e wk ⟨rfl, he⟩; obtain rfl := he.symm)
        | (go_at_call 12; refine (HKI.out _).mono ?_; rintro e wk ⟨rfl, he⟩; obtain rfl := he.symm)
        | (go_at_call 61; refine HT.out.mono ?_; rintro e w2 ⟨⟨v, rfl, rfl⟩, hk, hR⟩; have HK2 := Lib.hid (HKS.out.trans hk); have HR2 := Lib.hid hR; obtain ⟨a20, a21, a22, a23, a24⟩ := hR.cells; clear hk hR a00 a01 a02 a03 a04))
      go_ret
      rw [HG.out]
      exact ⟨⟨_, _, _, rfl⟩, HNE.out, HK0.out.trans HK6.out.two, HR6.out⟩
    rw [if_neg hbad] at hg1
    have hcase : ((t == -1) = true ∧ (t != -1) = false) ∨ ((t == -1) = false ∧ (t != -1) = true ∧ mb = true) := by
      by_cases e : t = -1
      · exact .inl ⟨by simpa using e, by simpa using e⟩
      · refine .inr ⟨by simpa using e, by simpa using e, ?_⟩
        cases mb
        · exact absurd (by simpa using e) hbad
        · rfl
    have HT2 : Hid (∀ W, RR W base R A c l p1 0 → Calls Tryz.prog 93 #[.pointer (some ⟨R, 0, none⟩)] W (RefE base R A c l vBool (.bool false) (gBool l p1) W)) := fun W hW => dBool base R A c l p1 W hW
    unfold markR at hg1
    clear hbad
    rcases h2 : gBool l p1 with ⟨b, p2⟩ | ⟨er, p2⟩
    rotate_left
    · have hne := sure_bool _ _ _ _ h2
      rw [h2] at HT2
      have HG : Hid (G = .inr (er, p2)) := hg1.trans (pre_no (gb_no h2))
      have hnb : (er == 0) = false := by simpa using hne
      have hnb2 : (er != 0) = true := by simpa using hne
      have HNE := Lib.hid hne
      clear h2 hg1 hne
      rcases hcase with ⟨e1, e2⟩ | ⟨e1, e2, rfl⟩
      all_goals
        go_wp2_with (first
          | (go_at_call 61; refine (xInt _ _ _ _ _ _ _ _ HNE.out HR4.out).mono ?_; rintro e w6 ⟨rfl, hk, hR⟩; have HK6 := Lib.hid (HK4.out.trans hk); have HR6 := Lib.hid hR; obtain ⟨a60, a61, a62, a63, a64⟩ := hR.cells; clear hk hR a40 a41 a42 a43 a44)
          | (go_at_call 93; refine (HT2.out _ HR2.out).mono ?_; rintro e w4 ⟨rfl, _, hk, hR⟩; have HK4 := Lib.hid (HK2.out.trans hk); have HR4 := Lib.hid hR; obtain ⟨a40, a41, a42, a43, a44⟩ := hR.cells; clear hk hR a20 a21 a22 a23 a24)
          | (go_at_call 75; refine (HIN.out _).mono ?_; rintro e wk ⟨rfl, he⟩; obtain rfl := he.symm)
          | (go_at_call 12; refine (HKI.out _).mono ?_; rintro e wk ⟨rfl, he⟩; obtain rfl := he.symm)
          | (go_at_call 61; refine HT.out.mono ?_; rintro e w2 ⟨⟨v, rfl, rfl⟩, hk, hR⟩; have HK2 := Lib.hid (HKS.out.trans hk); have HR2 := Lib.hid hR; obtain ⟨a20, a21, a22, a23, a24⟩ := hR.cells; clear hk hR a00 a01 a02 a03 a04))
        go_ret
        rw [HG.out]
        exact ⟨⟨_, _, _, rfl⟩, HNE.out, HK0.out.trans HK6.out.two, HR6.out⟩
    rw [h2] at HT2
    have hg2 : G = pre (Q.map Prod.fst) ((if (b != (t == -1)) = true then gFailR 22 else numR b t i k (gSubs m)) l p2) := hg1.trans (congrArg (pre _) (gb_ev h2))
    have hp2 := (gBool_at h2).1
    clear h2 hg1
    by_cases hbb : (b != (t == -1)) = true
    · rw [if_pos hbb] at hg2
      have HG : Hid (G = .inr (22, p2)) := hg2
      have HNE : Hid ((22 : Int) ≠ 0) := by unfold Hid; decide
      clear hg2
      rcases hcase with ⟨e1, e2⟩ | ⟨e1, e2, rfl⟩
      all_goals
        rw [e1] at hbb
        cases b
        all_goals (try (exact absurd hbb (by decide)))
        clear hbb
        go_wp2_with (first
          | (go_at_call 61; refine (xInt _ _ _ _ _ _ _ _ HNE.out HR5.out).mono ?_; rintro e w6 ⟨rfl, hk, hR⟩; have HK6 := Lib.hid (HK5.out.trans hk); have HR6 := Lib.hid hR; obtain ⟨a60, a61, a62, a63, a64⟩ := hR.cells; clear hk hR a50 a51 a52 a53 a54)
          | (go_at_call 89; refine (dFailU _ _ _ _ _ _ _ 22 HR4.out).mono ?_; rintro e w5 ⟨rfl, hk, hR⟩; have HK5 := Lib.hid (HK4.out.trans hk); have HR5 := Lib.hid hR; obtain ⟨a50, a51, a52, a53, a54⟩ := hR.cells; clear hk hR a40 a41 a42 a43 a44)
          | (go_at_call 93; refine (HT2.out _ HR2.out).mono ?_; rintro e w4 ⟨⟨v, rfl, rfl⟩, hk, hR⟩; have HK4 := Lib.hid (HK2.out.trans hk); have HR4 := Lib.hid hR; obtain ⟨a40, a41, a42, a43, a44⟩ := hR.cells; clear hk hR a20 a21 a22 a23 a24)
          | (go_at_call 75; refine (HIN.out _).mono ?_; rintro e wk ⟨rfl, he⟩; obtain rfl := he.symm)
          | (go_at_call 12; refine (HKI.out _).mono ?_; rintro e wk ⟨rfl, he⟩; obtain rfl := he.symm)
          | (go_at_call 61; refine HT.out.mono ?_; rintro e w2 ⟨⟨v, rfl, rfl⟩, hk, hR⟩; have HK2 := Lib.hid (HKS.out.trans hk); have HR2 := Lib.hid hR; obtain ⟨a20, a21, a22, a23, a24⟩ := hR.cells; clear hk hR a00 a01 a02 a03 a04))
        go_ret
        rw [HG.out]
        exact ⟨⟨_, _, _, rfl⟩, HNE.out, HK0.out.trans HK6.out.two, HR6.out⟩
    rw [if_neg hbb] at hg2
    have hbt : b = (t == -1) := by simpa using hbb
    have HT3 : Hid (∀ W, RR W base R A c l p2 0 → Calls Tryz.prog 61 #[.pointer (some ⟨R, 0, none⟩)] W (RefE base R A c l vInt32 (.int .i32 0) (gInt l p2) W)) := fun W hW => dInt base R A c l p2 W hW
    unfold numR at hg2
    clear hbb
    rcases h3 : gInt l p2 with ⟨z, p3⟩ | ⟨er, p3⟩
    rotate_left
    · have hne := gInt_ne h3
      rw [h3] at HT3
      have HG : Hid (G = .inr (er, p3)) := hg2.trans (pre_no (gb_no h3))
      have hnb : (er == 0) = false := by simpa using hne
      have hnb2 : (er != 0) = true := by simpa using hne
      have HNE := Lib.hid hne
      clear h3 hg2 hne
      rcases hcase with ⟨e1, e2⟩ | ⟨e1, e2, rfl⟩
      all_goals
        rw [e1] at hbt
        subst hbt
        go_wp2_with (first
          | (go_at_call 61; refine (HT3.out _ HR4.out).mono ?_; rintro e w6 ⟨rfl, _, hk, hR⟩; have HK6 := Lib.hid (HK4.out.trans hk); have HR6 := Lib.hid hR; obtain ⟨a60, a61, a62, a63, a64⟩ := hR.cells; clear hk hR a40 a41 a42 a43 a44)
          | (go_at_call 93; refine (HT2.out _ HR2.out).mono ?_; rintro e w4 ⟨⟨v, rfl, rfl⟩, hk, hR⟩; have HK4 := Lib.hid (HK2.out.trans hk); have HR4 := Lib.hid hR; obtain ⟨a40, a41, a42, a43, a44⟩ := hR.cells; clear hk hR a20 a21 a22 a23 a24)
          | (go_at_call 75; refine (HIN.out _).mono ?_; rintro e wk ⟨rfl, he⟩; obtain rfl := he.symm)
          | (go_at_call 12; refine (HKI.out _).mono ?_; rintro e wk ⟨rfl, he⟩; obtain rfl := he.symm)
          | (go_at_call 61; refine HT.out.mono ?_; rintro e w2 ⟨⟨v, rfl, rfl⟩, hk, hR⟩; have HK2 := Lib.hid (HKS.out.trans hk); have HR2 := Lib.hid hR; obtain ⟨a20, a21, a22, a23, a24⟩ := hR.cells; clear hk hR a00 a01 a02 a03 a04))
        go_ret
        rw [HG.out]
        exact ⟨⟨_, _, _, rfl⟩, HNE.out, HK0.out.trans HK6.out.two, HR6.out⟩
    rw [h3] at HT3
    have hg3 : G = pre (Q.map Prod.fst) ((if (z != -1) = true then gFailR 22 else itemR b t i k (gSubs m)) l p3) := hg2.trans (congrArg (pre _) (gb_ev h3))
    have hp3 := (gInt_inl h3).1
    have hp3l := (gInt_inl h3).2.2
    clear h3 hg2
    by_cases hz : (z != -1) = true
    · rw [if_pos hz] at hg3
      have HG : Hid (G = .inr (22, p3)) := hg3
      have HNE : Hid ((22 : Int) ≠ 0) := by unfold Hid; decide
      clear hg3
      rcases hcase with ⟨e1, e2⟩ | ⟨e1, e2, rfl⟩
      all_goals
        rw [e1] at hbt
        subst hbt
        go_wp2_with (first
          | (go_at_call 89; refine (dFailU _ _ _ _ _ _ _ 22 HR6.out).mono ?_; rintro e w7 ⟨rfl, hk, hR⟩; have HK7 := Lib.hid (HK6.out.trans hk); have HR7 := Lib.hid hR; obtain ⟨a70, a71, a72, a73, a74⟩ := hR.cells; clear hk hR a60 a61 a62 a63 a64)
          | (go_at_call 61; refine (HT3.out _ HR4.out).mono ?_; rintro e w6 ⟨⟨v, rfl, rfl⟩, hk, hR⟩; have HK6 := Lib.hid (HK4.out.trans hk); have HR6 := Lib.hid hR; obtain ⟨a60, a61, a62, a63, a64⟩ := hR.cells; clear hk hR a40 a41 a42 a43 a44)
          | (go_at_call 93; refine (HT2.out _ HR2.out).mono ?_; rintro e w4 ⟨⟨v, rfl, rfl⟩, hk, hR⟩; have HK4 := Lib.hid (HK2.out.trans hk); have HR4 := Lib.hid hR; obtain ⟨a40, a41, a42, a43, a44⟩ := hR.cells; clear hk hR a20 a21 a22 a23 a24)
          | (go_at_call 75; refine (HIN.out _).mono ?_; rintro e wk ⟨rfl, he⟩; obtain rfl := he.symm)
          | (go_at_call 12; refine (HKI.out _).mono ?_; rintro e wk ⟨rfl, he⟩; obtain rfl := he.symm)
          | (go_at_call 61; refine HT.out.mono ?_; rintro e w2 ⟨⟨v, rfl, rfl⟩, hk, hR⟩; have HK2 := Lib.hid (HKS.out.trans hk); have HR2 := Lib.hid hR; obtain ⟨a20, a21, a22, a23, a24⟩ := hR.cells; clear hk hR a00 a01 a02 a03 a04))
        go_ret
        rw [HG.out]
        exact ⟨⟨_, _, _, rfl⟩, HNE.out, HK0.out.trans HK7.out.two, HR7.out⟩
    rw [if_neg hz] at hg3
    have hzb : (z != -1) = false := by simpa using hz
    unfold itemR at hg3
    clear hz
    rcases hcase with ⟨e1, e2⟩ | ⟨e1, e2, rfl⟩
    · -- the end
      rw [e1] at hbt
      subst hbt
      rw [if_pos rfl] at hg3
      have HG : Hid (G = .inl ((Q.map Prod.fst, k), p3)) := by
        unfold Hid
        rw [hg3]
        show (Sum.inl ((Q.map Prod.fst ++ [], k), p3) : ((List OpC × Cnt) × Nat) ⊕ (Int × Nat)) = _
        rw [List.append_nil]
      clear hg3
      go_wp2_with (first
        | (go_at_call 61; refine (HT3.out _ HR4.out).mono ?_; rintro e w6 ⟨⟨v, rfl, rfl⟩, hk, hR⟩; have HK6 := Lib.hid (HK4.out.trans hk); have HR6 := Lib.hid hR; obtain ⟨a60, a61, a62, a63, a64⟩ := hR.cells; clear hk hR a40 a41 a42 a43 a44)
        | (go_at_call 93; refine (HT2.out _ HR2.out).mono ?_; rintro e w4 ⟨⟨v, rfl, rfl⟩, hk, hR⟩; have HK4 := Lib.hid (HK2.out.trans hk); have HR4 := Lib.hid hR; obtain ⟨a40, a41, a42, a43, a44⟩ := hR.cells; clear hk hR a20 a21 a22 a23 a24)
        | (go_at_call 75; refine (HIN.out _).mono ?_; rintro e wk ⟨rfl, he⟩; obtain rfl := he.symm)
        | (go_at_call 12; refine (HKI.out _).mono ?_; rintro e wk ⟨rfl, he⟩; obtain rfl := he.symm)
        | (go_at_call 61; refine HT.out.mono ?_; rintro e w2 ⟨⟨v, rfl, rfl⟩, hk, hR⟩; have HK2 := Lib.hid (HKS.out.trans hk); have HR2 := Lib.hid hR; obtain ⟨a20, a21, a22, a23, a24⟩ := hR.cells; clear hk hR a00 a01 a02 a03 a04))
      go_ret
      rw [HG.out]
      refine ⟨⟨_, _, Q, rfl, rfl, by omega, ?_, ?_⟩, HK0.out.trans HK6.out.two, HR6.out⟩
      · exact HFL.out.kp HK6.out (by simp; omega)
      · have hcc : mr = (if i = 22 then mr0 else k.multis) := by
          rcases HREL.out with ⟨h1, h2⟩ | ⟨h1, h2, _⟩
          · rw [if_pos h1]; exact h2
          · rw [if_neg h1]; exact h2
        rw [← hcc]
        exact HCB.out.kp HK6.out (by simpa using HCR.out)
    -- a part
    rw [e1] at hbt
    subst hbt
    rw [if_neg (by decide)] at hg3
    have HG3 := Lib.hid hg3
    clear hg3
    go_wp2_with (first
      | (go_at_call 61; refine (HT3.out _ HR4.out).mono ?_; rintro e w6 ⟨⟨v, rfl, rfl⟩, hk, hR⟩; have HK6 := Lib.hid (HK4.out.trans hk); have HR6 := Lib.hid hR; obtain ⟨a60, a61, a62, a63, a64⟩ := hR.cells; clear hk hR a40 a41 a42 a43 a44; refine Hid.out ?_)
      | (go_at_call 93; refine (HT2.out _ HR2.out).mono ?_; rintro e w4 ⟨⟨v, rfl, rfl⟩, hk, hR⟩; have HK4 := Lib.hid (HK2.out.trans hk); have HR4 := Lib.hid hR; obtain ⟨a40, a41, a42, a43, a44⟩ := hR.cells; clear hk hR a20 a21 a22 a23 a24)
      | (go_at_call 75; refine (HIN.out _).mono ?_; rintro e wk ⟨rfl, he⟩; obtain rfl := he.symm)
      | (go_at_call 12; refine (HKI.out _).mono ?_; rintro e wk ⟨rfl, he⟩; obtain rfl := he.symm)
      | (go_at_call 61; refine HT.out.mono ?_; rintro e w2 ⟨⟨v, rfl, rfl⟩, hk, hR⟩; have HK2 := Lib.hid (HKS.out.trans hk); have HR2 := Lib.hid hR; obtain ⟨a20, a21, a22, a23, a24⟩ := hR.cells; clear hk hR a00 a01 a02 a03 a04))
    refine Lib.hid ?_
    have hC6 : Blk w6 C 98 (cRow k.parts mr) := HCB.out.kp HK6.out (by simpa using HCR.out)
    have h6R := HR6.out.lt
    have h6z := HK6.out.size
    have hmrl : mr ≤ 1024 := by
      rcases HREL.out with ⟨_, h⟩ | ⟨_, h, _⟩ <;> omega
    have HP3 : Hid (l.length - p3 < m ∧ p3 ≤ l.length ∧ p < p3) := by have := HLM.out; unfold Hid; omega
    have HC6 := Lib.hid hC6
    have HPQ : Hid (Q.length ≤ k.parts + k.multis) := hql
    clear hC6
    by_cases hk2 : kn = 2
    · have ht14 : t = 14 := kind_14.1 (by rw [← HKN.out]; exact hk2)
      have hi22 : ¬ i = 22 := fun e => by
        have h := HMB.out
        rw [ht14, e] at h
        exact absurd h (by decide)
      obtain ⟨hmk, hinn⟩ : mr = k.multis ∧ inn = d := by
        rcases HREL.out with ⟨h, _⟩ | ⟨_, h⟩
        · exact absurd h hi22
        · exact h
      have HI22 := Lib.hid hi22
      have HMK := Lib.hid hmk
      have HINN := Lib.hid hinn
      have HT14 := Lib.hid ht14
      have kc1 : w6.cell? ⟨C, 1, none⟩ = some (.int .i64 (mr : Int)) := blk_cell HC6.out 1 rfl
      have kf1 := HC6.out.frozen 1
      obtain ⟨w7, hw7⟩ : ∃ w7, w6.setCell ⟨C, 1, none⟩ (.int .i64 ((mr : Int) + 1)) = w7 := ⟨_, rfl⟩
      have hb7 : Blk w7 C 98 (cRow k.parts (mr + 1)) := by
        rw [← hw7]
        have := HC6.out.set_ 1 (.int .i64 ((mr : Int) + 1))
        simpa [cRow] using this
      have hd0 : w7.cell? ⟨C, 0, none⟩ = some (.int .i64 (k.parts : Int)) := blk_cell hb7 0 rfl
      have hd1 : w7.cell? ⟨C, 1, none⟩ = some (.int .i64 ((mr : Int) + 1)) := by
        rw [blk_cell hb7 1 (u := .int .i64 ((mr + 1 : Nat) : Int)) rfl, Int.natCast_add]; rfl
      have HB7 := Lib.hid hb7
      have HR7 : Hid (RR w7 base R A c l p3 0) := by unfold Hid; rw [← hw7]; exact HR6.out.set (fun e => HCR.out e.symm) HBC.out 1 _
      have HK7 : Hid (Kp [R, C] wr w7) := by unfold Hid; rw [← hw7]; exact HK6.out.two.set_in (by simp) 1 _
      have HMO : Hid (k.more t = ⟨k.parts, k.multis + 1, k.depth⟩) := by unfold Hid; rw [ht14]; exact more_multis
      clear hb7 ht14 hi22 hmk hinn
      subst hk2
      have hpp : ¬ (1024 : Int) < k.parts := by omega
      by_cases hbig : (1024 : Int) < (mr : Int) + 1 ∨ inn = 8
      · have HG : Hid (G = .inr (3, p3)) := HG3.out.trans (pre_no (by
          rw [HMO.out, if_pos]
          · rfl
          · have h1 := HMK.out
            have h2 := HINN.out
            have h3 := HKN.out
            unfold Cnt.big
            rw [← h3]
            dsimp only
            rcases hbig with h | h
            · rw [show decide (((k.multis + 1 : Nat) : Int) > 1024) = true from decide_eq_true (by omega)]; rfl
            · rw [show ((k.depth : Int) == 8) = true by rw [hkd, ← h2, h]; rfl]; simp))
        have HNE : Hid ((3 : Int) ≠ 0) := by unfold Hid; decide
        rcases (by omega : (1024 : Int) < (mr : Int) + 1 ∨ (¬ (1024 : Int) < (mr : Int) + 1 ∧ inn = 8)) with hb | ⟨hb, rfl⟩
        all_goals
          clear hbig
          go_wp2_with ((go_at_call 89; refine (dFailU _ _ _ _ _ _ _ 3 HR7.out).mono ?_; rintro e w8 ⟨rfl, hk, hR⟩; have HK8 := Lib.hid hk; have HR8 := Lib.hid hR; clear hk hR))
          go_ret
          rw [HG.out]
          exact ⟨⟨_, _, _, rfl⟩, HNE.out, HK0.out.trans (HK7.out.trans HK8.out.two), HR8.out⟩
      · have hb : ¬ (1024 : Int) < (mr : Int) + 1 := fun h => hbig (.inl h)
        have h8 : (inn == 8) = false := by simpa using fun h => hbig (.inr h)
        have hget := HGET.out m (by omega) base R C c p3 A l t inn k.parts (mr + 1) (k.more t) w7 HWF.out HR7.out HB7.out HCR.out HBC.out (by rw [HMO.out]; exact hk1) (by rw [HMO.out]; dsimp only; have := HMK.out; omega) (fun _ => by rw [HMO.out]; have := HMK.out; have := HINN.out; have h := hbig; dsimp only; refine ⟨rfl, by omega, by omega, by omega⟩) HP3.out.1
        have HG4 : Hid (G = pre (Q.map Prod.fst) (itemOf (gSubs m) i t k l p3)) := by
          unfold Hid
          rw [HG3.out, if_neg]
          rw [HMO.out]
          have h1 := HMK.out
          have h2 := HINN.out
          unfold Cnt.big
          dsimp only
          rw [show decide (((k.multis + 1 : Nat) : Int) > 1024) = false from decide_eq_false (by omega), show decide ((k.parts : Int) > 1024) = false from decide_eq_false (by omega), show ((k.depth : Int) == 8) = false by rw [hkd, ← h2]; exact h8]
          simp
        have HCW : Hid (C < w.heap.size) := hCl
        have HMOK : Hid (k.more t).Ok := by unfold Hid; rw [HMO.out]; exact ⟨hk1, by dsimp only; have := HMK.out; omega, by dsimp only; omega⟩
        have H14 : Hid (t = 14 → (k.more t).depth < 8) := fun _ => by rw [HMO.out]; have := HINN.out; have h := hbig; dsimp only; omega
        clear hbig
        have hkz7 := HK7.out.size
        have HQB : Hid (Q.length ≤ 2048) := by unfold Hid; omega
        have hqb := HQB.out
        rcases h4 : opWith (gSubs m) t (k.more t) l p3 with ⟨⟨x, k'⟩, q⟩ | ⟨er, q⟩
        rotate_left
        · rw [h4] at hget
          have HGT := Lib.hid hget
          have HG : Hid (G = .inr (er, q)) := HG4.out.trans (pre_itemno _ h4)
          clear hget h4
          go_wp2_with (first
            | (go_at_call 62
               refine HGT.out.mono ?_
               rintro e w9 ⟨⟨cs, rfl, hlen, hone⟩, hne9, hkp9, hR9⟩
               have HNE := Lib.hid hne9
               have HLEN := Lib.hid hlen
               have HONE := Lib.hid hone
               clear hlen hone hne9
               have HKG := Lib.hid hkp9
               have HRG := Lib.hid hR9
               have hz9 : w7.heap.size ≤ w9.heap.size := hkp9.size
               have HK9 : Hid (Kp [R, C] wr w9) := HK7.out.trans hkp9
               have HRS : Hid ((Value.agg cs.toArray).cells.size = 19) := (by unfold Hid; show cs.toArray.size = 19; rw [List.size_toArray]; exact HLEN.out)
               clear hkp9 hR9)
            | (refine wpList_build1 rfl 27 29 (.tmp 121) rfl (.agg cs.toArray) rfl 19 Tryz.underlying27 isz_29 zer_op (by decide) HRS.out ?_
               obtain ⟨wx, hwx⟩ : ∃ wx, w9.alloc (.cells cs.toArray 29) = wx := ⟨_, rfl⟩
               have hcx : (Value.agg cs.toArray).cells = cs.toArray := rfl
               rw [hcx, hwx]
               have HBX := Lib.hid (newB hwx)
               have hnx : Blk wx w9.heap.size 29 cs.toArray := newK hwx
               have HKX : Hid (Kp [R, C] wr wx) := HK9.out.later (newB hwx)
               have HFX : Hid (FlatSt w.heap.size (.slice A1 Q.length c1) Q wx) := HFL.out.kp HKX.out (by simp; omega)
               have HRX : Hid (Reads wx wx.heap.size 19 (some ⟨w9.heap.size, 0, none⟩) 1 cs) := ⟨(by rw [HLEN.out]), fun _ => ⟨⟨w9.heap.size, 0, none⟩, rfl, hnx.lt, fun j u hj => (by rw [Go.WideShapes.add_plain, Nat.zero_add, hnx.cell]; simpa using hj)⟩⟩
               have HOX : Hid (∀ u ∈ cs, u.oneCell' = true) := fun v hv => (by
                 have := HONE.out
                 rw [Array.all_eq_true_iff_forall_mem] at this
                 exact this v (by simpa using hv))
               have HOW : Hid (wx.ownsRow w.heap.size 29 19 (.slice A1 Q.length c1) Q.length (Q.flatMap Prod.snd)) := HFX.out.own
               clear hwx hcx hnx)
            | (at_builtin
               refine wpList_append_any _ rfl (.tmp 116) (.tmp 122) _ rfl w.heap.size 29 i0 _ 19 296 Tryz.underlying27 hi0 hz0 hzi1 hzi2 rfl (by decide) (.slice A1 Q.length c1) Q.length (Q.flatMap Prod.snd) rfl HOW.out wx.heap.size (some ⟨w9.heap.size, 0, none⟩) 1 1 cs rfl HRX.out HOX.out (by unfold maxLen; omega) (by omega) HFX.out.bs ?_
               intro vy wy howny hgy haty
               obtain ⟨Ay, cy, rfl⟩ := slice_form howny
               have HOWN := Lib.hid howny
               have HGY := Lib.hid hgy
               have HAY := Lib.hid haty
               clear howny hgy haty))
          have hoy : ∀ y ∈ (Value.slice A1 Q.length c1).ownBlock.toList, w.heap.size ≤ y := fun y hy => (HFX.out.own.lt y (by simpa using hy)).1
          have hky : Kp [R, C] w wy := (HK0.out.trans HKX.out).to (Kp.of_grown HGY.out) (fun _ h _ => h) (fun y hy hl => by have := hoy _ hy; omega)
          have hRy : RR wy base R A c l q er := (HRG.out.later HBX.out).kp (Kp.of_grown HGY.out) (fun hy => by have := hoy _ hy; have := HFL.out.bs; have := HR0.out.lt; have := HKW.out.size; omega) (fun y hy => by have := hoy _ hy; have := HR0.out.old; omega)
          have HSN : Hid ((∃ Q k mr m p, Q.length = Q.length ∧ SLive w base R C c A l i inn mr0 d n G Q k mr m p (.slice Ay (Q.length + 1) cy) wy ∧ m ≤ n) ∨ SDead w base R C c A l G wy) := .inr ⟨q, er, hRy, HNE.out, hky, HG.out⟩
          have HMS : Hid (sMeas R l wy < sMeas R l wr) := by unfold Hid; rw [sMeas_dead hRy HNE.out, sMeas_live HR0.out]; have := HP3.out; omega
          have HSD : Hid (SDead w base R C c A l G wy) := ⟨q, er, hRy, HNE.out, hky, HG.out⟩
          clear hoy hky hRy HSN
          go_roundw
          case rel => exact ⟨Q.length + 1, Ay, cy, rfl, .inr HSD.out⟩
          case measure => exact HMS.out
        rw [h4] at hget
        have HGT := Lib.hid hget
        have HG : Hid (G = pre (Q.map Prod.fst ++ [x]) (gSubs m i k' l q)) := HG4.out.trans (pre_item _ h4)
        have HMN := Lib.hid (opWith_mono (subs_mono m) h4)
        have hfo := op_forth (subs_forth m) h4 HP3.out.2.1 HMOK.out H14.out
        have HFO : Hid (p3 ≤ q ∧ q ≤ l.length) := ⟨hfo.1.2.1, hfo.1.2.2⟩
        clear hget h4 hfo
        go_wp2_with (first
          | (go_at_call 62
             refine HGT.out.mono ?_
             rintro e w9 ⟨⟨v, rfl, ⟨cs, rfl, hat⟩, hcb9⟩, hkp9, hR9⟩
             have HAT := Lib.hid hat
             have HCB9 := Lib.hid hcb9
             have HLEN := Lib.hid hat.len
             have HONE := Lib.hid hat.one
             clear hat hcb9
             have HKG := Lib.hid hkp9
             have HRG := Lib.hid hR9
             have hz9 : w7.heap.size ≤ w9.heap.size := hkp9.size
             have HK9 : Hid (Kp [R, C] wr w9) := HK7.out.trans hkp9
             have HRS : Hid ((Value.agg cs.toArray).cells.size = 19) := (by unfold Hid; show cs.toArray.size = 19; rw [List.size_toArray]; exact HLEN.out)
             clear hkp9 hR9)
          | (refine wpList_build1 rfl 27 29 (.tmp 121) rfl (.agg cs.toArray) rfl 19 Tryz.underlying27 isz_29 zer_op (by decide) HRS.out ?_
             obtain ⟨wx, hwx⟩ : ∃ wx, w9.alloc (.cells cs.toArray 29) = wx := ⟨_, rfl⟩
             have hcx : (Value.agg cs.toArray).cells = cs.toArray := rfl
             rw [hcx, hwx]
             have HBX := Lib.hid (newB hwx)
             have hnx : Blk wx w9.heap.size 29 cs.toArray := newK hwx
             have HKX : Hid (Kp [R, C] wr wx) := HK9.out.later (newB hwx)
             have HFX : Hid (FlatSt w.heap.size (.slice A1 Q.length c1) Q wx) := HFL.out.kp HKX.out (by simp; omega)
             have HRX : Hid (Reads wx wx.heap.size 19 (some ⟨w9.heap.size, 0, none⟩) 1 cs) := ⟨(by rw [HLEN.out]), fun _ => ⟨⟨w9.heap.size, 0, none⟩, rfl, hnx.lt, fun j u hj => (by rw [Go.WideShapes.add_plain, Nat.zero_add, hnx.cell]; simpa using hj)⟩⟩
             have HOX : Hid (∀ u ∈ cs, u.oneCell' = true) := fun v hv => (by
               have := HONE.out
               rw [Array.all_eq_true_iff_forall_mem] at this
               exact this v (by simpa using hv))
             have HOW : Hid (wx.ownsRow w.heap.size 29 19 (.slice A1 Q.length c1) Q.length (Q.flatMap Prod.snd)) := HFX.out.own
             clear hwx hcx hnx)
          | (at_builtin
             refine wpList_append_any _ rfl (.tmp 116) (.tmp 122) _ rfl w.heap.size 29 i0 _ 19 296 Tryz.underlying27 hi0 hz0 hzi1 hzi2 rfl (by decide) (.slice A1 Q.length c1) Q.length (Q.flatMap Prod.snd) rfl HOW.out wx.heap.size (some ⟨w9.heap.size, 0, none⟩) 1 1 cs rfl HRX.out HOX.out (by unfold maxLen; omega) (by omega) HFX.out.bs ?_
             intro vy wy howny hgy haty
             obtain ⟨Ay, cy, rfl⟩ := slice_form howny
             have HOWN := Lib.hid howny
             have HGY := Lib.hid hgy
             have HAY := Lib.hid haty
             clear howny hgy haty))
        have hoy : ∀ y ∈ (Value.slice A1 Q.length c1).ownBlock.toList, w.heap.size ≤ y := fun y hy => (HFX.out.own.lt y (by simpa using hy)).1
        have hky : Kp [R, C] w wy := (HK0.out.trans HKX.out).to (Kp.of_grown HGY.out) (fun _ h _ => h) (fun y hy hl => by have := hoy _ hy; omega)
        have hRy : RR wy base R A c l q 0 := (HRG.out.later HBX.out).kp (Kp.of_grown HGY.out) (fun hy => by have := hoy _ hy; have := HFL.out.bs; have := HR0.out.lt; have := HKW.out.size; omega) (fun y hy => by have := hoy _ hy; have := HR0.out.old; omega)
        have hCy : Blk wy C 98 (cRow k'.parts k'.multis) := by
          have h1 := (HCB9.out.below HBX.out HCB9.out.lt).kp (Kp.of_grown HGY.out) (fun hy => by have := hoy _ hy; have := HCW.out; omega)
          rwa [if_pos HT14.out] at h1
        have hfy : FlatSt w.heap.size (.slice Ay (Q.length + 1) cy) (Q ++ [(x, cs)]) wy := HFX.out.snoc (r := (x, cs)) (Win.new (HAT.out.later HBX.out)) (by have := HKW.out.size; omega) (fun g hg => Nat.lt_of_lt_of_le (HFL.out.lt hg) hkz7) HOWN.out HGY.out HAY.out
        obtain ⟨mn1, mn2, mn3, mn4⟩ := HMN.out
        obtain ⟨ml1, ml2, ml3, ml4⟩ := more_le k t
        have mn5 := mn4 HMOK.out.parts HMOK.out.multis
        have HSL : Hid (SLive w base R C c A l i inn mr0 d n G (Q ++ [(x, cs)]) k' k'.multis m q (.slice Ay (Q.length + 1) cy) wy) := ⟨hRy, hCy, hky, hfy, by rw [List.length_append, List.length_singleton]; have := HPQ.out; omega, mn5.1, mn5.2, by rw [mn3, ml3]; exact hkd, by exact .inr ⟨HI22.out, rfl, HINN.out⟩, by have := HP3.out; have := HFO.out; omega, by rw [List.map_append]; exact HG.out⟩
        have HMS : Hid (sMeas R l wy < sMeas R l wr) := by unfold Hid; rw [sMeas_live hRy, sMeas_live HR0.out]; have := HP3.out; have := HFO.out; omega
        clear hoy hky hRy hCy hfy mn1 mn2 mn3 mn4 mn5 ml1 ml2 ml3 ml4
        go_roundw
        case rel => exact ⟨Q.length + 1, Ay, cy, rfl, .inl ⟨_, _, _, _, _, by rw [List.length_append]; rfl, HSL.out, by omega⟩⟩
        case measure => exact HMS.out
    · have hn14 : ¬ t = 14 := fun e => hk2 (HKN.out.trans (kind_14.2 e))
      have hkf : (kn == 2) = false := by simpa using hk2
      have HN14 := Lib.hid hn14
      have kc0 : w6.cell? ⟨C, 0, none⟩ = some (.int .i64 (k.parts : Int)) := blk_cell HC6.out 0 rfl
      have kf0 := HC6.out.frozen 0
      obtain ⟨w7, hw7⟩ : ∃ w7, w6.setCell ⟨C, 0, none⟩ (.int .i64 ((k.parts : Int) + 1)) = w7 := ⟨_, rfl⟩
      have hb7 : Blk w7 C 98 (cRow (k.parts + 1) mr) := by
        rw [← hw7]
        have := HC6.out.set_ 0 (.int .i64 ((k.parts : Int) + 1))
        simpa [cRow] using this
      have hd1 : w7.cell? ⟨C, 1, none⟩ = some (.int .i64 (mr : Int)) := blk_cell hb7 1 rfl
      have hd0 : w7.cell? ⟨C, 0, none⟩ = some (.int .i64 ((k.parts : Int) + 1)) := by
        rw [blk_cell hb7 0 (u := .int .i64 ((k.parts + 1 : Nat) : Int)) rfl, Int.natCast_add]; rfl
      have HB7 := Lib.hid hb7
      have HR7 : Hid (RR w7 base R A c l p3 0) := by unfold Hid; rw [← hw7]; exact HR6.out.set (fun e => HCR.out e.symm) HBC.out 0 _
      have HK7 : Hid (Kp [R, C] wr w7) := by unfold Hid; rw [← hw7]; exact HK6.out.two.set_in (by simp) 0 _
      have HMO : Hid (k.more t = ⟨k.parts + 1, k.multis, k.depth⟩) := more_parts hn14
      have HKF : Hid ((kindN t == 2) = false) := by unfold Hid; rw [← HKN.out]; exact hkf
      clear hb7 hn14
      have hpm : ¬ (1024 : Int) < mr := by omega
      by_cases hbig : (1024 : Int) < (k.parts : Int) + 1
      · have HG : Hid (G = .inr (3, p3)) := HG3.out.trans (pre_no (by
          rw [HMO.out, if_pos]
          · rfl
          · unfold Cnt.big
            dsimp only
            rw [show decide (((k.parts + 1 : Nat) : Int) > 1024) = true from decide_eq_true (by omega)]
            simp))
        have HNE : Hid ((3 : Int) ≠ 0) := by unfold Hid; decide
        go_wp2_with ((go_at_call 89; refine (dFailU _ _ _ _ _ _ _ 3 HR7.out).mono ?_; rintro e w8 ⟨rfl, hk, hR⟩; have HK8 := Lib.hid hk; have HR8 := Lib.hid hR; clear hk hR))
        go_ret
        rw [HG.out]
        exact ⟨⟨_, _, _, rfl⟩, HNE.out, HK0.out.trans (HK7.out.trans HK8.out.two), HR8.out⟩
      · have hget := HGET.out m (by omega) base R C c p3 A l t inn (k.parts + 1) mr (k.more t) w7 HWF.out HR7.out HB7.out HCR.out HBC.out (by rw [HMO.out]; dsimp only; omega) (by rw [HMO.out]; exact hk2') (fun h => absurd h HN14.out) HP3.out.1
        have HG4 : Hid (G = pre (Q.map Prod.fst) (itemOf (gSubs m) i t k l p3)) := by
          unfold Hid
          rw [HG3.out, if_neg]
          rw [HMO.out]
          unfold Cnt.big
          dsimp only
          rw [show decide (((k.parts + 1 : Nat) : Int) > 1024) = false from decide_eq_false (by omega), show decide ((k.multis : Int) > 1024) = false from decide_eq_false (by omega), HKF.out]
          simp
        have HCW : Hid (C < w.heap.size) := hCl
        have HMOK : Hid (k.more t).Ok := by unfold Hid; rw [HMO.out]; exact ⟨by dsimp only; omega, hk2', by dsimp only; omega⟩
        have H14 : Hid (t = 14 → (k.more t).depth < 8) := fun h => absurd h HN14.out
        have hkz7 := HK7.out.size
        have HQB : Hid (Q.length ≤ 2048) := by unfold Hid; omega
        have hqb := HQB.out
        rcases h4 : opWith (gSubs m) t (k.more t) l p3 with ⟨⟨x, k'⟩, q⟩ | ⟨er, q⟩
        rotate_left
        · rw [h4] at hget
          have HGT := Lib.hid hget
          have HG : Hid (G = .inr (er, q)) := HG4.out.trans (pre_itemno _ h4)
          clear hget h4
          go_wp2_with (first
            | (go_at_call 62
               refine HGT.out.mono ?_
               rintro e w9 ⟨⟨cs, rfl, hlen, hone⟩, hne9, hkp9, hR9⟩
               have HNE := Lib.hid hne9
               have HLEN := Lib.hid hlen
               have HONE := Lib.hid hone
               clear hlen hone hne9
               have HKG := Lib.hid hkp9
               have HRG := Lib.hid hR9
               have hz9 : w7.heap.size ≤ w9.heap.size := hkp9.size
               have HK9 : Hid (Kp [R, C] wr w9) := HK7.out.trans hkp9
               have HRS : Hid ((Value.agg cs.toArray).cells.size = 19) := (by unfold Hid; show cs.toArray.size = 19; rw [List.size_toArray]; exact HLEN.out)
               clear hkp9 hR9)
            | (refine wpList_build1 rfl 27 29 (.tmp 121) rfl (.agg cs.toArray) rfl 19 Tryz.underlying27 isz_29 zer_op (by decide) HRS.out ?_
               obtain ⟨wx, hwx⟩ : ∃ wx, w9.alloc (.cells cs.toArray 29) = wx := ⟨_, rfl⟩
               have hcx : (Value.agg cs.toArray).cells = cs.toArray := rfl
               rw [hcx, hwx]
               have HBX := Lib.hid (newB hwx)
               have hnx : Blk wx w9.heap.size 29 cs.toArray := newK hwx
               have HKX : Hid (Kp [R, C] wr wx) := HK9.out.later (newB hwx)
               have HFX : Hid (FlatSt w.heap.size (.slice A1 Q.length c1) Q wx) := HFL.out.kp HKX.out (by simp; omega)
               have HRX : Hid (Reads wx wx.heap.size 19 (some ⟨w9.heap.size, 0, none⟩) 1 cs) := ⟨(by rw [HLEN.out]), fun _ => ⟨⟨w9.heap.size, 0, none⟩, rfl, hnx.lt, fun j u hj => (by rw [Go.WideShapes.add_plain, Nat.zero_add, hnx.cell]; simpa using hj)⟩⟩
               have HOX : Hid (∀ u ∈ cs, u.oneCell' = true) := fun v hv => (by
                 have := HONE.out
                 rw [Array.all_eq_true_iff_forall_mem] at this
                 exact this v (by simpa using hv))
               have HOW : Hid (wx.ownsRow w.heap.size 29 19 (.slice A1 Q.length c1) Q.length (Q.flatMap Prod.snd)) := HFX.out.own
               clear hwx hcx hnx)
            | (at_builtin
               refine wpList_append_any _ rfl (.tmp 116) (.tmp 122) _ rfl w.heap.size 29 i0 _ 19 296 Tryz.underlying27 hi0 hz0 hzi1 hzi2 rfl (by decide) (.slice A1 Q.length c1) Q.length (Q.flatMap Prod.snd) rfl HOW.out wx.heap.size (some ⟨w9.heap.size, 0, none⟩) 1 1 cs rfl HRX.out HOX.out (by unfold maxLen; omega) (by omega) HFX.out.bs ?_
               intro vy wy howny hgy haty
               obtain ⟨Ay, cy, rfl⟩ := slice_form howny
               have HOWN := Lib.hid howny
               have HGY := Lib.hid hgy
               have HAY := Lib.hid haty
               clear howny hgy haty))
          have hoy : ∀ y ∈ (Value.slice A1 Q.length c1).ownBlock.toList, w.heap.size ≤ y := fun y hy => (HFX.out.own.lt y (by simpa using hy)).1
          have hky : Kp [R, C] w wy := (HK0.out.trans HKX.out).to (Kp.of_grown HGY.out) (fun _ h _ => h) (fun y hy hl => by have := hoy _ hy; omega)
          have hRy : RR wy base R A c l q er := (HRG.out.later HBX.out).kp (Kp.of_grown HGY.out) (fun hy => by have := hoy _ hy; have := HFL.out.bs; have := HR0.out.lt; have := HKW.out.size; omega) (fun y hy => by have := hoy _ hy; have := HR0.out.old; omega)
          have HSN : Hid ((∃ Q k mr m p, Q.length = Q.length ∧ SLive w base R C c A l i inn mr0 d n G Q k mr m p (.slice Ay (Q.length + 1) cy) wy ∧ m ≤ n) ∨ SDead w base R C c A l G wy) := .inr ⟨q, er, hRy, HNE.out, hky, HG.out⟩
          have HMS : Hid (sMeas R l wy < sMeas R l wr) := by unfold Hid; rw [sMeas_dead hRy HNE.out, sMeas_live HR0.out]; have := HP3.out; omega
          have HSD : Hid (SDead w base R C c A l G wy) := ⟨q, er, hRy, HNE.out, hky, HG.out⟩
          clear hoy hky hRy HSN
          go_roundw
          case rel => exact ⟨Q.length + 1, Ay, cy, rfl, .inr HSD.out⟩
          case measure => exact HMS.out
        rw [h4] at hget
        have HGT := Lib.hid hget
        have HG : Hid (G = pre (Q.map Prod.fst ++ [x]) (gSubs m i k' l q)) := HG4.out.trans (pre_item _ h4)
        have HMN := Lib.hid (opWith_mono (subs_mono m) h4)
        have hfo := op_forth (subs_forth m) h4 HP3.out.2.1 HMOK.out H14.out
        have HFO : Hid (p3 ≤ q ∧ q ≤ l.length) := ⟨hfo.1.2.1, hfo.1.2.2⟩
        have HSAME := Lib.hid (opWith_same HN14.out h4)
        clear hget h4 hfo
        go_wp2_with (first
          | (go_at_call 62
             refine HGT.out.mono ?_
             rintro e w9 ⟨⟨v, rfl, ⟨cs, rfl, hat⟩, hcb9⟩, hkp9, hR9⟩
             have HAT := Lib.hid hat
             have HCB9 := Lib.hid hcb9
             have HLEN := Lib.hid hat.len
             have HONE := Lib.hid hat.one
             clear hat hcb9
             have HKG := Lib.hid hkp9
             have HRG := Lib.hid hR9
             have hz9 : w7.heap.size ≤ w9.heap.size := hkp9.size
             have HK9 : Hid (Kp [R, C] wr w9) := HK7.out.trans hkp9
             have HRS : Hid ((Value.agg cs.toArray).cells.size = 19) := (by unfold Hid; show cs.toArray.size = 19; rw [List.size_toArray]; exact HLEN.out)
             clear hkp9 hR9)
          | (refine wpList_build1 rfl 27 29 (.tmp 121) rfl (.agg cs.toArray) rfl 19 Tryz.underlying27 isz_29 zer_op (by decide) HRS.out ?_
             obtain ⟨wx, hwx⟩ : ∃ wx, w9.alloc (.cells cs.toArray 29) = wx := ⟨_, rfl⟩
             have hcx : (Value.agg cs.toArray).cells = cs.toArray := rfl
             rw [hcx, hwx]
             have HBX := Lib.hid (newB hwx)
             have hnx : Blk wx w9.heap.size 29 cs.toArray := newK hwx
             have HKX : Hid (Kp [R, C] wr wx) := HK9.out.later (newB hwx)
             have HFX : Hid (FlatSt w.heap.size (.slice A1 Q.length c1) Q wx) := HFL.out.kp HKX.out (by simp; omega)
             have HRX : Hid (Reads wx wx.heap.size 19 (some ⟨w9.heap.size, 0, none⟩) 1 cs) := ⟨(by rw [HLEN.out]), fun _ => ⟨⟨w9.heap.size, 0, none⟩, rfl, hnx.lt, fun j u hj => (by rw [Go.WideShapes.add_plain, Nat.zero_add, hnx.cell]; simpa using hj)⟩⟩
             have HOX : Hid (∀ u ∈ cs, u.oneCell' = true) := fun v hv => (by
               have := HONE.out
               rw [Array.all_eq_true_iff_forall_mem] at this
               exact this v (by simpa using hv))
             have HOW : Hid (wx.ownsRow w.heap.size 29 19 (.slice A1 Q.length c1) Q.length (Q.flatMap Prod.snd)) := HFX.out.own
             clear hwx hcx hnx)
          | (at_builtin
             refine wpList_append_any _ rfl (.tmp 116) (.tmp 122) _ rfl w.heap.size 29 i0 _ 19 296 Tryz.underlying27 hi0 hz0 hzi1 hzi2 rfl (by decide) (.slice A1 Q.length c1) Q.length (Q.flatMap Prod.snd) rfl HOW.out wx.heap.size (some ⟨w9.heap.size, 0, none⟩) 1 1 cs rfl HRX.out HOX.out (by unfold maxLen; omega) (by omega) HFX.out.bs ?_
             intro vy wy howny hgy haty
             obtain ⟨Ay, cy, rfl⟩ := slice_form howny
             have HOWN := Lib.hid howny
             have HGY := Lib.hid hgy
             have HAY := Lib.hid haty
             clear howny hgy haty))
        have hoy : ∀ y ∈ (Value.slice A1 Q.length c1).ownBlock.toList, w.heap.size ≤ y := fun y hy => (HFX.out.own.lt y (by simpa using hy)).1
        have hky : Kp [R, C] w wy := (HK0.out.trans HKX.out).to (Kp.of_grown HGY.out) (fun _ h _ => h) (fun y hy hl => by have := hoy _ hy; omega)
        have hRy : RR wy base R A c l q 0 := (HRG.out.later HBX.out).kp (Kp.of_grown HGY.out) (fun hy => by have := hoy _ hy; have := HFL.out.bs; have := HR0.out.lt; have := HKW.out.size; omega) (fun y hy => by have := hoy _ hy; have := HR0.out.old; omega)
        have hCy : Blk wy C 98 (cRow k'.parts mr) := by
          have h1 := (HCB9.out.below HBX.out HCB9.out.lt).kp (Kp.of_grown HGY.out) (fun hy => by have := hoy _ hy; have := HCW.out; omega)
          rw [if_neg HN14.out] at h1
          rw [HSAME.out, HMO.out]
          exact h1
        have hfy : FlatSt w.heap.size (.slice Ay (Q.length + 1) cy) (Q ++ [(x, cs)]) wy := HFX.out.snoc (r := (x, cs)) (Win.new (HAT.out.later HBX.out)) (by have := HKW.out.size; omega) (fun g hg => Nat.lt_of_lt_of_le (HFL.out.lt hg) hkz7) HOWN.out HGY.out HAY.out
        obtain ⟨mn1, mn2, mn3, mn4⟩ := HMN.out
        obtain ⟨ml1, ml2, ml3, ml4⟩ := more_le k t
        have mn5 := mn4 HMOK.out.parts HMOK.out.multis
        have HSL : Hid (SLive w base R C c A l i inn mr0 d n G (Q ++ [(x, cs)]) k' mr m q (.slice Ay (Q.length + 1) cy) wy) := ⟨hRy, hCy, hky, hfy, by rw [List.length_append, List.length_singleton]; have := HPQ.out; omega, mn5.1, mn5.2, by rw [mn3, ml3]; exact hkd, by rcases HREL.out with h | ⟨h1, h2, h3⟩; exact .inl h; exact .inr ⟨h1, by rw [HSAME.out, HMO.out]; exact h2, h3⟩, by have := HP3.out; have := HFO.out; omega, by rw [List.map_append]; exact HG.out⟩
        have HMS : Hid (sMeas R l wy < sMeas R l wr) := by unfold Hid; rw [sMeas_live hRy, sMeas_live HR0.out]; have := HP3.out; have := HFO.out; omega
        clear hoy hky hRy hCy hfy mn1 mn2 mn3 mn4 mn5 ml1 ml2 ml3 ml4
        go_roundw
        case rel => exact ⟨Q.length + 1, Ay, cy, rfl, .inl ⟨_, _, _, _, _, by rw [List.length_append]; rfl, HSL.out, by omega⟩⟩
        case measure => exact HMS.out
end Go.Proofs.YtpjjnmdfgcfnmaaGreatDoor
