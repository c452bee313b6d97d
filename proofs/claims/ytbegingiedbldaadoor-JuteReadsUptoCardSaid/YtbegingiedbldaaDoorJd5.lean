/- The document's reader: buffers, texts. -/
import Derived.Test.YtbegingiedbldaaDoorJd2
import Derived.Test.YtbegingiedbldaaDoorJd4
import Derived.Deep.RegionHeld3
namespace Go.Proofs.YtbegingiedbldaaDoor
open Go.RowKit

/-- 's[p:p+n]' -/
theorem run_cut {w : World} {B : Nat} {A : Option Addr} {l : List UInt8} {c : Nat} (h : Reads w B 1 A l.length (bcells l)) (hc : l.length ≤ c) (hnil : A = none → c = 0) (p n : Nat) (hpn : p + n ≤ l.length) :
    ∃ A1 c1, (∀ W : World, (Instr.sliceAt 22 (.slice A l.length c) (some (.int .i64 (p : Int))) (some (.int .i64 ((p : Int) + n))) none).run Tryd.prog W = .ok (.slice A1 n c1) W) ∧ Reads w B 1 A1 n (bcells ((l.drop p).take n)) ∧ (A1 = none → n = 0) := by
  by_cases e : c = p
  · subst e
    have hn : n = 0 := by omega
    subst hn
    refine ⟨A, 0, fun W => ?_, by simpa [bcells] using reads_zero w B A, fun _ => rfl⟩
    simp [go_sem]
    try omega
  · refine ⟨A.map fun x => x.add p, c - p, fun W => ?_, reads_part h hpn, fun hA => ?_⟩
    · have h1 : (p : Int) ≤ p + n := by omega
      have h2 : (p : Int) + n ≤ c := by omega
      simp [go_sem, e, h1, h2]
      try omega
    · cases A with
      | none => have := hnil rfl; omega
      | some ad => cases hA
theorem quiet_same_left {P : Program} {f : FuncId} {args : Array Value} {w : World} {n : Nat} {v : Value}
    (h : Calls P f args (w.drewN n) fun e w' => e = .returned v ∧ w.drewN n = w') : Calls P f args (w.drewN n) fun e w'' => e = .returned v ∧ ∃ m, w'' = w.drewN m :=
  h.mono fun _ _ ⟨he, hm⟩ => ⟨he, n, hm.symm⟩

section
variable (base R : Nat) (A : Option Addr) (c : Nat) (l : List UInt8) (p : Nat) (w : World)

set_option maxRecDepth 100000 in
set_option maxHeartbeats 4000000 in
theorem dBuf (most : Int) (h : RR w base R A c l p 0) (hbase : base ≤ w.heap.size) :
    Calls Tryd.prog 69 #[.pointer (some ⟨R, 0, none⟩), .int .i64 most, .bool false] w (RefE base R A c l (vOwn w.heap.size) (.slice none 0 0) (gBuf most l p) w) := by
  obtain ⟨i0, hi0, hz0, hz1, hz2⟩ := info_parts u8_info
  obtain ⟨c0, c1, c2, f1, f2⟩ := h.cells
  have hp := h.here
  have hl := h.len
  have hT := dInt base R A c l p w h
  rcases hres : gInt l p with ⟨z, q⟩ | ⟨er, q⟩
  · rw [hres] at hT
    have HT := Lib.hid hT
    obtain ⟨hq1, hzw, hq2⟩ := gInt_inl hres
    have hzb := wrap32_bd (beNum ((l.drop p).take 4))
    rw [← hzw] at hzb
    have hq : q ≤ l.length := by omega
    have hS : gSize most l p = if z < 0 ∨ most < z then .inr (22, p) else .inl (z.toNat, q) := by unfold gSize; rw [hres]
    have hC : gBuf most l p = match gSize most l p with
      | .inl (n, q) => if q + n ≤ l.length then .inl ((l.drop q).take n, q + n) else .inr (20, p)
      | .inr e => .inr e := rfl
    clear hT hres h hzw hq1 hq2
    by_cases z0 : z < 0
    · have HG : Hid (gBuf most l p = .inr (22, p)) := by unfold Hid; rw [hC, hS, if_pos (.inl z0)]
      clear hC hS 
      go_enter Tryd.func69, Tryd.ntmps69
      go_wp2_with (first | (go_at_call 67; refine (HT.out).mono ?_; rintro e w2 ⟨⟨v, rfl, rfl⟩, hk2, hR2⟩; obtain ⟨k0, k1, k2, kf1, kf2⟩ := hR2.cells; have HK2 := Lib.hid hk2; have HR2 := Lib.hid hR2; clear hk2 hR2) | (go_at_call 51; refine (dFail base R A c l p _ 22 (HR2.out.move hp)).mono ?_; rintro e w3 ⟨rfl, hk3, hR3⟩; obtain ⟨m0, m1, m2, mf1, mf2⟩ := hR3.cells; have HK3 := Lib.hid hk3; have HR3 := Lib.hid hR3; clear hk3 hR3))
      go_ret
      exact RefE.no HG.out (by decide) ((HK2.out.trans (Kp.setCell ⟨R, 1, none⟩ _)).trans HK3.out) HR3.out
    · by_cases zm : most < z
      · have HG : Hid (gBuf most l p = .inr (22, p)) := by unfold Hid; rw [hC, hS, if_pos (.inr zm)]
        clear hC hS 
        go_enter Tryd.func69, Tryd.ntmps69
        go_wp2_with (first | (go_at_call 67; refine (HT.out).mono ?_; rintro e w2 ⟨⟨v, rfl, rfl⟩, hk2, hR2⟩; obtain ⟨k0, k1, k2, kf1, kf2⟩ := hR2.cells; have HK2 := Lib.hid hk2; have HR2 := Lib.hid hR2; clear hk2 hR2) | (go_at_call 51; refine (dFail base R A c l p _ 22 (HR2.out.move hp)).mono ?_; rintro e w3 ⟨rfl, hk3, hR3⟩; obtain ⟨m0, m1, m2, mf1, mf2⟩ := hR3.cells; have HK3 := Lib.hid hk3; have HR3 := Lib.hid hR3; clear hk3 hR3))
        go_ret
        exact RefE.no HG.out (by decide) ((HK2.out.trans (Kp.setCell ⟨R, 1, none⟩ _)).trans HK3.out) HR3.out
      · rw [if_neg (by omega)] at hS
        rw [hS] at hC
        obtain ⟨N, rfl⟩ := Int.eq_ofNat_of_zero_le (show 0 ≤ z by omega)
        rw [Int.toNat_natCast] at hC
        dsimp only at hC
        clear hS
        by_cases hqn : q + N ≤ l.length
        · have hqz : ¬ ((l.length : Int) - q < N) := by omega
          rw [if_pos hqn] at hC
          obtain ⟨x, hx⟩ : ∃ x, x = (l.drop q).take N := ⟨_, rfl⟩
          have hxl : x.length = N := by rw [hx, List.length_take, List.length_drop]; omega
          rw [← hx] at hC
          have s1 : IntKind.i64.wrap ((q : Int) + N) = (q : Int) + N := IntWalk.i64_in _ (by omega)
          have HXL := Lib.hid hxl
          have HXE := Lib.hid hx
          have HS1 := Lib.hid s1
          clear hx hxl s1
          have HG : Hid (gBuf most l p = .inl (x, q + N)) := hC
          clear hC
          go_enter Tryd.func69, Tryd.ntmps69
          go_wp2_with (first | (go_at_call 67; refine (HT.out).mono ?_; rintro e w2 ⟨⟨v, rfl, rfl⟩, hk2, hR2⟩; obtain ⟨k0, k1, k2, kf1, kf2⟩ := hR2.cells; have HK2 := Lib.hid hk2; have HR2 := Lib.hid hR2; clear hk2 hR2))
          go_quiet (fail)
          obtain ⟨wb, hwb⟩ : ∃ wb, w2.drewN nq = wb := ⟨_, rfl⟩
          have HRwb : Hid (RR wb base R A c l q 0) := by unfold Hid; rw [← hwb]; exact HR2.out.later (below_drewN' (Below.refl _ _) nq)
          have HKwb : Hid (Kp [R] w wb) := by unfold Hid; rw [← hwb]; exact HK2.out.trans (Kp.drewN nq)
          obtain ⟨k0, k1, k2, kf1, kf2⟩ := HRwb.out.cells
          rw [hwb]
          clear hwb
          go_wp2
          go_quiet (fail)
          obtain ⟨wc, hwc⟩ : ∃ wc, wb.drewN nq = wc := ⟨_, rfl⟩
          have HRwc : Hid (RR wc base R A c l q 0) := by unfold Hid; rw [← hwc]; exact HRwb.out.later (below_drewN' (Below.refl _ _) nq)
          have HKwc : Hid (Kp [R] w wc) := by unfold Hid; rw [← hwc]; exact HKwb.out.trans (Kp.drewN nq)
          obtain ⟨k0, k1, k2, kf1, kf2⟩ := HRwc.out.cells
          rw [hwc]
          clear hwc
          go_wp2
          have hRl := HRwc.out.lt
          have hwz : w.heap.size ≤ wc.heap.size := HKwc.out.size
          obtain ⟨A1, c1, hcut, hrd, hnn⟩ := run_cut HRwc.out.reads HRwc.out.cap HRwc.out.nil q N hqn
          rw [← HXE.out] at hrd
          have hs1 := HS1.out
          have hbase2 : base ≤ wc.heap.size := Nat.le_trans hbase HKwc.out.size
          have hbl : Below wc.heap.size wc (wc.alloc (.cells #[] 5)).drew := ((Below.refl _ _).alloc (Nat.le_refl _) _).drew
          have HBL := Lib.hid hbl
          have HRD : Hid (Reads (wc.alloc (.cells #[] 5)).drew base 1 A1 N (bcells x)) := hrd.below (hbl.mono hbase2)
          have HOW : Hid ((wc.alloc (.cells #[] 5)).drew.ownsRow w.heap.size 5 1 (.slice (some ⟨wc.heap.size, 0, none⟩) 0 0) 0 []) := World.ownsRow_made wc #[] 0 hwz (by decide) rfl
          clear hrd hnn hbl
          go_region_held3 (fun w' => w'.cell? ⟨R, 0, none⟩ = some (.slice A l.length c) ∧ w'.cell? ⟨R, 1, none⟩ = some (.int .i64 q)) (first | go_keep | exact ⟨m0, m1⟩)
            ((refine step_append_any _ (by rfl) (.tmp 75) (.tmp 90) _ (by rfl) w.heap.size 5 i0 _ 1 1 Tryd.underlying22 hi0 hz0 hz1 hz2 rfl (by decide) (.slice (some ⟨wc.heap.size, 0, none⟩) 0 0) 0 [] (by rfl) HOW.out base A1 N c1 (bcells x) (by rfl) HRD.out (bcells_one _) (by simp only [maxLen]; omega) (by omega) (by have := HBL.out.size; omega) ?_; intro v5 w5 ho5 hg5 hat5; have hR5 : RR w5 base R A c l q 0 := ((HRwc.out.later HBL.out).kp (Kp.of_grown hg5) (by simp [Value.ownBlock]; omega) (by simp [Value.ownBlock]; omega)); have HK5 : Hid (Kp [R] w w5) := HKwc.out.to ((Kp.of_below (X := []) HBL.out).to (Kp.of_grown hg5) (Z := [wc.heap.size]) (fun _ h => by cases h) (fun y hy _ => by simpa [Value.ownBlock] using hy)) (fun _ h _ => h) (fun y hy hl => by simp at hy; omega); obtain ⟨m0, m1, m2, mf1, mf2⟩ := hR5.cells; rw [Nat.zero_add, List.nil_append] at ho5; have HO5 := Lib.hid ho5; have HR5 := Lib.hid hR5; obtain ⟨A5, c5, rfl⟩ := slice_form ho5; clear hat5 hg5 ho5 hR5))
          all_goals (
            clear hs1
            go_wp2
            go_ret
            refine RefE.yes HG.out ⟨A5, c5, by rw [HXL.out]; simp, ?_⟩ (HK5.out.trans (Kp.setCell ⟨R, 1, none⟩ _)) (HR5.out.move hqn)
            rw [HXL.out]
            exact own_set HO5.out HR5.out.blk (by decide) 1 _)
        · have hqz : (l.length : Int) - q < N := by omega
          rw [if_neg hqn] at hC
          have HG : Hid (gBuf most l p = .inr (20, p)) := by unfold Hid; rw [hC]
          clear hC 
          go_enter Tryd.func69, Tryd.ntmps69
          go_wp2_with (first | (go_at_call 67; refine (HT.out).mono ?_; rintro e w2 ⟨⟨v, rfl, rfl⟩, hk2, hR2⟩; obtain ⟨k0, k1, k2, kf1, kf2⟩ := hR2.cells; have HK2 := Lib.hid hk2; have HR2 := Lib.hid hR2; clear hk2 hR2))
          go_quiet (fail)
          go_wp2_with (go_at_call 51; refine (dFail base R A c l p _ 20 ((HR2.out.later (below_drewN' (Below.refl _ _) nq)).move hp)).mono ?_; rintro e w3 ⟨rfl, hk3, hR3⟩; obtain ⟨m0, m1, m2, mf1, mf2⟩ := hR3.cells; have HK3 := Lib.hid hk3; have HR3 := Lib.hid hR3; clear hk3 hR3)
          go_ret
          exact RefE.no HG.out (by decide) (((HK2.out.trans (Kp.drewN nq)).trans (Kp.setCell ⟨R, 1, none⟩ _)).trans HK3.out) HR3.out
  · rw [hres] at hT
    have HT := Lib.hid hT
    have HG : Hid (gBuf most l p = .inr (er, q)) := by unfold Hid gBuf gSize; rw [hres]
    have hne : er ≠ 0 := gInt_ne hres
    have hnb : (er != 0) = true := by simp [hne]
    clear hT hres h
    go_enter Tryd.func69, Tryd.ntmps69
    go_wp2_with (go_at_call 67; refine (HT.out).mono ?_; rintro e w2 ⟨rfl, hne, hk2, hR2⟩; obtain ⟨k0, k1, k2, kf1, kf2⟩ := hR2.cells; have HK2 := Lib.hid hk2; have HR2 := Lib.hid hR2; clear hk2 hR2)
    go_ret
    exact RefE.no HG.out hne HK2.out HR2.out
set_option maxRecDepth 100000 in
set_option maxHeartbeats 4000000 in
theorem dBufT (most : Int) (h : RR w base R A c l p 0) (hbase : base ≤ w.heap.size) :
    Calls Tryd.prog 69 #[.pointer (some ⟨R, 0, none⟩), .int .i64 most, .bool true] w (RefE base R A c l (vOwn w.heap.size) (.slice none 0 0) (gText most l p) w) := by
  obtain ⟨i0, hi0, hz0, hz1, hz2⟩ := info_parts u8_info
  obtain ⟨c0, c1, c2, f1, f2⟩ := h.cells
  have hp := h.here
  have hl := h.len
  have hT := dInt base R A c l p w h
  rcases hres : gInt l p with ⟨z, q⟩ | ⟨er, q⟩
  · rw [hres] at hT
    have HT := Lib.hid hT
    obtain ⟨hq1, hzw, hq2⟩ := gInt_inl hres
    have hzb := wrap32_bd (beNum ((l.drop p).take 4))
    rw [← hzw] at hzb
    have hq : q ≤ l.length := by omega
    have hS : gSize most l p = if z < 0 ∨ most < z then .inr (22, p) else .inl (z.toNat, q) := by unfold gSize; rw [hres]
    have hC : gBuf most l p = match gSize most l p with
      | .inl (n, q) => if q + n ≤ l.length then .inl ((l.drop q).take n, q + n) else .inr (20, p)
      | .inr e => .inr e := rfl
    have hX : gText most l p = match gBuf most l p with
      | .inl (b, q) => if Lib.validD b = true then .inl (b, q) else .inr (22, p)
      | .inr e => .inr e := rfl
    clear hT hres h hzw hq1 hq2
    by_cases z0 : z < 0
    · have HG : Hid (gText most l p = .inr (22, p)) := by unfold Hid; rw [hX, hC, hS, if_pos (.inl z0)]
      clear hC hS hX 
      go_enter Tryd.func69, Tryd.ntmps69
      go_wp2_with (first | (go_at_call 67; refine (HT.out).mono ?_; rintro e w2 ⟨⟨v, rfl, rfl⟩, hk2, hR2⟩; obtain ⟨k0, k1, k2, kf1, kf2⟩ := hR2.cells; have HK2 := Lib.hid hk2; have HR2 := Lib.hid hR2; clear hk2 hR2) | (go_at_call 51; refine (dFail base R A c l p _ 22 (HR2.out.move hp)).mono ?_; rintro e w3 ⟨rfl, hk3, hR3⟩; obtain ⟨m0, m1, m2, mf1, mf2⟩ := hR3.cells; have HK3 := Lib.hid hk3; have HR3 := Lib.hid hR3; clear hk3 hR3))
      go_ret
      exact RefE.no HG.out (by decide) ((HK2.out.trans (Kp.setCell ⟨R, 1, none⟩ _)).trans HK3.out) HR3.out
    · by_cases zm : most < z
      · have HG : Hid (gText most l p = .inr (22, p)) := by unfold Hid; rw [hX, hC, hS, if_pos (.inr zm)]
        clear hC hS hX 
        go_enter Tryd.func69, Tryd.ntmps69
        go_wp2_with (first | (go_at_call 67; refine (HT.out).mono ?_; rintro e w2 ⟨⟨v, rfl, rfl⟩, hk2, hR2⟩; obtain ⟨k0, k1, k2, kf1, kf2⟩ := hR2.cells; have HK2 := Lib.hid hk2; have HR2 := Lib.hid hR2; clear hk2 hR2) | (go_at_call 51; refine (dFail base R A c l p _ 22 (HR2.out.move hp)).mono ?_; rintro e w3 ⟨rfl, hk3, hR3⟩; obtain ⟨m0, m1, m2, mf1, mf2⟩ := hR3.cells; have HK3 := Lib.hid hk3; have HR3 := Lib.hid hR3; clear hk3 hR3))
        go_ret
        exact RefE.no HG.out (by decide) ((HK2.out.trans (Kp.setCell ⟨R, 1, none⟩ _)).trans HK3.out) HR3.out
      · rw [if_neg (by omega)] at hS
        rw [hS] at hC
        obtain ⟨N, rfl⟩ := Int.eq_ofNat_of_zero_le (show 0 ≤ z by omega)
        rw [Int.toNat_natCast] at hC
        dsimp only at hC
        clear hS
        by_cases hqn : q + N ≤ l.length
        · have hqz : ¬ ((l.length : Int) - q < N) := by omega
          rw [if_pos hqn] at hC
          obtain ⟨x, hx⟩ : ∃ x, x = (l.drop q).take N := ⟨_, rfl⟩
          have hxl : x.length = N := by rw [hx, List.length_take, List.length_drop]; omega
          rw [← hx] at hC
          have s1 : IntKind.i64.wrap ((q : Int) + N) = (q : Int) + N := IntWalk.i64_in _ (by omega)
          have HXL := Lib.hid hxl
          have HXE := Lib.hid hx
          have HS1 := Lib.hid s1
          clear hx hxl s1
          rcases hvv : Lib.validD x
          · have HG : Hid (gText most l p = .inr (22, p)) := by unfold Hid; rw [hX, hC]; simp [hvv]
            obtain ⟨VV, hVV⟩ : ∃ VV, VV = false := ⟨_, rfl⟩
            have HVV : Hid (Lib.validD x = VV) := by unfold Hid; rw [hvv, hVV]
            clear hC hX hvv
            go_enter Tryd.func69, Tryd.ntmps69
            go_wp2_with (first | (go_at_call 67; refine (HT.out).mono ?_; rintro e w2 ⟨⟨v, rfl, rfl⟩, hk2, hR2⟩; obtain ⟨k0, k1, k2, kf1, kf2⟩ := hR2.cells; have HK2 := Lib.hid hk2; have HR2 := Lib.hid hR2; clear hk2 hR2))
            go_quiet (fail)
            obtain ⟨wb, hwb⟩ : ∃ wb, w2.drewN nq = wb := ⟨_, rfl⟩
            have HRwb : Hid (RR wb base R A c l q 0) := by unfold Hid; rw [← hwb]; exact HR2.out.later (below_drewN' (Below.refl _ _) nq)
            have HKwb : Hid (Kp [R] w wb) := by unfold Hid; rw [← hwb]; exact HK2.out.trans (Kp.drewN nq)
            obtain ⟨k0, k1, k2, kf1, kf2⟩ := HRwb.out.cells
            rw [hwb]
            clear hwb
            go_wp2
            obtain ⟨A1, c1, hcut, hrd, hnn⟩ := run_cut HRwb.out.reads HRwb.out.cap HRwb.out.nil q N hqn
            rw [← HXE.out] at hrd
            have hcv : ∀ m, (convert 22 9 (.slice A1 N c1)).run Tryd.prog (wb.drewN m) = .ok (.string ⟨x.toArray⟩) (wb.drewN m) := fun m => run_string_of_bytes (P := Tryd.prog) (w := wb.drewN m) (src := 22) (e := 5) Tryd.underlying22 Tryd.underlying5 (B := base) (l := x) hrd 9 Tryd.underlying9
            have hut : ∀ m, Calls Tryd.prog 76 #[.string ⟨x.toArray⟩] (wb.drewN m) fun e w'' => e = .returned (.bool VV) ∧ ∃ n, w'' = wb.drewN n := fun m => quiet_same_left (by have h := utf8_any ⟨x.toArray⟩ (wb.drewN m) (by have := HXL.out; show x.toArray.size ≤ _; simp; omega); rw [show (⟨x.toArray⟩ : ByteArray).data.toList = x from rfl, HVV.out] at h; exact h)
            have HUT := Lib.hid hut
            have hs1 := HS1.out
            clear hut hrd
            go_quiet ((go_at_call 76; exact HUT.out _))
            obtain ⟨wc, hwc⟩ : ∃ wc, wb.drewN nq = wc := ⟨_, rfl⟩
            have HRwc : Hid (RR wc base R A c l q 0) := by unfold Hid; rw [← hwc]; exact HRwb.out.later (below_drewN' (Below.refl _ _) nq)
            have HKwc : Hid (Kp [R] w wc) := by unfold Hid; rw [← hwc]; exact HKwb.out.trans (Kp.drewN nq)
            obtain ⟨k0, k1, k2, kf1, kf2⟩ := HRwc.out.cells
            rw [hwc]
            subst hVV
            clear hwc hcut hcv hs1
            go_wp2_with (go_at_call 51; refine (dFail base R A c l p _ 22 (HRwc.out.move hp)).mono ?_; rintro e w3 ⟨rfl, hk3, hR3⟩; obtain ⟨m0, m1, m2, mf1, mf2⟩ := hR3.cells; have HK3 := Lib.hid hk3; have HR3 := Lib.hid hR3; clear hk3 hR3)
            go_ret
            exact RefE.no HG.out (by decide) ((HKwc.out.trans (Kp.setCell ⟨R, 1, none⟩ _)).trans HK3.out) HR3.out
          · have HG : Hid (gText most l p = .inl (x, q + N)) := by unfold Hid; rw [hX, hC]; simp [hvv]
            obtain ⟨VV, hVV⟩ : ∃ VV, VV = true := ⟨_, rfl⟩
            have HVV : Hid (Lib.validD x = VV) := by unfold Hid; rw [hvv, hVV]
            clear hC hX hvv
            go_enter Tryd.func69, Tryd.ntmps69
            go_wp2_with (first | (go_at_call 67; refine (HT.out).mono ?_; rintro e w2 ⟨⟨v, rfl, rfl⟩, hk2, hR2⟩; obtain ⟨k0, k1, k2, kf1, kf2⟩ := hR2.cells; have HK2 := Lib.hid hk2; have HR2 := Lib.hid hR2; clear hk2 hR2))
            go_quiet (fail)
            obtain ⟨wb, hwb⟩ : ∃ wb, w2.drewN nq = wb := ⟨_, rfl⟩
            have HRwb : Hid (RR wb base R A c l q 0) := by unfold Hid; rw [← hwb]; exact HR2.out.later (below_drewN' (Below.refl _ _) nq)
            have HKwb : Hid (Kp [R] w wb) := by unfold Hid; rw [← hwb]; exact HK2.out.trans (Kp.drewN nq)
            obtain ⟨k0, k1, k2, kf1, kf2⟩ := HRwb.out.cells
            rw [hwb]
            clear hwb
            go_wp2
            obtain ⟨A1, c1, hcut, hrd, hnn⟩ := run_cut HRwb.out.reads HRwb.out.cap HRwb.out.nil q N hqn
            rw [← HXE.out] at hrd
            have hcv : ∀ m, (convert 22 9 (.slice A1 N c1)).run Tryd.prog (wb.drewN m) = .ok (.string ⟨x.toArray⟩) (wb.drewN m) := fun m => run_string_of_bytes (P := Tryd.prog) (w := wb.drewN m) (src := 22) (e := 5) Tryd.underlying22 Tryd.underlying5 (B := base) (l := x) hrd 9 Tryd.underlying9
            have hut : ∀ m, Calls Tryd.prog 76 #[.string ⟨x.toArray⟩] (wb.drewN m) fun e w'' => e = .returned (.bool VV) ∧ ∃ n, w'' = wb.drewN n := fun m => quiet_same_left (by have h := utf8_any ⟨x.toArray⟩ (wb.drewN m) (by have := HXL.out; show x.toArray.size ≤ _; simp; omega); rw [show (⟨x.toArray⟩ : ByteArray).data.toList = x from rfl, HVV.out] at h; exact h)
            have HUT := Lib.hid hut
            have hs1 := HS1.out
            clear hut hrd
            go_quiet ((go_at_call 76; exact HUT.out _))
            obtain ⟨wc, hwc⟩ : ∃ wc, wb.drewN nq = wc := ⟨_, rfl⟩
            have HRwc : Hid (RR wc base R A c l q 0) := by unfold Hid; rw [← hwc]; exact HRwb.out.later (below_drewN' (Below.refl _ _) nq)
            have HKwc : Hid (Kp [R] w wc) := by unfold Hid; rw [← hwc]; exact HKwb.out.trans (Kp.drewN nq)
            obtain ⟨k0, k1, k2, kf1, kf2⟩ := HRwc.out.cells
            rw [hwc]
            subst hVV
            clear hwc hcut hcv hs1 hnn
            go_wp2
            have hRl := HRwc.out.lt
            have hwz : w.heap.size ≤ wc.heap.size := HKwc.out.size
            obtain ⟨A1, c1, hcut, hrd, hnn⟩ := run_cut HRwc.out.reads HRwc.out.cap HRwc.out.nil q N hqn
            rw [← HXE.out] at hrd
            have hs1 := HS1.out
            have hbase2 : base ≤ wc.heap.size := Nat.le_trans hbase HKwc.out.size
            have hbl : Below wc.heap.size wc (wc.alloc (.cells #[] 5)).drew := ((Below.refl _ _).alloc (Nat.le_refl _) _).drew
            have HBL := Lib.hid hbl
            have HRD : Hid (Reads (wc.alloc (.cells #[] 5)).drew base 1 A1 N (bcells x)) := hrd.below (hbl.mono hbase2)
            have HOW : Hid ((wc.alloc (.cells #[] 5)).drew.ownsRow w.heap.size 5 1 (.slice (some ⟨wc.heap.size, 0, none⟩) 0 0) 0 []) := World.ownsRow_made wc #[] 0 hwz (by decide) rfl
            clear hrd hnn hbl
            go_region_held3 (fun w' => w'.cell? ⟨R, 0, none⟩ = some (.slice A l.length c) ∧ w'.cell? ⟨R, 1, none⟩ = some (.int .i64 q)) (first | go_keep | exact ⟨m0, m1⟩)
              ((refine step_append_any _ (by rfl) (.tmp 75) (.tmp 90) _ (by rfl) w.heap.size 5 i0 _ 1 1 Tryd.underlying22 hi0 hz0 hz1 hz2 rfl (by decide) (.slice (some ⟨wc.heap.size, 0, none⟩) 0 0) 0 [] (by rfl) HOW.out base A1 N c1 (bcells x) (by rfl) HRD.out (bcells_one _) (by simp only [maxLen]; omega) (by omega) (by have := HBL.out.size; omega) ?_; intro v5 w5 ho5 hg5 hat5; have hR5 : RR w5 base R A c l q 0 := ((HRwc.out.later HBL.out).kp (Kp.of_grown hg5) (by simp [Value.ownBlock]; omega) (by simp [Value.ownBlock]; omega)); have HK5 : Hid (Kp [R] w w5) := HKwc.out.to ((Kp.of_below (X := []) HBL.out).to (Kp.of_grown hg5) (Z := [wc.heap.size]) (fun _ h => by cases h) (fun y hy _ => by simpa [Value.ownBlock] using hy)) (fun _ h _ => h) (fun y hy hl => by simp at hy; omega); obtain ⟨m0, m1, m2, mf1, mf2⟩ := hR5.cells; rw [Nat.zero_add, List.nil_append] at ho5; have HO5 := Lib.hid ho5; have HR5 := Lib.hid hR5; obtain ⟨A5, c5, rfl⟩ := slice_form ho5; clear hat5 hg5 ho5 hR5))
            all_goals (
              clear hs1
              go_wp2
              go_ret
              refine RefE.yes HG.out ⟨A5, c5, by rw [HXL.out]; simp, ?_⟩ (HK5.out.trans (Kp.setCell ⟨R, 1, none⟩ _)) (HR5.out.move hqn)
              rw [HXL.out]
              exact own_set HO5.out HR5.out.blk (by decide) 1 _)
        · have hqz : (l.length : Int) - q < N := by omega
          rw [if_neg hqn] at hC
          have HG : Hid (gText most l p = .inr (20, p)) := by unfold Hid; rw [hX, hC]
          clear hC hX 
          go_enter Tryd.func69, Tryd.ntmps69
          go_wp2_with (first | (go_at_call 67; refine (HT.out).mono ?_; rintro e w2 ⟨⟨v, rfl, rfl⟩, hk2, hR2⟩; obtain ⟨k0, k1, k2, kf1, kf2⟩ := hR2.cells; have HK2 := Lib.hid hk2; have HR2 := Lib.hid hR2; clear hk2 hR2))
          go_quiet (fail)
          go_wp2_with (go_at_call 51; refine (dFail base R A c l p _ 20 ((HR2.out.later (below_drewN' (Below.refl _ _) nq)).move hp)).mono ?_; rintro e w3 ⟨rfl, hk3, hR3⟩; obtain ⟨m0, m1, m2, mf1, mf2⟩ := hR3.cells; have HK3 := Lib.hid hk3; have HR3 := Lib.hid hR3; clear hk3 hR3)
          go_ret
          exact RefE.no HG.out (by decide) (((HK2.out.trans (Kp.drewN nq)).trans (Kp.setCell ⟨R, 1, none⟩ _)).trans HK3.out) HR3.out
  · rw [hres] at hT
    have HT := Lib.hid hT
    have HG : Hid (gText most l p = .inr (er, q)) := by unfold Hid gText gBuf gSize; rw [hres]
    have hne : er ≠ 0 := gInt_ne hres
    have hnb : (er != 0) = true := by simp [hne]
    clear hT hres h
    go_enter Tryd.func69, Tryd.ntmps69
    go_wp2_with (go_at_call 67; refine (HT.out).mono ?_; rintro e w2 ⟨rfl, hne, hk2, hR2⟩; obtain ⟨k0, k1, k2, kf1, kf2⟩ := hR2.cells; have HK2 := Lib.hid hk2; have HR2 := Lib.hid hR2; clear hk2 hR2)
    go_ret
    exact RefE.no HG.out hne HK2.out HR2.out
set_option maxRecDepth 100000 in
set_option maxHeartbeats 4000000 in
theorem dText (most : Int) (h : RR w base R A c l p 0) (hbase : base ≤ w.heap.size) :
    Calls Tryd.prog 70 #[.pointer (some ⟨R, 0, none⟩), .int .i64 most] w (RefE base R A c l vText (.string ⟨#[]⟩) (gText most l p) w) := by
  have hT := dBufT base R A c l p w most h hbase
  rcases hres : gText most l p with ⟨x, q⟩ | ⟨er, q⟩
  · rw [hres] at hT
    have HT := Lib.hid hT
    have HG := Lib.hid hres
    clear hT hres h
    go_enter Tryd.func70, Tryd.ntmps70
    go_wp2_with (go_at_call 69
                 refine (HT.out).mono ?_
                 rintro e w2 ⟨⟨v, rfl, A', c', rfl, ho⟩, hk2, hR2⟩
                 have hcv := run_string_of_bytes (P := Tryd.prog) (w := w2) (src := 22) (e := 5) Tryd.underlying22 Tryd.underlying5 (Reads.of_own ho) (c := c') 9 Tryd.underlying9
                 have HK2 := Lib.hid hk2
                 have HR2 := Lib.hid hR2
                 clear ho hk2 hR2)
    go_ret
    exact RefE.yes rfl rfl HK2.out HR2.out
  · rw [hres] at hT
    have HT := Lib.hid hT
    have HG := Lib.hid hres
    clear hT hres h
    go_enter Tryd.func70, Tryd.ntmps70
    go_wp2_with (go_at_call 69
                 refine (HT.out).mono ?_
                 rintro e w2 ⟨rfl, hne, hk2, hR2⟩
                 have hcv := run_string_of_bytes (P := Tryd.prog) (w := w2) (src := 22) (e := 5) Tryd.underlying22 Tryd.underlying5 (B := 0) (A := none) (n := 0) (l := []) (reads_zero _ _ _) (c := 0) 9 Tryd.underlying9
                 have HK2 := Lib.hid hk2
                 have HR2 := Lib.hid hR2
                 have HNE := Lib.hid hne
                 clear hne hk2 hR2)
    go_ret
    exact RefE.no rfl HNE.out HK2.out HR2.out
end
end Go.Proofs.YtbegingiedbldaaDoor
