/- Bytes as an event: the document's DecodeEvent: the walk. (printed by gen_v4.py) -/
import Derived.Test.YtnbaajplelchjaaGreatDoorEv2b
import Derived.Test.YtnbaajplelchjaaGreatDoorInvc
import Derived.StillTailTactics
set_option linter.unusedVariables false
set_option linter.unusedSimpArgs false
namespace Go.Proofs.YtnbaajplelchjaaGreatDoor
open Go.RowKit

set_option maxRecDepth 100000 in
theorem cMust (base R : Nat) (A : Option Addr) (c : Nat) (l : List UInt8) (b : Bool) (s : Nat × Int) (w : World) (r : Unit × (Nat × Int)) (hr : r = stepS (gMust b) () l s) (h : RR w base R A c l s.1 s.2) :
    Calls Tryz.prog 67 #[.pointer (some ⟨R, 0, none⟩), .bool b] w fun e w' => e = .returned (.tuple #[]) ∧ Kp [R] w w' ∧ RR w' base R A c l r.2.1 r.2.2 := by
  obtain ⟨p, er⟩ := s
  obtain ⟨c0, c1, c2, f1, f2⟩ := h.cells
  have H := Lib.hid h
  clear h
  by_cases he : er = 0
  · subst he
    rcases b with _ | _
    · have hr2 : r.2 = (p, 22) := by rw [hr, stepS_no () (gMust_no rfl l p)]
      rw [hr2]
      clear hr hr2
      go_enter Tryz.func67, Tryz.ntmps67
      go_wp2_with (go_at_call 56; refine (dFailU base R A c l p _ 22 H.out).mono ?_; rintro e w3 ⟨rfl, hk3, hR3⟩)
      go_end0
      exact ⟨rfl, hk3, hR3⟩
    · have hr2 : r.2 = (p, 0) := by rw [hr, stepS_yes () (gMust_yes rfl l p)]
      rw [hr2]
      clear hr hr2
      go_enter Tryz.func67, Tryz.ntmps67
      go_wp2
      go_end0
      exact ⟨rfl, Kp.refl _ _, H.out⟩
  · have hr2 : r.2 = (p, er) := by rw [hr, stepS_dead _ _ _ he]
    rw [hr2]
    have hb : (er == 0) = false := by simp [he]
    clear hr hr2
    go_enter Tryz.func67, Tryz.ntmps67
    go_wp2
    go_end0
    exact ⟨rfl, Kp.refl _ _, H.out⟩
theorem Rs.bind_eq {α β : Type} {f : Rs α} {k : α → Rs β} {l : List UInt8} {s : Nat × Int} {r : α × (Nat × Int)} (h : f l s = r) : Rs.bind f k l s = k r.1 l r.2 := by subst h; rfl
theorem Rs.map_eq {α β : Type} {f : Rs α} {k : α → β} {l : List UInt8} {s : Nat × Int} {r : α × (Nat × Int)} (h : f l s = r) : Rs.map k f l s = (k r.1, r.2) := by subst h; rfl
def evS : Rs (Int × List UInt8 × Int) := Rs.bind (stepS gInt 0) fun a => Rs.bind (stepS (gMust (a == -1)) ()) fun _ => Rs.bind (stepS gLong 0) fun b => Rs.bind (stepS (gMust (b == -1)) ()) fun _ => Rs.bind (stepS gInt 0) fun c => Rs.bind (stepS (gMust (c == 0)) ()) fun _ =>
  Rs.bind (stepS gInt 0) fun k => Rs.bind (stepS (gMust (decide (1 ≤ k) && decide (k ≤ 4))) ()) fun _ => Rs.bind (stepS gInt 0) fun d => Rs.bind (stepS (gMust (d == 3)) ()) fun _ => Rs.bind (stepS (gText 4096) []) fun p => Rs.map (fun s => (k, p, s)) (stepS gLong 0)
theorem sim_ev : Sim gEv evS := (Sim.step 0 sure_int).bind fun _ => (Sim.step () (sure_must _)).bind fun _ => (Sim.step 0 sure_long).bind fun _ => (Sim.step () (sure_must _)).bind fun _ => (Sim.step 0 sure_int).bind fun _ => (Sim.step () (sure_must _)).bind fun _ =>
  (Sim.step 0 sure_int).bind fun _ => (Sim.step () (sure_must _)).bind fun _ => (Sim.step 0 sure_int).bind fun _ => (Sim.step () (sure_must _)).bind fun _ => (Sim.step [] (sure_text _)).bind fun _ => (Sim.step 0 sure_long).map
/-- the state in the midst -/
structure RVt (w0 : World) (base R : Nat) (A : Option Addr) (c : Nat) (l : List UInt8) (nb : Nat) (s : Nat × Int) (cs : Array Value) (w : World) : Prop where
  rr : RR w base R A c l s.1 s.2
  blk : Blk w nb 55 cs
  kp : Kp [R, nb] w0 w
  ne : R ≠ nb
  old : R < w0.heap.size ∧ nb < w0.heap.size
  low : base ≤ nb
section
variable {w0 w w' : World} {base R c nb : Nat} {s t : Nat × Int} {A : Option Addr} {l : List UInt8} {cs : Array Value}
theorem RVt.read (h : RVt w0 base R A c l nb s cs w) (hk : Kp [R] w w') (hR : RR w' base R A c l t.1 t.2) : RVt w0 base R A c l nb t cs w' :=
  ⟨hR, h.blk.kp hk (by simpa using h.ne.symm), h.kp.to hk (fun _ h _ => h) (fun y hy _ => by simp at hy; simp [hy]), h.ne, h.old, h.low⟩
theorem RVt.set (h : RVt w0 base R A c l nb s cs w) (i : Nat) (v : Value) : RVt w0 base R A c l nb s (cs.setIfInBounds i v) (w.setCell ⟨nb, i, none⟩ v) :=
  ⟨h.rr.set h.ne h.low i v, h.blk.set_ i v, h.kp.set_in (by simp) i v, h.ne, h.old, h.low⟩
end
theorem DecEv.no {l : List UInt8} {w w' : World} {q E : Int} (hd : decEv l = .inl (q, E)) (hE : E ≠ 0) (hb : Below w.heap.size w w') : DecEv l w (.returned (.tuple #[.agg #[.int .i64 0, .int .i32 0, .string ⟨#[]⟩], .int .i64 q, .int .i64 E])) w' := by
  refine ⟨hb, ?_⟩
  rw [hd]
  exact ⟨hE, rfl⟩

set_option maxRecDepth 100000 in
set_option maxHeartbeats 16000000 in
theorem refDecodeEvent_any (c n : Nat) (A : Option Addr) (l : List UInt8) (w : World) (hr : Reads w w.heap.size 1 A n (bcells l)) (hnc : n ≤ c) (hn : n ≤ 140737488355328) (hnil : A = none → c = 0) :
    Calls Tryz.prog 22 #[.slice A n c] w fun e w' => DecEv l w e w' := by
  have hl : l.length = n := by have := hr.1; rw [bcells_length] at this; omega
  obtain ⟨w3, hw3⟩ : ∃ w3, ((w.alloc (.cells #[.int .i64 0, .int .i32 0, .string ⟨#[]⟩] 55)).alloc (.cells #[.slice A n c, .int .i64 0, .int .i64 0] 101)).alloc (.cells #[.int .i64 0, .int .i32 0, .string ⟨#[]⟩] 55) = w3 := ⟨_, rfl⟩
  have hz3 : w3.heap.size = w.heap.size + 3 := by rw [← hw3]; simp
  have hb3 : Below w.heap.size w w3 := by rw [← hw3]; exact (((Below.refl _ _).alloc (Nat.le_refl _) _).alloc (by simp) _).alloc (by simp; omega) _
  have br : Blk w3 w.heap.size 55 #[.int .i64 0, .int .i32 0, .string ⟨#[]⟩] := by rw [← hw3]; exact ((Blk.new _ _ _).alloc _).alloc _
  have bR : Blk w3 (w.heap.size + 1) 101 #[.slice A l.length c, .int .i64 0, .int .i64 0] := by rw [← hw3, hl]; exact (Blk.new' (by simp)).alloc _
  have bn : Blk w3 (w.heap.size + 1 + 1) 55 #[.int .i64 0, .int .i32 0, .string ⟨#[]⟩] := by rw [← hw3]; exact Blk.new' (by simp)
  have hS : RVt w3 w.heap.size (w.heap.size + 1) A c l (w.heap.size + 1 + 1) (0, 0) #[.int .i64 0, .int .i32 0, .string ⟨#[]⟩] w3 := ⟨⟨bR, by rw [hl]; exact hr.below hb3, by omega, by omega, Nat.zero_le _, by omega, hnil⟩, bn, Kp.refl _ _, by omega, by omega, by omega⟩
  have HB3 := Lib.hid hb3
  have HRES := Lib.hid br
  have H0 := Lib.hid hS
  have HL := Lib.hid hl
  obtain ⟨r1, hr1⟩ : ∃ r, r = stepS gInt 0 l (0, 0) := ⟨_, rfl⟩
  obtain ⟨r2, hr2⟩ : ∃ r, r = stepS (gMust (r1.1 == -1)) () l r1.2 := ⟨_, rfl⟩
  obtain ⟨r3, hr3⟩ : ∃ r, r = stepS gLong 0 l r2.2 := ⟨_, rfl⟩
  obtain ⟨r4, hr4⟩ : ∃ r, r = stepS (gMust (r3.1 == -1)) () l r3.2 := ⟨_, rfl⟩
  obtain ⟨r5, hr5⟩ : ∃ r, r = stepS gInt 0 l r4.2 := ⟨_, rfl⟩
  obtain ⟨r6, hr6⟩ : ∃ r, r = stepS (gMust (r5.1 == 0)) () l r5.2 := ⟨_, rfl⟩
  obtain ⟨r7, hr7⟩ : ∃ r, r = stepS gInt 0 l r6.2 := ⟨_, rfl⟩
  obtain ⟨r8, hr8⟩ : ∃ r, r = stepS (gMust (decide (1 ≤ r7.1) && decide (r7.1 ≤ 4))) () l r7.2 := ⟨_, rfl⟩
  obtain ⟨r9, hr9⟩ : ∃ r, r = stepS gInt 0 l r8.2 := ⟨_, rfl⟩
  obtain ⟨r10, hr10⟩ : ∃ r, r = stepS (gMust (r9.1 == 3)) () l r9.2 := ⟨_, rfl⟩
  obtain ⟨r11, hr11⟩ : ∃ r, r = stepS (gText 4096) [] l r10.2 := ⟨_, rfl⟩
  obtain ⟨r12, hr12⟩ : ∃ r, r = stepS gLong 0 l r11.2 := ⟨_, rfl⟩
  have HCH : Hid (evS l (0, 0) = ((r7.1, r11.1, r12.1), r12.2)) := by
    unfold Hid evS
    exact (Rs.bind_eq hr1.symm).trans <| (Rs.bind_eq hr2.symm).trans <| (Rs.bind_eq hr3.symm).trans <| (Rs.bind_eq hr4.symm).trans <| (Rs.bind_eq hr5.symm).trans <| (Rs.bind_eq hr6.symm).trans <| (Rs.bind_eq hr7.symm).trans <| (Rs.bind_eq hr8.symm).trans <| (Rs.bind_eq hr9.symm).trans <| (Rs.bind_eq hr10.symm).trans <| (Rs.bind_eq hr11.symm).trans <| Rs.map_eq hr12.symm
  obtain ⟨bk, hbk⟩ : ∃ b, b = (decide (1 ≤ r7.1) && decide (r7.1 ≤ 4)) := ⟨_, rfl⟩
  rw [← hbk] at hr8
  have hk3 : (r7.1 < 1 ∧ bk = false) ∨ (1 ≤ r7.1 ∧ bk = decide (r7.1 ≤ 4)) := by
    rw [hbk]
    by_cases h1 : 1 ≤ r7.1
    · exact .inr ⟨h1, by simp [h1]⟩
    · exact .inl ⟨by omega, by simp [h1]⟩
  have HR1 := Lib.hid hr1
  have HR2 := Lib.hid hr2
  have HR3 := Lib.hid hr3
  have HR4 := Lib.hid hr4
  have HR5 := Lib.hid hr5
  have HR6 := Lib.hid hr6
  have HR7 := Lib.hid hr7
  have HR8 := Lib.hid hr8
  have HR9 := Lib.hid hr9
  have HR10 := Lib.hid hr10
  have HR11 := Lib.hid hr11
  have HR12 := Lib.hid hr12
  have HK3 := Lib.hid hk3
  have HC1 := Lib.hid (cInt w.heap.size (w.heap.size + 1) A c l (0, 0) w3 r1 HR1.out hS.rr)
  clear hb3 br bR bn hS hr hl hbk hk3 hr1 hr2 hr3 hr4 hr5 hr6 hr7 hr8 hr9 hr10 hr11 hr12
  go_enter Tryz.func22, Tryz.ntmps22
  go_wp2_with (go_at_call 53; refine HC1.out.mono ?_; rintro e v1 ⟨rfl, hk, hR⟩; have K1 := Lib.hid (H0.out.read hk hR); clear hk hR; refine Hid.out ?_)
  have H1 := Lib.hid K1.out
  clear K1 H0 HC1
  have HC2 := Lib.hid (cMust w.heap.size (w.heap.size + 1) A c l (r1.1 == -1) r1.2 _ r2 HR2.out H1.out.rr)
  refine Lib.hid ?_
  go_wp2_with (go_at_call 67; refine HC2.out.mono ?_; rintro e v2 ⟨rfl, hk, hR⟩; have K2 := Lib.hid (H1.out.read hk hR); clear hk hR; refine Hid.out ?_)
  have H2 := Lib.hid K2.out
  clear K2 H1 HC2
  have HC3 := Lib.hid (cLong w.heap.size (w.heap.size + 1) A c l r2.2 _ r3 HR3.out H2.out.rr)
  refine Lib.hid ?_
  go_wp2_with (go_at_call 54; refine HC3.out.mono ?_; rintro e v3 ⟨rfl, hk, hR⟩; have K3 := Lib.hid (H2.out.read hk hR); clear hk hR; refine Hid.out ?_)
  have H3 := Lib.hid K3.out
  clear K3 H2 HC3
  have HC4 := Lib.hid (cMust w.heap.size (w.heap.size + 1) A c l (r3.1 == -1) r3.2 _ r4 HR4.out H3.out.rr)
  refine Lib.hid ?_
  go_wp2_with (go_at_call 67; refine HC4.out.mono ?_; rintro e v4 ⟨rfl, hk, hR⟩; have K4 := Lib.hid (H3.out.read hk hR); clear hk hR; refine Hid.out ?_)
  have H4 := Lib.hid K4.out
  clear K4 H3 HC4
  have HC5 := Lib.hid (cInt w.heap.size (w.heap.size + 1) A c l r4.2 _ r5 HR5.out H4.out.rr)
  refine Lib.hid ?_
  go_wp2_with (go_at_call 53; refine HC5.out.mono ?_; rintro e v5 ⟨rfl, hk, hR⟩; have K5 := Lib.hid (H4.out.read hk hR); clear hk hR; refine Hid.out ?_)
  have H5 := Lib.hid K5.out
  clear K5 H4 HC5
  have HC6 := Lib.hid (cMust w.heap.size (w.heap.size + 1) A c l (r5.1 == 0) r5.2 _ r6 HR6.out H5.out.rr)
  refine Lib.hid ?_
  go_wp2_with (go_at_call 67; refine HC6.out.mono ?_; rintro e v6 ⟨rfl, hk, hR⟩; have K6 := Lib.hid (H5.out.read hk hR); clear hk hR; refine Hid.out ?_)
  have H6 := Lib.hid K6.out
  clear K6 H5 HC6
  have HC7 := Lib.hid (cInt w.heap.size (w.heap.size + 1) A c l r6.2 _ r7 HR7.out H6.out.rr)
  refine Lib.hid ?_
  go_wp2_with (go_at_call 53; refine HC7.out.mono ?_; rintro e v7 ⟨rfl, hk, hR⟩; have K7 := Lib.hid (H6.out.read hk hR); clear hk hR; refine Hid.out ?_)
  have kc := K7.out.blk.cell 1
  have kf := K7.out.blk.frozen 1
  simp only [List.getElem?_toArray, List.getElem?_cons_zero, List.getElem?_cons_succ] at kc
  have H7 := Lib.hid (K7.out.set 1 (.int .i32 r7.1))
  simp only [List.setIfInBounds_toArray, List.set_cons_zero, List.set_cons_succ] at H7
  clear K7 H6 HC7
  have HC8 := Lib.hid (cMust w.heap.size (w.heap.size + 1) A c l bk r7.2 _ r8 HR8.out H7.out.rr)
  have kc1 := H7.out.blk.cell 1
  simp only [List.getElem?_toArray, List.getElem?_cons_zero, List.getElem?_cons_succ] at kc1
  rcases HK3.out with ⟨h1, rfl⟩ | ⟨h1, rfl⟩
  all_goals
    clear HK3
    refine Lib.hid ?_
    go_wp2_with (go_at_call 67; refine HC8.out.mono ?_; rintro e v8 ⟨rfl, hk, hR⟩; have K8 := Lib.hid (H7.out.read hk hR); clear hk hR kc1; refine Hid.out ?_)
    have H8 := Lib.hid K8.out
    clear K8 H7 HC8
    have HC9 := Lib.hid (cInt w.heap.size (w.heap.size + 1) A c l r8.2 _ r9 HR9.out H8.out.rr)
    refine Lib.hid ?_
    go_wp2_with (go_at_call 53; refine HC9.out.mono ?_; rintro e v9 ⟨rfl, hk, hR⟩; have K9 := Lib.hid (H8.out.read hk hR); clear hk hR; refine Hid.out ?_)
    have H9 := Lib.hid K9.out
    clear K9 H8 HC9
    have HC10 := Lib.hid (cMust w.heap.size (w.heap.size + 1) A c l (r9.1 == 3) r9.2 _ r10 HR10.out H9.out.rr)
    refine Lib.hid ?_
    go_wp2_with (go_at_call 67; refine HC10.out.mono ?_; rintro e v10 ⟨rfl, hk, hR⟩; have K10 := Lib.hid (H9.out.read hk hR); clear hk hR; refine Hid.out ?_)
    have H10 := Lib.hid K10.out
    clear K10 H9 HC10
    have HC11 := Lib.hid (cText w.heap.size (w.heap.size + 1) A c l 4096 r10.2 _ r11 HR11.out H10.out.rr)
    refine Lib.hid ?_
    go_wp2_with (go_at_call 68; refine HC11.out.mono ?_; rintro e v11 ⟨rfl, hk, hR⟩; have K11 := Lib.hid (H10.out.read hk hR); clear hk hR; refine Hid.out ?_)
    have kc := K11.out.blk.cell 2
    have kf := K11.out.blk.frozen 2
    simp only [List.getElem?_toArray, List.getElem?_cons_zero, List.getElem?_cons_succ] at kc
    have H11 := Lib.hid (K11.out.set 2 (.string ⟨r11.1.toArray⟩))
    simp only [List.setIfInBounds_toArray, List.set_cons_zero, List.set_cons_succ] at H11
    clear K11 H10 HC11
    have HC12 := Lib.hid (cLong w.heap.size (w.heap.size + 1) A c l r11.2 _ r12 HR12.out H11.out.rr)
    refine Lib.hid ?_
    go_wp2_with (go_at_call 54; refine HC12.out.mono ?_; rintro e v12 ⟨rfl, hk, hR⟩; have K12 := Lib.hid (H11.out.read hk hR); clear hk hR kc kf; refine Hid.out ?_)
    have kc := K12.out.blk.cell 0
    have kf := K12.out.blk.frozen 0
    simp only [List.getElem?_toArray, List.getElem?_cons_zero, List.getElem?_cons_succ] at kc
    have H12 := Lib.hid (K12.out.set 0 (.int .i64 r12.1))
    simp only [List.setIfInBounds_toArray, List.set_cons_zero, List.set_cons_succ] at H12
    clear K12 H11 HC12
    have HCE := Lib.hid (dEnd w.heap.size (w.heap.size + 1) A c l r12.2.1 _ r12.2.2 H12.out.rr)
    obtain ⟨E, hEE⟩ : ∃ E, E = if r12.2.2 = 0 ∧ r12.2.1 < l.length then 21 else r12.2.2 := ⟨_, rfl⟩
    rw [← hEE] at HCE
    have HEE := Lib.hid hEE
    clear hEE
    refine Lib.hid ?_
    go_wp2_with (go_at_call 58; refine HCE.out.mono ?_; rintro e v18 ⟨rfl, hk, hR⟩; obtain ⟨d0, d1, d2, g1, g2⟩ := hR.cells; have K18 := Lib.hid (H12.out.read (t := (r12.2.1, E)) hk hR); clear hk hR kc kf; refine Hid.out ?_)
    clear HCE H12
    have hbz : Below w.heap.size w v18 := HB3.out.trans (K18.out.kp.below (by simp; omega) (by omega))
    have HBZ := Lib.hid hbz
    have HRES18 := Lib.hid (HRES.out.kp K18.out.kp (by simp; omega))
    have HBN18 := Lib.hid K18.out.blk
    have hs18 : w.heap.size + 1 < v18.heap.size := by have := K18.out.kp.size; omega
    clear hbz
    by_cases h0 : E = 0
    rotate_left
    · have hd : decEv l = .inl ((r12.2.1 : Int), E) := by
        have he := HEE.out
        unfold decEv
        rcases hres : gEv l 0 with ⟨x, q⟩ | ⟨er, q⟩
        · have h := sim_ev.yes _ _ _ _ hres
          rw [HCH.out] at h
          injection h with h1 h2
          rw [h2] at he ⊢
          dsimp only at he ⊢
          by_cases hq : q < l.length
          · rw [if_pos ⟨rfl, hq⟩] at he
            rw [if_pos hq, he]
          · rw [if_neg (fun h => hq h.2)] at he
            exact absurd he h0
        · have h := sim_ev.no _ _ _ _ hres
          rw [HCH.out] at h
          dsimp only at h
          have hne := sure_ev _ _ _ _ hres
          rw [h] at he ⊢
          dsimp only at he ⊢
          rw [if_neg (fun h => hne h.1)] at he
          rw [he]
      have HD := Lib.hid hd
      obtain ⟨q, hq⟩ : ∃ q : Int, q = (r12.2.1 : Int) := ⟨_, rfl⟩
      rw [← hq] at HD d1
      have hb : (E != 0) = true := by simp [h0]
      have HNE := Lib.hid h0
      clear hd h0
      refine Lib.hid ?_
      have HDR := Lib.hid d2
      have HDP := Lib.hid d1
      clear HCH HEE HB3 HRES HL K18 HBN18 hq HR1 HR2 HR3 HR4 HR5 HR6 HR7 HR8 HR9 HR10 HR11 HR12
      go_wp2
      clear d0 d1 d2 g1 g2
      refine wp_region_stepsC (fun u v => Kp [w.heap.size] u v ∧ (Blk u w.heap.size 55 #[.int .i64 0, .int .i32 0, .string ⟨#[]⟩] → Blk v w.heap.size 55 #[.int .i64 0, .int .i32 0, .string ⟨#[]⟩])) [.inl (.agg #[.int .i64 0, .int .i32 0, .string ⟨#[]⟩]), .inl (.pointer (some ⟨w.heap.size + 1, 0, none⟩)), .inl (.pointer (some ⟨w.heap.size + 1, 0, none⟩)), .inl (.pointer (some ⟨w.heap.size + 1, 1, none⟩)), .inl (.int .i64 q), .inl (.pointer (some ⟨w.heap.size + 1, 0, none⟩)), .inl (.pointer (some ⟨w.heap.size + 1, 0, none⟩)), .inl (.pointer (some ⟨w.heap.size + 1, 2, none⟩)), .inl (.int .i64 E), .inr (fun _ _ => True), .inl (.int .i64 q), .inl (.int .i64 E)]
        ⟨Kp.drew, fun h => h.drew⟩ (fun h1 h2 => ⟨h1.1.trans h2.1, fun h => h2.2 (h1.2 h)⟩) (by as_aux_lemma => kernel_rfl) (by as_aux_lemma => kernel_rfl) (by as_aux_lemma => kernel_rfl) (by as_aux_lemma => kernel_rfl) ?_ ⟨?_, ?_, ?_, ?_, ?_, ?_, ?_, ?_, ?_, ?_, ?_, ?_, trivial⟩ ?_
      · intro p hp v W W' h hb
        simp only [List.mem_cons, reduceCtorEq, Sum.inr.injEq, List.not_mem_nil, or_false, false_or] at hp
        subst hp
        trivial
      · intro a W hC hold hdep K hK
        refine step_val (want_free rfl) (v := .agg #[.int .i64 0, .int .i32 0, .string ⟨#[]⟩]) ?_ (hK _ _ rfl ⟨Kp.refl _ _, id⟩)
        go_simp
      · intro a W hC hold hdep K hK
        exact step_move (want_free rfl) (.tmp 5) rfl _ (eval_tmp ((hold 5 (free_slot (by as_aux_lemma => kernel_rfl))).trans rfl)) (hK _ _ rfl ⟨Kp.refl _ _, id⟩)
      · intro a W hC hold hdep K hK
        have e57 := eval_tmp (left_val (hdep ⟨1, .data⟩ (by simp) rfl (by decide)) rfl (k := 57) rfl)
        refine step_val (want_free rfl) (v := .pointer (some ⟨w.heap.size + 1, 0, none⟩)) ?_ (hK _ _ rfl ⟨Kp.refl _ _, id⟩)
        unfold execOp
        simp only [e57]
        go_simp
      · intro a W hC hold hdep K hK
        have e58 := eval_tmp (left_val (hdep ⟨2, .data⟩ (by simp) rfl (by decide)) rfl (k := 58) rfl)
        refine step_val (want_free rfl) (v := .pointer (some ⟨w.heap.size + 1, 1, none⟩)) ?_ (hK _ _ rfl ⟨Kp.refl _ _, id⟩)
        unfold execOp
        simp only [e58]
        go_simp
      · intro a W hC hold hdep K hK
        have e59 := eval_tmp (left_val (hdep ⟨3, .data⟩ (by simp) rfl (by decide)) rfl (k := 59) rfl)
        have hc : W.cell? ⟨w.heap.size + 1, 1, none⟩ = some (.int .i64 q) := (hC.1.cell (p := ⟨w.heap.size + 1, 1, none⟩) hs18 (by simp)).trans HDP.out
        refine step_val (want_free rfl) (v := .int .i64 q) ?_ (hK _ _ rfl ⟨Kp.refl _ _, id⟩)
        unfold execOp
        simp only [e59]
        go_simp
      · intro a W hC hold hdep K hK
        exact step_move (want_free rfl) (.tmp 5) rfl _ (eval_tmp ((hold 5 (free_slot (by as_aux_lemma => kernel_rfl))).trans rfl)) (hK _ _ rfl ⟨Kp.refl _ _, id⟩)
      · intro a W hC hold hdep K hK
        have e61 := eval_tmp (left_val (hdep ⟨5, .data⟩ (by simp) rfl (by decide)) rfl (k := 61) rfl)
        refine step_val (want_free rfl) (v := .pointer (some ⟨w.heap.size + 1, 0, none⟩)) ?_ (hK _ _ rfl ⟨Kp.refl _ _, id⟩)
        unfold execOp
        simp only [e61]
        go_simp
      · intro a W hC hold hdep K hK
        have e62 := eval_tmp (left_val (hdep ⟨6, .data⟩ (by simp) rfl (by decide)) rfl (k := 62) rfl)
        refine step_val (want_free rfl) (v := .pointer (some ⟨w.heap.size + 1, 2, none⟩)) ?_ (hK _ _ rfl ⟨Kp.refl _ _, id⟩)
        unfold execOp
        simp only [e62]
        go_simp
      · intro a W hC hold hdep K hK
        have e63 := eval_tmp (left_val (hdep ⟨7, .data⟩ (by simp) rfl (by decide)) rfl (k := 63) rfl)
        have hc : W.cell? ⟨w.heap.size + 1, 2, none⟩ = some (.int .i64 E) := (hC.1.cell (p := ⟨w.heap.size + 1, 2, none⟩) hs18 (by simp)).trans HDR.out
        refine step_val (want_free rfl) (v := .int .i64 E) ?_ (hK _ _ rfl ⟨Kp.refl _ _, id⟩)
        unfold execOp
        simp only [e63]
        go_simp
      · intro a W hC hold hdep K hK
        have e2 := eval_tmp ((hold 2 (free_slot (by as_aux_lemma => kernel_rfl))).trans rfl)
        have e56 := eval_tmp (left_val (hdep ⟨0, .data⟩ (by simp) rfl (by decide)) rfl (k := 56) rfl)
        rw [if_pos (want_free rfl)]
        exact wp_store_row 55 (.tmp 2) (.tmp 56) rfl w.heap.size #[.int .i64 0, .int .i32 0, .string ⟨#[]⟩] e2 e56 55 #[.int .i64 0, .int .i32 0, .string ⟨#[]⟩] (hC.2 HRES18.out) (by rw [ev_size]; rfl) rfl (by simp [Value.oneCell']) (hK _ _ trivial ⟨Kp.setRow _ _, fun h => cells_setRow h⟩)
      · intro a W hC hold hdep K hK
        exact step_assign (want_free rfl) (.tmp 60) rfl _ (eval_tmp (left_val (hdep ⟨4, .data⟩ (by simp) rfl (by decide)) rfl (k := 60) rfl)) (hK _ _ rfl ⟨Kp.refl _ _, id⟩)
      · intro a W hC hold hdep K hK
        exact step_assign (want_free rfl) (.tmp 64) rfl _ (eval_tmp (left_val (hdep ⟨8, .data⟩ (by simp) rfl (by decide)) rfl (k := 64) rfl)) (hK _ _ rfl ⟨Kp.refl _ _, id⟩)
      · intro a W hC hdef hlen hold hall
        have h2 := (hold 2 (free_slot (by as_aux_lemma => kernel_rfl))).trans rfl
        have h3 := left_val (hall 10 (by decide)) rfl (k := 3) rfl
        have h4 := left_val (hall 11 (by decide)) rfl (k := 4) rfl
        have hR := hC.2 HRES18.out
        have hB : Below w.heap.size w W := HBZ.out.trans (hC.1.below (by simp) HBZ.out.size)
        clear hall hold hlen
        obtain ⟨tm, df⟩ := a
        dsimp only at hdef h2 h3 h4
        subst hdef
        go_wp2
        (try simp only [Exit.inBlock, Exit.then])
        refine bodyPost_ret (results_cell_tmp2 rfl _ _ w.heap.size 55 #[.int .i64 0, .int .i32 0, .string ⟨#[]⟩] _ (.int .i64 q) (.int .i64 E) (by rw [Array.getD_eq_getD_getElem?, h2]; rfl) (by rw [Array.getD_eq_getD_getElem?, h3]; rfl) (by rw [Array.getD_eq_getD_getElem?, h4]; rfl) hR Tryz.underlying55 rfl (by rw [ev_size]; rfl)) rfl ?_
        exact DecEv.no HD.out HNE.out hB
    · have he := HEE.out
      rw [h0] at he
      have h17 : r12.2.2 = 0 := by
        by_cases h : r12.2.2 = 0 ∧ r12.2.1 < l.length
        · rw [if_pos h] at he; cases he
        · rw [if_neg h] at he; exact he.symm
      have hq : ¬ r12.2.1 < l.length := fun h => by rw [if_pos ⟨h17, h⟩] at he; cases he
      have hd : decEv l = .inr (r7.1, r11.1, r12.1) := by
        unfold decEv
        rcases hres : gEv l 0 with ⟨x, q⟩ | ⟨er, q⟩
        · have h := sim_ev.yes _ _ _ _ hres
          rw [HCH.out] at h
          injection h with h1 h2
          rw [h2] at hq
          dsimp only at hq ⊢
          rw [if_neg hq, h1]
        · have h := sim_ev.no _ _ _ _ hres
          rw [HCH.out] at h
          dsimp only at h
          rw [h] at h17
          exact absurd h17 (sure_ev _ _ _ _ hres)
      have HD := Lib.hid hd
      rw [h0] at d2
      clear he h17 hq hd h0 HEE HCH
      refine Lib.hid ?_
      go_wp2_with (first
        | (refine wpList_load_row rfl 55 (.tmp 6) rfl (w.heap.size + 1 + 1) rfl 55 _ _ _ HBN18.out Tryz.underlying55 rfl (by rw [ev_size]; rfl) ?_)
        | (refine wpList_store_row rfl 55 (.tmp 2) (.tmp 65) rfl w.heap.size #[.int .i64 r12.1, .int .i32 r7.1, .string ⟨r11.1.toArray⟩] rfl rfl 55 _ HRES18.out (by rw [ev_size]; rfl) rfl (by simp [Value.oneCell']) ?_
           generalize hww : World.setRow _ _ _ = w5
           have HB5 : Hid (Below w.heap.size w w5) := by unfold Hid; rw [← hww]; exact below_setRow' HBZ.out (Nat.le_refl _) _
           have HR5 : Hid (Blk w5 w.heap.size 55 #[.int .i64 r12.1, .int .i32 r7.1, .string ⟨r11.1.toArray⟩]) := by unfold Hid; rw [← hww]; exact cells_setRow HRES18.out
           clear hww))
      refine bodyPost_ret (results_cell_tmp2 rfl _ _ w.heap.size 55 #[.int .i64 r12.1, .int .i32 r7.1, .string ⟨r11.1.toArray⟩] _ (.int .i64 0) (.int .i64 0) rfl rfl rfl HR5.out Tryz.underlying55 rfl (by rw [ev_size]; rfl)) rfl ?_
      refine ⟨HB5.out, ?_⟩
      rw [HD.out]
end Go.Proofs.YtnbaajplelchjaaGreatDoor
