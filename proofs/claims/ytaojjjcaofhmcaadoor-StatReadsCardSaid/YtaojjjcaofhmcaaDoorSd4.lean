/- A node read by the document: Decode. (printed by gen_d4.py) -/
import Derived.Test.YtaojjjcaofhmcaaDoorSd3
import Derived.Test.YtaojjjcaofhmcaaDoorInvc
import Derived.StillTailTactics
set_option linter.unusedVariables false
set_option linter.unusedSimpArgs false
namespace Go.Proofs.YtaojjjcaofhmcaaDoor
open Go.RowKit

/-- the state in the midst -/
structure RSt (w0 : World) (base R : Nat) (A : Option Addr) (c : Nat) (l : List UInt8) (nb : Nat) (s : Nat × Int) (cs : Array Value) (w : World) : Prop where
  rr : RR w base R A c l s.1 s.2
  blk : Blk w nb 32 cs
  kp : Kp [R, nb] w0 w
  ne : R ≠ nb
  old : R < w0.heap.size ∧ nb < w0.heap.size
  low : base ≤ nb
section
variable {w0 w w' : World} {base R c nb : Nat} {s t : Nat × Int} {A : Option Addr} {l : List UInt8} {cs : Array Value}
theorem RSt.read (h : RSt w0 base R A c l nb s cs w) (hk : Kp [R] w w') (hR : RR w' base R A c l t.1 t.2) : RSt w0 base R A c l nb t cs w' :=
  ⟨hR, h.blk.kp hk (by simpa using h.ne.symm), h.kp.to hk (fun _ h _ => h) (fun y hy _ => by simp at hy; simp [hy]), h.ne, h.old, h.low⟩
theorem RSt.set (h : RSt w0 base R A c l nb s cs w) (i : Nat) (v : Value) : RSt w0 base R A c l nb s (cs.setIfInBounds i v) (w.setCell ⟨nb, i, none⟩ v) :=
  ⟨h.rr.set h.ne h.low i v, h.blk.set_ i v, h.kp.set_in (by simp) i v, h.ne, h.old, h.low⟩
end
theorem wpAny_takeL {P : Program} {md : Region.Mode} {l : List Oper} {Q : Exit → Act → World → Prop} {i : Nat} {oi : Oper} (v : Value) {fuel : Nat} {listed : Array Bool} {a : Act} {w : World} (hi : l[i]? = some oi)
    (hs : Region.noSelect l.toArray = true) (hf : Region.free md l.toArray listed i = true) (hr : (Region.ready md l.toArray listed).contains i = true)
    (hQ : ∀ c a w, Q (.panic c) (a.put oi.dst v) w → Q (.panic c) a w) (hy : Yields P l.toArray oi v a)
    (h : wpAny P md l.toArray Q fuel (listed.setIfInBounds i true) (a.put oi.dst v) w) : wpAny P md l.toArray Q (fuel + 1) listed a w :=
  wpAny_take (by simpa using hi) hs hf hr hQ hy h
/-- what has not failed had not failed before -/
theorem stepS_alive {α : Type} {g : Rg α} {d : α} {l : List UInt8} {s : Nat × Int} {r : α × (Nat × Int)} (hr : r = stepS g d l s) (h : r.2.2 = 0) : s.2 = 0 := by
  by_cases he : s.2 = 0
  · exact he
  · subst hr
    unfold stepS at h
    rw [if_neg he] at h
    exact h
/-- a reading on, as a contract -/
theorem cLong (base R : Nat) (A : Option Addr) (c : Nat) (l : List UInt8) (s : Nat × Int) (w : World) (r : Int × (Nat × Int)) (hr : r = stepS gLong 0 l s) (h : RR w base R A c l s.1 s.2) :
    Calls Tryd.prog 76 #[.pointer (some ⟨R, 0, none⟩)] w fun e w' => e = .returned (.int .i64 r.1) ∧ Kp [R] w w' ∧ RR w' base R A c l r.2.1 r.2.2 :=
  (sLong base R A c l s.1 s.2 w h).mono fun e w' ⟨⟨v, h1, h2⟩, h3, h4⟩ => by rw [hr]; exact ⟨by rw [h1]; exact congrArg Ending.returned h2, h3, h4⟩
theorem cInt (base R : Nat) (A : Option Addr) (c : Nat) (l : List UInt8) (s : Nat × Int) (w : World) (r : Int × (Nat × Int)) (hr : r = stepS gInt 0 l s) (h : RR w base R A c l s.1 s.2) :
    Calls Tryd.prog 77 #[.pointer (some ⟨R, 0, none⟩)] w fun e w' => e = .returned (.int .i32 r.1) ∧ Kp [R] w w' ∧ RR w' base R A c l r.2.1 r.2.2 :=
  (sInt base R A c l s.1 s.2 w h).mono fun e w' ⟨⟨v, h1, h2⟩, h3, h4⟩ => by rw [hr]; exact ⟨by rw [h1]; exact congrArg Ending.returned h2, h3, h4⟩
theorem cBool (base R : Nat) (A : Option Addr) (c : Nat) (l : List UInt8) (s : Nat × Int) (w : World) (r : Bool × (Nat × Int)) (hr : r = stepS gBool false l s) (h : RR w base R A c l s.1 s.2) :
    Calls Tryd.prog 78 #[.pointer (some ⟨R, 0, none⟩)] w fun e w' => e = .returned (.bool r.1) ∧ Kp [R] w w' ∧ RR w' base R A c l r.2.1 r.2.2 :=
  (sBool base R A c l s.1 s.2 w h).mono fun e w' ⟨⟨v, h1, h2⟩, h3, h4⟩ => by rw [hr]; exact ⟨by rw [h1]; exact congrArg Ending.returned h2, h3, h4⟩
theorem cText (base R : Nat) (A : Option Addr) (c : Nat) (l : List UInt8) (most : Int) (s : Nat × Int) (w : World) (r : List UInt8 × (Nat × Int)) (hr : r = stepS (gText most) [] l s) (h : RR w base R A c l s.1 s.2) :
    Calls Tryd.prog 73 #[.pointer (some ⟨R, 0, none⟩), .int .i64 most] w fun e w' => e = .returned (.string ⟨r.1.toArray⟩) ∧ Kp [R] w w' ∧ RR w' base R A c l r.2.1 r.2.2 :=
  (sText base R A c l s.1 s.2 w most h h.low).mono fun e w' ⟨⟨v, h1, h2⟩, h3, h4⟩ => by rw [hr]; exact ⟨by rw [h1]; exact congrArg Ending.returned h2, h3, h4⟩
theorem cBuf (base R : Nat) (A : Option Addr) (c : Nat) (l : List UInt8) (most : Int) (s : Nat × Int) (w : World) (r : List UInt8 × (Nat × Int)) (hr : r = stepS (gBuf most) [] l s) (h : RR w base R A c l s.1 s.2) :
    Calls Tryd.prog 74 #[.pointer (some ⟨R, 0, none⟩), .int .i64 most, .bool false] w fun e w' => ∃ A' c', e = .returned (.slice A' r.1.length c') ∧ w'.ownsRow w.heap.size 5 1 (.slice A' r.1.length c') r.1.length (bcells r.1) ∧ Kp [R] w w' ∧ RR w' base R A c l r.2.1 r.2.2 :=
  (sBuf base R A c l s.1 s.2 w most h h.low).mono fun e w' ⟨⟨v, h1, A', c', h2, h5⟩, h3, h4⟩ => by rw [hr]; exact ⟨A', c', by rw [h1, h2], h2 ▸ h5, h3, h4⟩
theorem cAcl (base R : Nat) (A : Option Addr) (c : Nat) (l : List UInt8) (s : Nat × Int) (w : World) (r : List AclT × (Nat × Int)) (hr : r = stepS (gGet 16 12 gAcl) [] l s) (h : RR w base R A c l s.1 s.2) :
    Calls Tryd.prog 75 #[.pointer (some ⟨R, 0, none⟩)] w fun e w' => ∃ L A' c', (r.2.2 = 0 → L = r.1) ∧ e = .returned (.slice A' L.length c') ∧ w'.ownsRow w.heap.size 57 3 (.slice A' L.length c') L.length (aclCells L) ∧ Kp [R] w w' ∧ RR w' base R A c l r.2.1 r.2.2 :=
  (sGetAcl base R A c l s w h).mono fun e w' ⟨r', hr', ⟨L, v, h1, ⟨A', c', h2, h5⟩, h6⟩, h3, h4⟩ => by
    obtain rfl : r = r' := hr.trans hr'.symm
    exact ⟨L, A', c', h6, by rw [h1, h2], h2 ▸ h5, h3, h4⟩

set_option maxRecDepth 100000 in
set_option maxHeartbeats 16000000 in
theorem refDecode_any (c n : Nat) (A : Option Addr) (l : List UInt8) (w : World) (hr : Reads w w.heap.size 1 A n (bcells l)) (hnc : n ≤ c) (hn : n ≤ 140737488355328) (hnil : A = none → c = 0) (hE : EnvS w) :
    Calls Tryd.prog 24 #[.slice A n c] w fun e w' => DecEnd l w e w' := by
  have hl : l.length = n := by have := hr.1; rw [bcells_length] at this; omega
  obtain ⟨w3, hw3⟩ : ∃ w3, ((w.alloc (.cells #[.string ⟨#[]⟩, .slice none 0 0, .slice none 0 0, .int .i64 0, .int .i64 0, .int .i64 0, .int .i64 0, .int .i64 0, .int .i64 0, .int .i64 0, .int .i64 0, .int .i32 0, .int .i32 0, .int .i32 0, .bool false, .int .i64 0, .int .i64 0] 32)).alloc (.cells #[.slice A n c, .int .i64 0, .int .i64 0] 125)).alloc (.cells #[.string ⟨#[]⟩, .slice none 0 0, .slice none 0 0, .int .i64 0, .int .i64 0, .int .i64 0, .int .i64 0, .int .i64 0, .int .i64 0, .int .i64 0, .int .i64 0, .int .i32 0, .int .i32 0, .int .i32 0, .bool false, .int .i64 0, .int .i64 0] 32) = w3 := ⟨_, rfl⟩
  have hz3 : w3.heap.size = w.heap.size + 3 := by rw [← hw3]; simp
  have hb3 : Below w.heap.size w w3 := by rw [← hw3]; exact (((Below.refl _ _).alloc (Nat.le_refl _) _).alloc (by simp) _).alloc (by simp; omega) _
  have br : Blk w3 w.heap.size 32 #[.string ⟨#[]⟩, .slice none 0 0, .slice none 0 0, .int .i64 0, .int .i64 0, .int .i64 0, .int .i64 0, .int .i64 0, .int .i64 0, .int .i64 0, .int .i64 0, .int .i32 0, .int .i32 0, .int .i32 0, .bool false, .int .i64 0, .int .i64 0] := by rw [← hw3]; exact ((Blk.new _ _ _).alloc _).alloc _
  have bR : Blk w3 (w.heap.size + 1) 125 #[.slice A l.length c, .int .i64 0, .int .i64 0] := by rw [← hw3, hl]; exact (Blk.new' (by simp)).alloc _
  have bn : Blk w3 (w.heap.size + 1 + 1) 32 #[.string ⟨#[]⟩, .slice none 0 0, .slice none 0 0, .int .i64 0, .int .i64 0, .int .i64 0, .int .i64 0, .int .i64 0, .int .i64 0, .int .i64 0, .int .i64 0, .int .i32 0, .int .i32 0, .int .i32 0, .bool false, .int .i64 0, .int .i64 0] := by rw [← hw3]; exact Blk.new' (by simp)
  have hS : RSt w3 w.heap.size (w.heap.size + 1) A c l (w.heap.size + 1 + 1) (0, 0) #[.string ⟨#[]⟩, .slice none 0 0, .slice none 0 0, .int .i64 0, .int .i64 0, .int .i64 0, .int .i64 0, .int .i64 0, .int .i64 0, .int .i64 0, .int .i64 0, .int .i32 0, .int .i32 0, .int .i32 0, .bool false, .int .i64 0, .int .i64 0] w3 := ⟨⟨bR, by rw [hl]; exact hr.below hb3, by omega, by omega, Nat.zero_le _, by omega, hnil⟩, bn, Kp.refl _ _, by omega, by omega, by omega⟩
  have HE := Lib.hid hE
  have HB3 := Lib.hid hb3
  have HRES := Lib.hid br
  have H0 := Lib.hid hS
  have HL := Lib.hid hl

  obtain ⟨r1, hr1⟩ : ∃ r, r = stepS (gText 4096) [] l (0, 0) := ⟨_, rfl⟩
  obtain ⟨r2, hr2⟩ : ∃ r, r = stepS (gBuf 1048575) [] l r1.2 := ⟨_, rfl⟩
  obtain ⟨r3, hr3⟩ : ∃ r, r = stepS (gGet 16 12 gAcl) [] l r2.2 := ⟨_, rfl⟩
  obtain ⟨r4, hr4⟩ : ∃ r, r = stepS gLong 0 l r3.2 := ⟨_, rfl⟩
  obtain ⟨r5, hr5⟩ : ∃ r, r = stepS gLong 0 l r4.2 := ⟨_, rfl⟩
  obtain ⟨r6, hr6⟩ : ∃ r, r = stepS gLong 0 l r5.2 := ⟨_, rfl⟩
  obtain ⟨r7, hr7⟩ : ∃ r, r = stepS gLong 0 l r6.2 := ⟨_, rfl⟩
  obtain ⟨r8, hr8⟩ : ∃ r, r = stepS gLong 0 l r7.2 := ⟨_, rfl⟩
  obtain ⟨r9, hr9⟩ : ∃ r, r = stepS gLong 0 l r8.2 := ⟨_, rfl⟩
  obtain ⟨r10, hr10⟩ : ∃ r, r = stepS gLong 0 l r9.2 := ⟨_, rfl⟩
  obtain ⟨r11, hr11⟩ : ∃ r, r = stepS gLong 0 l r10.2 := ⟨_, rfl⟩
  obtain ⟨r12, hr12⟩ : ∃ r, r = stepS gInt 0 l r11.2 := ⟨_, rfl⟩
  obtain ⟨r13, hr13⟩ : ∃ r, r = stepS gInt 0 l r12.2 := ⟨_, rfl⟩
  obtain ⟨r14, hr14⟩ : ∃ r, r = stepS gInt 0 l r13.2 := ⟨_, rfl⟩
  obtain ⟨r15, hr15⟩ : ∃ r, r = stepS gBool false l r14.2 := ⟨_, rfl⟩
  obtain ⟨r16, hr16⟩ : ∃ r, r = stepS gLong 0 l r15.2 := ⟨_, rfl⟩
  obtain ⟨r17, hr17⟩ : ∃ r, r = stepS gLong 0 l r16.2 := ⟨_, rfl⟩
  have HCH : Hid (nodeS l (0, 0) = (⟨r1.1, r2.1, r3.1, [r4.1, r5.1, r6.1, r7.1, r8.1, r9.1, r10.1, r11.1], [r12.1, r13.1, r14.1], r15.1, r16.1, r17.1⟩, r17.2)) := by
    unfold Hid
    rw [hr17, hr16, hr15, hr14, hr13, hr12, hr11, hr10, hr9, hr8, hr7, hr6, hr5, hr4, hr3, hr2, hr1]
    rfl
  have HR1 := Lib.hid hr1
  have HR2 := Lib.hid hr2
  have HR3 := Lib.hid hr3
  have HR4 := Lib.hid hr4
  have HR5 := Lib.hid hr5
  have HR6 := Lib.hid hr6
  have HR7 := Lib.hid hr7
  have HR8 := Lib.hid hr8
  have HR9 := Lib.hid hr9
  have HR10 := Lib.hid hr10
  have HR11 := Lib.hid hr11
  have HR12 := Lib.hid hr12
  have HR13 := Lib.hid hr13
  have HR14 := Lib.hid hr14
  have HR15 := Lib.hid hr15
  have HR16 := Lib.hid hr16
  have HR17 := Lib.hid hr17
  have h1 := cText w.heap.size (w.heap.size + 1) A c l 4096 (0, 0) w3 r1 hr1 hS.rr
  have HC1 := Lib.hid h1
  clear h1 hE hb3 br bR bn hS hr hl hr1 hr2 hr3 hr4 hr5 hr6 hr7 hr8 hr9 hr10 hr11 hr12 hr13 hr14 hr15 hr16 hr17
  go_enter Tryd.func24, Tryd.ntmps24
  go_wp2_with (go_at_call 73; refine HC1.out.mono ?_; rintro e v1 ⟨rfl, hk, hR⟩; have K1 := Lib.hid (H0.out.read hk hR); clear hk hR; refine Hid.out ?_)
  obtain ⟨u1, kc⟩ := blk_has K1.out.blk 0 (by simp)
  have kf := K1.out.blk.frozen 0
  have H1 := Lib.hid (K1.out.set 0 (.string ⟨r1.1.toArray⟩))
  have HC2 := Lib.hid (cBuf w.heap.size (w.heap.size + 1) A c l 1048575 r1.2 _ r2 HR2.out H1.out.rr)
  refine Lib.hid ?_
  go_wp2_with (go_at_call 74; refine HC2.out.mono ?_; rintro e v2 ⟨dA, dc, rfl, ho, hk, hR⟩; have K2 := Lib.hid (H1.out.read hk hR); have OD2 := Lib.hid (own_low ho H1.out.kp.size); clear hk hR ho kc kf; refine Hid.out ?_)
  obtain ⟨u2, kc⟩ := blk_has K2.out.blk 1 (by simp)
  have kf := K2.out.blk.frozen 1
  have H2 := Lib.hid (K2.out.set 1 (.slice dA r2.1.length dc))
  have ODx2 := Lib.hid (own_setf (g := w.heap.size + 1 + 1) (i := 1) (u := .slice dA r2.1.length dc) OD2.out (by omega))
  have HC3 := Lib.hid (cAcl w.heap.size (w.heap.size + 1) A c l  r2.2 _ r3 HR3.out H2.out.rr)
  refine Lib.hid ?_
  go_wp2_with (go_at_call 75; refine HC3.out.mono ?_; rintro e v3 ⟨L, aA, ac, hL, rfl, ho, hk, hR⟩; have K3 := Lib.hid (H2.out.read hk hR); have OD3 := Lib.hid (own_far ODx2.out hk (by simp; omega)); have OA3 := Lib.hid (own_low ho H2.out.kp.size); have HLL := Lib.hid hL; clear hk hR ho hL kc kf; refine Hid.out ?_)
  obtain ⟨u3, kc⟩ := blk_has K3.out.blk 2 (by simp)
  have kf := K3.out.blk.frozen 2
  have H3 := Lib.hid (K3.out.set 2 (.slice aA L.length ac))
  have ODx3 := Lib.hid (own_setf (g := w.heap.size + 1 + 1) (i := 2) (u := .slice aA L.length ac) OD3.out (by omega))
  have OAx3 := Lib.hid (own_setf (g := w.heap.size + 1 + 1) (i := 2) (u := .slice aA L.length ac) OA3.out (by omega))
  have HC4 := Lib.hid (cLong w.heap.size (w.heap.size + 1) A c l  r3.2 _ r4 HR4.out H3.out.rr)
  refine Lib.hid ?_
  go_wp2_with (go_at_call 76; refine HC4.out.mono ?_; rintro e v4 ⟨rfl, hk, hR⟩; have K4 := Lib.hid (H3.out.read hk hR); have OD4 := Lib.hid (own_far ODx3.out hk (by simp; omega)); have OA4 := Lib.hid (own_far OAx3.out hk (by simp; omega)); clear hk hR kc kf; refine Hid.out ?_)
  obtain ⟨u4, kc⟩ := blk_has K4.out.blk 3 (by simp)
  have kf := K4.out.blk.frozen 3
  have H4 := Lib.hid (K4.out.set 3 (.int .i64 r4.1))
  have ODx4 := Lib.hid (own_setf (g := w.heap.size + 1 + 1) (i := 3) (u := .int .i64 r4.1) OD4.out (by omega))
  have OAx4 := Lib.hid (own_setf (g := w.heap.size + 1 + 1) (i := 3) (u := .int .i64 r4.1) OA4.out (by omega))
  have HC5 := Lib.hid (cLong w.heap.size (w.heap.size + 1) A c l  r4.2 _ r5 HR5.out H4.out.rr)
  refine Lib.hid ?_
  go_wp2_with (go_at_call 76; refine HC5.out.mono ?_; rintro e v5 ⟨rfl, hk, hR⟩; have K5 := Lib.hid (H4.out.read hk hR); have OD5 := Lib.hid (own_far ODx4.out hk (by simp; omega)); have OA5 := Lib.hid (own_far OAx4.out hk (by simp; omega)); clear hk hR kc kf; refine Hid.out ?_)
  obtain ⟨u5, kc⟩ := blk_has K5.out.blk 4 (by simp)
  have kf := K5.out.blk.frozen 4
  have H5 := Lib.hid (K5.out.set 4 (.int .i64 r5.1))
  have ODx5 := Lib.hid (own_setf (g := w.heap.size + 1 + 1) (i := 4) (u := .int .i64 r5.1) OD5.out (by omega))
  have OAx5 := Lib.hid (own_setf (g := w.heap.size + 1 + 1) (i := 4) (u := .int .i64 r5.1) OA5.out (by omega))
  have HC6 := Lib.hid (cLong w.heap.size (w.heap.size + 1) A c l  r5.2 _ r6 HR6.out H5.out.rr)
  refine Lib.hid ?_
  go_wp2_with (go_at_call 76; refine HC6.out.mono ?_; rintro e v6 ⟨rfl, hk, hR⟩; have K6 := Lib.hid (H5.out.read hk hR); have OD6 := Lib.hid (own_far ODx5.out hk (by simp; omega)); have OA6 := Lib.hid (own_far OAx5.out hk (by simp; omega)); clear hk hR kc kf; refine Hid.out ?_)
  obtain ⟨u6, kc⟩ := blk_has K6.out.blk 5 (by simp)
  have kf := K6.out.blk.frozen 5
  have H6 := Lib.hid (K6.out.set 5 (.int .i64 r6.1))
  have ODx6 := Lib.hid (own_setf (g := w.heap.size + 1 + 1) (i := 5) (u := .int .i64 r6.1) OD6.out (by omega))
  have OAx6 := Lib.hid (own_setf (g := w.heap.size + 1 + 1) (i := 5) (u := .int .i64 r6.1) OA6.out (by omega))
  have HC7 := Lib.hid (cLong w.heap.size (w.heap.size + 1) A c l  r6.2 _ r7 HR7.out H6.out.rr)
  refine Lib.hid ?_
  go_wp2_with (go_at_call 76; refine HC7.out.mono ?_; rintro e v7 ⟨rfl, hk, hR⟩; have K7 := Lib.hid (H6.out.read hk hR); have OD7 := Lib.hid (own_far ODx6.out hk (by simp; omega)); have OA7 := Lib.hid (own_far OAx6.out hk (by simp; omega)); clear hk hR kc kf; refine Hid.out ?_)
  obtain ⟨u7, kc⟩ := blk_has K7.out.blk 6 (by simp)
  have kf := K7.out.blk.frozen 6
  have H7 := Lib.hid (K7.out.set 6 (.int .i64 r7.1))
  have ODx7 := Lib.hid (own_setf (g := w.heap.size + 1 + 1) (i := 6) (u := .int .i64 r7.1) OD7.out (by omega))
  have OAx7 := Lib.hid (own_setf (g := w.heap.size + 1 + 1) (i := 6) (u := .int .i64 r7.1) OA7.out (by omega))
  have HC8 := Lib.hid (cLong w.heap.size (w.heap.size + 1) A c l  r7.2 _ r8 HR8.out H7.out.rr)
  refine Lib.hid ?_
  go_wp2_with (go_at_call 76; refine HC8.out.mono ?_; rintro e v8 ⟨rfl, hk, hR⟩; have K8 := Lib.hid (H7.out.read hk hR); have OD8 := Lib.hid (own_far ODx7.out hk (by simp; omega)); have OA8 := Lib.hid (own_far OAx7.out hk (by simp; omega)); clear hk hR kc kf; refine Hid.out ?_)
  obtain ⟨u8, kc⟩ := blk_has K8.out.blk 7 (by simp)
  have kf := K8.out.blk.frozen 7
  have H8 := Lib.hid (K8.out.set 7 (.int .i64 r8.1))
  have ODx8 := Lib.hid (own_setf (g := w.heap.size + 1 + 1) (i := 7) (u := .int .i64 r8.1) OD8.out (by omega))
  have OAx8 := Lib.hid (own_setf (g := w.heap.size + 1 + 1) (i := 7) (u := .int .i64 r8.1) OA8.out (by omega))
  have HC9 := Lib.hid (cLong w.heap.size (w.heap.size + 1) A c l  r8.2 _ r9 HR9.out H8.out.rr)
  refine Lib.hid ?_
  go_wp2_with (go_at_call 76; refine HC9.out.mono ?_; rintro e v9 ⟨rfl, hk, hR⟩; have K9 := Lib.hid (H8.out.read hk hR); have OD9 := Lib.hid (own_far ODx8.out hk (by simp; omega)); have OA9 := Lib.hid (own_far OAx8.out hk (by simp; omega)); clear hk hR kc kf; refine Hid.out ?_)
  obtain ⟨u9, kc⟩ := blk_has K9.out.blk 8 (by simp)
  have kf := K9.out.blk.frozen 8
  have H9 := Lib.hid (K9.out.set 8 (.int .i64 r9.1))
  have ODx9 := Lib.hid (own_setf (g := w.heap.size + 1 + 1) (i := 8) (u := .int .i64 r9.1) OD9.out (by omega))
  have OAx9 := Lib.hid (own_setf (g := w.heap.size + 1 + 1) (i := 8) (u := .int .i64 r9.1) OA9.out (by omega))
  have HC10 := Lib.hid (cLong w.heap.size (w.heap.size + 1) A c l  r9.2 _ r10 HR10.out H9.out.rr)
  refine Lib.hid ?_
  go_wp2_with (go_at_call 76; refine HC10.out.mono ?_; rintro e v10 ⟨rfl, hk, hR⟩; have K10 := Lib.hid (H9.out.read hk hR); have OD10 := Lib.hid (own_far ODx9.out hk (by simp; omega)); have OA10 := Lib.hid (own_far OAx9.out hk (by simp; omega)); clear hk hR kc kf; refine Hid.out ?_)
  obtain ⟨u10, kc⟩ := blk_has K10.out.blk 9 (by simp)
  have kf := K10.out.blk.frozen 9
  have H10 := Lib.hid (K10.out.set 9 (.int .i64 r10.1))
  have ODx10 := Lib.hid (own_setf (g := w.heap.size + 1 + 1) (i := 9) (u := .int .i64 r10.1) OD10.out (by omega))
  have OAx10 := Lib.hid (own_setf (g := w.heap.size + 1 + 1) (i := 9) (u := .int .i64 r10.1) OA10.out (by omega))
  have HC11 := Lib.hid (cLong w.heap.size (w.heap.size + 1) A c l  r10.2 _ r11 HR11.out H10.out.rr)
  refine Lib.hid ?_
  go_wp2_with (go_at_call 76; refine HC11.out.mono ?_; rintro e v11 ⟨rfl, hk, hR⟩; have K11 := Lib.hid (H10.out.read hk hR); have OD11 := Lib.hid (own_far ODx10.out hk (by simp; omega)); have OA11 := Lib.hid (own_far OAx10.out hk (by simp; omega)); clear hk hR kc kf; refine Hid.out ?_)
  obtain ⟨u11, kc⟩ := blk_has K11.out.blk 10 (by simp)
  have kf := K11.out.blk.frozen 10
  have H11 := Lib.hid (K11.out.set 10 (.int .i64 r11.1))
  have ODx11 := Lib.hid (own_setf (g := w.heap.size + 1 + 1) (i := 10) (u := .int .i64 r11.1) OD11.out (by omega))
  have OAx11 := Lib.hid (own_setf (g := w.heap.size + 1 + 1) (i := 10) (u := .int .i64 r11.1) OA11.out (by omega))
  have HC12 := Lib.hid (cInt w.heap.size (w.heap.size + 1) A c l  r11.2 _ r12 HR12.out H11.out.rr)
  refine Lib.hid ?_
  go_wp2_with (go_at_call 77; refine HC12.out.mono ?_; rintro e v12 ⟨rfl, hk, hR⟩; have K12 := Lib.hid (H11.out.read hk hR); have OD12 := Lib.hid (own_far ODx11.out hk (by simp; omega)); have OA12 := Lib.hid (own_far OAx11.out hk (by simp; omega)); clear hk hR kc kf; refine Hid.out ?_)
  obtain ⟨u12, kc⟩ := blk_has K12.out.blk 11 (by simp)
  have kf := K12.out.blk.frozen 11
  have H12 := Lib.hid (K12.out.set 11 (.int .i32 r12.1))
  have ODx12 := Lib.hid (own_setf (g := w.heap.size + 1 + 1) (i := 11) (u := .int .i32 r12.1) OD12.out (by omega))
  have OAx12 := Lib.hid (own_setf (g := w.heap.size + 1 + 1) (i := 11) (u := .int .i32 r12.1) OA12.out (by omega))
  have HC13 := Lib.hid (cInt w.heap.size (w.heap.size + 1) A c l  r12.2 _ r13 HR13.out H12.out.rr)
  refine Lib.hid ?_
  go_wp2_with (go_at_call 77; refine HC13.out.mono ?_; rintro e v13 ⟨rfl, hk, hR⟩; have K13 := Lib.hid (H12.out.read hk hR); have OD13 := Lib.hid (own_far ODx12.out hk (by simp; omega)); have OA13 := Lib.hid (own_far OAx12.out hk (by simp; omega)); clear hk hR kc kf; refine Hid.out ?_)
  obtain ⟨u13, kc⟩ := blk_has K13.out.blk 12 (by simp)
  have kf := K13.out.blk.frozen 12
  have H13 := Lib.hid (K13.out.set 12 (.int .i32 r13.1))
  have ODx13 := Lib.hid (own_setf (g := w.heap.size + 1 + 1) (i := 12) (u := .int .i32 r13.1) OD13.out (by omega))
  have OAx13 := Lib.hid (own_setf (g := w.heap.size + 1 + 1) (i := 12) (u := .int .i32 r13.1) OA13.out (by omega))
  have HC14 := Lib.hid (cInt w.heap.size (w.heap.size + 1) A c l  r13.2 _ r14 HR14.out H13.out.rr)
  refine Lib.hid ?_
  go_wp2_with (go_at_call 77; refine HC14.out.mono ?_; rintro e v14 ⟨rfl, hk, hR⟩; have K14 := Lib.hid (H13.out.read hk hR); have OD14 := Lib.hid (own_far ODx13.out hk (by simp; omega)); have OA14 := Lib.hid (own_far OAx13.out hk (by simp; omega)); clear hk hR kc kf; refine Hid.out ?_)
  obtain ⟨u14, kc⟩ := blk_has K14.out.blk 13 (by simp)
  have kf := K14.out.blk.frozen 13
  have H14 := Lib.hid (K14.out.set 13 (.int .i32 r14.1))
  have ODx14 := Lib.hid (own_setf (g := w.heap.size + 1 + 1) (i := 13) (u := .int .i32 r14.1) OD14.out (by omega))
  have OAx14 := Lib.hid (own_setf (g := w.heap.size + 1 + 1) (i := 13) (u := .int .i32 r14.1) OA14.out (by omega))
  have HC15 := Lib.hid (cBool w.heap.size (w.heap.size + 1) A c l  r14.2 _ r15 HR15.out H14.out.rr)
  refine Lib.hid ?_
  go_wp2_with (go_at_call 78; refine HC15.out.mono ?_; rintro e v15 ⟨rfl, hk, hR⟩; have K15 := Lib.hid (H14.out.read hk hR); have OD15 := Lib.hid (own_far ODx14.out hk (by simp; omega)); have OA15 := Lib.hid (own_far OAx14.out hk (by simp; omega)); clear hk hR kc kf; refine Hid.out ?_)
  obtain ⟨u15, kc⟩ := blk_has K15.out.blk 14 (by simp)
  have kf := K15.out.blk.frozen 14
  have H15 := Lib.hid (K15.out.set 14 (.bool r15.1))
  have ODx15 := Lib.hid (own_setf (g := w.heap.size + 1 + 1) (i := 14) (u := .bool r15.1) OD15.out (by omega))
  have OAx15 := Lib.hid (own_setf (g := w.heap.size + 1 + 1) (i := 14) (u := .bool r15.1) OA15.out (by omega))
  have HC16 := Lib.hid (cLong w.heap.size (w.heap.size + 1) A c l  r15.2 _ r16 HR16.out H15.out.rr)
  refine Lib.hid ?_
  go_wp2_with (go_at_call 76; refine HC16.out.mono ?_; rintro e v16 ⟨rfl, hk, hR⟩; have K16 := Lib.hid (H15.out.read hk hR); have OD16 := Lib.hid (own_far ODx15.out hk (by simp; omega)); have OA16 := Lib.hid (own_far OAx15.out hk (by simp; omega)); clear hk hR kc kf; refine Hid.out ?_)
  obtain ⟨u16, kc⟩ := blk_has K16.out.blk 15 (by simp)
  have kf := K16.out.blk.frozen 15
  have H16 := Lib.hid (K16.out.set 15 (.int .i64 r16.1))
  have ODx16 := Lib.hid (own_setf (g := w.heap.size + 1 + 1) (i := 15) (u := .int .i64 r16.1) OD16.out (by omega))
  have OAx16 := Lib.hid (own_setf (g := w.heap.size + 1 + 1) (i := 15) (u := .int .i64 r16.1) OA16.out (by omega))
  have HC17 := Lib.hid (cLong w.heap.size (w.heap.size + 1) A c l  r16.2 _ r17 HR17.out H16.out.rr)
  refine Lib.hid ?_
  go_wp2_with (go_at_call 76; refine HC17.out.mono ?_; rintro e v17 ⟨rfl, hk, hR⟩; have K17 := Lib.hid (H16.out.read hk hR); have OD17 := Lib.hid (own_far ODx16.out hk (by simp; omega)); have OA17 := Lib.hid (own_far OAx16.out hk (by simp; omega)); clear hk hR kc kf; refine Hid.out ?_)
  obtain ⟨u17, kc⟩ := blk_has K17.out.blk 16 (by simp)
  have kf := K17.out.blk.frozen 16
  have H17 := Lib.hid (K17.out.set 16 (.int .i64 r17.1))
  have ODx17 := Lib.hid (own_setf (g := w.heap.size + 1 + 1) (i := 16) (u := .int .i64 r17.1) OD17.out (by omega))
  have OAx17 := Lib.hid (own_setf (g := w.heap.size + 1 + 1) (i := 16) (u := .int .i64 r17.1) OA17.out (by omega))
  have HCE := Lib.hid (dEnd w.heap.size (w.heap.size + 1) A c l r17.2.1 _ r17.2.2 H17.out.rr)
  obtain ⟨E, hEE⟩ : ∃ E, E = if r17.2.2 = 0 ∧ r17.2.1 < l.length then 21 else r17.2.2 := ⟨_, rfl⟩
  rw [← hEE] at HCE
  have HEE := Lib.hid hEE
  clear hEE
  refine Lib.hid ?_
  go_wp2_with (go_at_call 79; refine HCE.out.mono ?_; rintro e v18 ⟨rfl, hk, hR⟩; obtain ⟨d0, d1, d2, g1, g2⟩ := hR.cells; have K18 := Lib.hid (H17.out.read (t := (r17.2.1, E)) hk hR); have OD18 := Lib.hid (own_far ODx17.out hk (by simp; omega)); have OA18 := Lib.hid (own_far OAx17.out hk (by simp; omega)); clear hk hR kc kf; refine Hid.out ?_)
  have hbz : Below w.heap.size w v18 := HB3.out.trans (K18.out.kp.below (by simp; omega) (by omega))
  have HBZ := Lib.hid hbz
  have HRES18 := Lib.hid (HRES.out.kp K18.out.kp (by simp; omega))
  have HBN18 := Lib.hid K18.out.blk
  clear hbz
  by_cases h0 : E = 0
  rotate_left
  · have hd : decN l = .inl E := by
      have he := HEE.out
      unfold decN
      rcases hres : gNode l 0 with ⟨x, q⟩ | ⟨er, q⟩
      · have h := sim_node.yes _ _ _ _ hres
        rw [HCH.out] at h
        injection h with h1 h2
        rw [h2] at he
        dsimp only at he ⊢
        by_cases hq : q < l.length
        · rw [if_pos ⟨rfl, hq⟩] at he
          rw [if_pos hq, he]
        · rw [if_neg (fun h => hq h.2)] at he
          exact absurd he h0
      · have h := sim_node.no _ _ _ _ hres
        rw [HCH.out] at h
        dsimp only at h
        have hne := sure_node _ _ _ _ hres
        rw [h] at he
        dsimp only at he
        rw [if_neg (fun h => hne h.1)] at he
        rw [he]
    have HD := Lib.hid hd
    have hb : (E != 0) = true := by simp [h0]
    have HNE := Lib.hid h0
    clear hd h0
    refine Lib.hid ?_
    have hs18 : w.heap.size + 1 < v18.heap.size := by have := K18.out.kp.size; omega
    clear HR1 HR2 HR3 HR4 HR5 HR6 HR7 HR8 HR9 HR10 HR11 HR12 HR13 HR14 HR15 HR16 HR17 HC1 HC2 HC3 HC4 HC5 HC6 HC7 HC8 HC9 HC10 HC11 HC12 HC13 HC14 HC15 HC16 HC17 HCE K1 K2 K3 K4 K5 K6 K7 K8 K9 K10 K11 K12 K13 K14 K15 K16 K17 K18 H0 H1 H2 H3 H4 H5 H6 H7 H8 H9 H10 H11 H12 H13 H14 H15 H16 H17 HCH HLL HB3 HRES HL HE HBN18 HEE OD2 OD3 OD4 OD5 OD6 OD7 OD8 OD9 OD10 OD11 OD12 OD13 OD14 OD15 OD16 OD17 OD18 OA3 OA4 OA5 OA6 OA7 OA8 OA9 OA10 OA11 OA12 OA13 OA14 OA15 OA16 OA17 OA18 ODx2 ODx3 ODx4 ODx5 ODx6 ODx7 ODx8 ODx9 ODx10 ODx11 ODx12 ODx13 ODx14 ODx15 ODx16 ODx17 OAx3 OAx4 OAx5 OAx6 OAx7 OAx8 OAx9 OAx10 OAx11 OAx12 OAx13 OAx14 OAx15 OAx16 OAx17
    have HDR := Lib.hid d2
    go_wp2
    clear d0 d1 d2 g1 g2
    refine wp_region_stepsC (fun u v => Kp [w.heap.size] u v ∧ (Blk u w.heap.size 32 #[.string ⟨#[]⟩, .slice none 0 0, .slice none 0 0, .int .i64 0, .int .i64 0, .int .i64 0, .int .i64 0, .int .i64 0, .int .i64 0, .int .i64 0, .int .i64 0, .int .i32 0, .int .i32 0, .int .i32 0, .bool false, .int .i64 0, .int .i64 0] → Blk v w.heap.size 32 #[.string ⟨#[]⟩, .slice none 0 0, .slice none 0 0, .int .i64 0, .int .i64 0, .int .i64 0, .int .i64 0, .int .i64 0, .int .i64 0, .int .i64 0, .int .i64 0, .int .i32 0, .int .i32 0, .int .i32 0, .bool false, .int .i64 0, .int .i64 0])) [.inl (.agg #[.string ⟨#[]⟩, .slice none 0 0, .slice none 0 0, .int .i64 0, .int .i64 0, .int .i64 0, .int .i64 0, .int .i64 0, .int .i64 0, .int .i64 0, .int .i64 0, .int .i32 0, .int .i32 0, .int .i32 0, .bool false, .int .i64 0, .int .i64 0]), .inl (.pointer (some ⟨w.heap.size + 1, 0, none⟩)), .inl (.pointer (some ⟨w.heap.size + 1, 0, none⟩)), .inl (.pointer (some ⟨w.heap.size + 1, 2, none⟩)), .inl (.int .i64 E), .inr (fun _ _ => True), .inl (.int .i64 E)]
      ⟨Kp.drew, fun h => h.drew⟩ (fun h1 h2 => ⟨h1.1.trans h2.1, fun h => h2.2 (h1.2 h)⟩) (by as_aux_lemma => kernel_rfl) (by as_aux_lemma => kernel_rfl) (by as_aux_lemma => kernel_rfl) (by as_aux_lemma => kernel_rfl) ?_ ⟨?_, ?_, ?_, ?_, ?_, ?_, ?_, trivial⟩ ?_
    · intro p hp v W W' h hb
      simp only [List.mem_cons, reduceCtorEq, Sum.inr.injEq, List.not_mem_nil, or_false, false_or] at hp
      subst hp
      trivial
    · intro a W hC hold hdep K hK
      refine step_val (want_free rfl) (v := .agg #[.string ⟨#[]⟩, .slice none 0 0, .slice none 0 0, .int .i64 0, .int .i64 0, .int .i64 0, .int .i64 0, .int .i64 0, .int .i64 0, .int .i64 0, .int .i64 0, .int .i32 0, .int .i32 0, .int .i32 0, .bool false, .int .i64 0, .int .i64 0]) ?_ (hK _ _ rfl ⟨Kp.refl _ _, id⟩)
      go_simp
    · intro a W hC hold hdep K hK
      exact step_move (want_free rfl) (.tmp 4) rfl _ (eval_tmp ((hold 4 (free_slot (by as_aux_lemma => kernel_rfl))).trans rfl)) (hK _ _ rfl ⟨Kp.refl _ _, id⟩)
    · intro a W hC hold hdep K hK
      have h72 := left_val (hdep ⟨1, .data⟩ (by simp) rfl (by decide)) rfl (k := 72) rfl
      have e72 := eval_tmp h72
      refine step_val (want_free rfl) (v := .pointer (some ⟨w.heap.size + 1, 0, none⟩)) ?_ (hK _ _ rfl ⟨Kp.refl _ _, id⟩)
      unfold execOp
      simp only [e72]
      go_simp
    · intro a W hC hold hdep K hK
      have e73 := eval_tmp (left_val (hdep ⟨2, .data⟩ (by simp) rfl (by decide)) rfl (k := 73) rfl)
      refine step_val (want_free rfl) (v := .pointer (some ⟨w.heap.size + 1, 2, none⟩)) ?_ (hK _ _ rfl ⟨Kp.refl _ _, id⟩)
      unfold execOp
      simp only [e73]
      go_simp
    · intro a W hC hold hdep K hK
      have e74 := eval_tmp (left_val (hdep ⟨3, .data⟩ (by simp) rfl (by decide)) rfl (k := 74) rfl)
      have hc : W.cell? ⟨w.heap.size + 1, 2, none⟩ = some (.int .i64 E) := (hC.1.cell (p := ⟨w.heap.size + 1, 2, none⟩) hs18 (by simp)).trans HDR.out
      refine step_val (want_free rfl) (v := .int .i64 E) ?_ (hK _ _ rfl ⟨Kp.refl _ _, id⟩)
      unfold execOp
      simp only [e74]
      go_simp
    · intro a W hC hold hdep K hK
      have e2 := eval_tmp ((hold 2 (free_slot (by as_aux_lemma => kernel_rfl))).trans rfl)
      have e71 := eval_tmp (left_val (hdep ⟨0, .data⟩ (by simp) rfl (by decide)) rfl (k := 71) rfl)
      rw [if_pos (want_free rfl)]
      exact wp_store_row 32 (.tmp 2) (.tmp 71) rfl w.heap.size #[.string ⟨#[]⟩, .slice none 0 0, .slice none 0 0, .int .i64 0, .int .i64 0, .int .i64 0, .int .i64 0, .int .i64 0, .int .i64 0, .int .i64 0, .int .i64 0, .int .i32 0, .int .i32 0, .int .i32 0, .bool false, .int .i64 0, .int .i64 0] e2 e71 32 #[.string ⟨#[]⟩, .slice none 0 0, .slice none 0 0, .int .i64 0, .int .i64 0, .int .i64 0, .int .i64 0, .int .i64 0, .int .i64 0, .int .i64 0, .int .i64 0, .int .i32 0, .int .i32 0, .int .i32 0, .bool false, .int .i64 0, .int .i64 0] (hC.2 HRES18.out) (by rw [node_size]; rfl) rfl (by simp [Value.oneCell']) (hK _ _ trivial ⟨Kp.setRow _ _, fun h => cells_setRow h⟩)
    · intro a W hC hold hdep K hK
      exact step_assign (want_free rfl) (.tmp 75) rfl _ (eval_tmp (left_val (hdep ⟨4, .data⟩ (by simp) rfl (by decide)) rfl (k := 75) rfl)) (hK _ _ rfl ⟨Kp.refl _ _, id⟩)
    · intro a W hC hdef hlen hold hall
      have h2 := (hold 2 (free_slot (by as_aux_lemma => kernel_rfl))).trans rfl
      have h3 := left_val (hall 6 (by decide)) rfl (k := 3) rfl
      have hR := hC.2 HRES18.out
      have hB : Below w.heap.size w W := HBZ.out.trans (hC.1.below (by simp) HBZ.out.size)
      clear hall hold hlen
      obtain ⟨tm, df⟩ := a
      dsimp only at hdef h2 h3
      subst hdef
      go_wp2
      (try simp only [Exit.inBlock, Exit.then])
      refine bodyPost_ret (results_cell_tmp rfl _ _ w.heap.size 32 #[.string ⟨#[]⟩, .slice none 0 0, .slice none 0 0, .int .i64 0, .int .i64 0, .int .i64 0, .int .i64 0, .int .i64 0, .int .i64 0, .int .i64 0, .int .i64 0, .int .i32 0, .int .i32 0, .int .i32 0, .bool false, .int .i64 0, .int .i64 0] _ (.int .i64 E) (by rw [Array.getD_eq_getD_getElem?, h2]; rfl) (by rw [Array.getD_eq_getD_getElem?, h3]; rfl) hR Tryd.underlying32 rfl (by rw [node_size]; rfl)) rfl ?_
      exact DecEnd.no HD.out HNE.out hB
  · have he := HEE.out
    rw [h0] at he
    have h17 : r17.2.2 = 0 := by
      by_cases h : r17.2.2 = 0 ∧ r17.2.1 < l.length
      · rw [if_pos h] at he; cases he
      · rw [if_neg h] at he; exact he.symm
    have hq : ¬ r17.2.1 < l.length := fun h => by rw [if_pos ⟨h17, h⟩] at he; cases he
    have h16 : r16.2.2 = 0 := stepS_alive HR17.out h17
    have h15 : r15.2.2 = 0 := stepS_alive HR16.out h16
    have h14 : r14.2.2 = 0 := stepS_alive HR15.out h15
    have h13 : r13.2.2 = 0 := stepS_alive HR14.out h14
    have h12 : r12.2.2 = 0 := stepS_alive HR13.out h13
    have h11 : r11.2.2 = 0 := stepS_alive HR12.out h12
    have h10 : r10.2.2 = 0 := stepS_alive HR11.out h11
    have h9 : r9.2.2 = 0 := stepS_alive HR10.out h10
    have h8 : r8.2.2 = 0 := stepS_alive HR9.out h9
    have h7 : r7.2.2 = 0 := stepS_alive HR8.out h8
    have h6 : r6.2.2 = 0 := stepS_alive HR7.out h7
    have h5 : r5.2.2 = 0 := stepS_alive HR6.out h6
    have h4 : r4.2.2 = 0 := stepS_alive HR5.out h5
    have h3 : r3.2.2 = 0 := stepS_alive HR4.out h4
    have hl := HL.out
    have hL := HLL.out h3
    subst hL
    have hres : gNode l 0 = .inl (⟨r1.1, r2.1, r3.1, [r4.1, r5.1, r6.1, r7.1, r8.1, r9.1, r10.1, r11.1], [r12.1, r13.1, r14.1], r15.1, r16.1, r17.1⟩, r17.2.1) := by
      rcases hres : gNode l 0 with ⟨x, q⟩ | ⟨er, q⟩
      · have h := sim_node.yes _ _ _ _ hres
        rw [HCH.out] at h
        injection h with h1 h2
        rw [← h1, h2]
      · have h := sim_node.no _ _ _ _ hres
        rw [HCH.out] at h
        dsimp only at h
        rw [h] at h17
        exact absurd h17 (sure_node _ _ _ _ hres)
    have hfit := gNode_fit (by omega) hres
    have hsm := gNode_small hres
    have hd : decN l = if rightE (bs r1.1) r2.1.length r3.1 r15.1 r16.1 r17.1 = 0 then .inr ⟨r1.1, r2.1, r3.1, [r4.1, r5.1, r6.1, r7.1, r8.1, r9.1, r10.1, r11.1], [r12.1, r13.1, r14.1], r15.1, r16.1, r17.1⟩ else .inl (rightE (bs r1.1) r2.1.length r3.1 r15.1 r16.1 r17.1) := by
      unfold decN; rw [hres]; dsimp only; rw [if_neg hq]
    have hbn : Blk v18 (w.heap.size + 1 + 1) 32 (nodeCs (.slice dA r2.1.length dc) (.slice aA r3.1.length ac) ⟨r1.1, r2.1, r3.1, [r4.1, r5.1, r6.1, r7.1, r8.1, r9.1, r10.1, r11.1], [r12.1, r13.1, r14.1], r15.1, r16.1, r17.1⟩) := by
      have h := K18.out.blk
      rw [nodeCs_lit]
      simpa [bs] using h
    have hrt := refRight_any (bs r1.1) r4.1 r5.1 r6.1 r7.1 r8.1 r9.1 r10.1 r11.1 r12.1 r13.1 r14.1 r15.1 r16.1 r17.1 dA r2.1.length dc aA r3.1.length ac r3.1 v18.heap.size v18 (Nat.le_refl _) (by have := hsm.1; dsimp only at this; omega) (by have := hsm.2; dsimp only at this; omega) (Reads.of_own OA18.out) hfit (HE.out.below HBZ.out)
    rw [← nodeCs_lit] at hrt
    obtain ⟨X, hX⟩ : ∃ X : NdR, X = ⟨r1.1, r2.1, r3.1, [r4.1, r5.1, r6.1, r7.1, r8.1, r9.1, r10.1, r11.1], [r12.1, r13.1, r14.1], r15.1, r16.1, r17.1⟩ := ⟨_, rfl⟩
    rw [← hX] at hd hbn hrt
    have HXX := Lib.hid hX
    obtain ⟨cs, hcs⟩ : ∃ cs, cs = nodeCs (.slice dA r2.1.length dc) (.slice aA r3.1.length ac) X := ⟨_, rfl⟩
    rw [← hcs] at hbn hrt
    have HCS := Lib.hid hcs
    have HZC : Hid ((Tryd.prog.info? 32).map (·.size) = some cs.size) := by unfold Hid; rw [hcs, node_size, nodeCs_size]
    have HSC : Hid (cs.size = 17) := by unfold Hid; rw [hcs]; exact nodeCs_size _ _ _
    have HOC : Hid (cs.all (·.oneCell') = true) := by unfold Hid; rw [hcs]; exact nodeCs_one _ _ _ _ _ _ _
    have HBN := Lib.hid hbn
    obtain ⟨E2, hE2⟩ : ∃ E2, E2 = rightE (bs r1.1) r2.1.length r3.1 r15.1 r16.1 r17.1 := ⟨_, rfl⟩
    rw [← hE2] at hd hrt
    have HRT := Lib.hid hrt
    have HD := Lib.hid hd
    rw [h0] at d2
    clear hl he h17 hq hres hfit hsm hd hbn hrt hX hcs hE2 h0 HEE HCE h3 h4 h5 h6 h7 h8 h9 h10 h11 h12 h13 h14 h15 h16
    by_cases h1 : E2 = 0
    · subst h1
      have HDX : Hid (decN l = .inr X) := by unfold Hid; rw [HD.out, if_pos rfl]
      refine Lib.hid ?_
      go_wp2_with (first
        | (refine wpList_load_row rfl 32 (.tmp 5) rfl (w.heap.size + 1 + 1) rfl 32 _ _ _ HBN.out Tryd.underlying32 rfl HZC.out ?_)
        | (go_at_call 19
           refine HRT.out.mono ?_
           rintro e w4 ⟨rfl, hb4⟩
           have hz4 := hb4.size
           have HBN4 := Lib.hid (HBN.out.below hb4 HBN.out.lt)
           have HR4 := Lib.hid (HRES18.out.below hb4 HRES18.out.lt)
           have HB4 := Lib.hid (HBZ.out.trans (hb4.mono HBZ.out.size))
           have HO3 := Lib.hid (own_below OD18.out hb4)
           have HO4 := Lib.hid (own_below OA18.out hb4)
           clear hb4)
        | (refine wpList_load_row rfl 32 (.tmp 5) rfl (w.heap.size + 1 + 1) rfl 32 _ _ _ HBN4.out Tryd.underlying32 rfl HZC.out ?_)
        | (refine wpList_store_row rfl 32 (.tmp 2) (.tmp 82) rfl w.heap.size cs rfl rfl 32 _ HR4.out HZC.out (by rw [HSC.out]; rfl) HOC.out ?_
           generalize hww : World.setRow _ _ _ = w5
           have HB5 : Hid (Below w.heap.size w w5) := by unfold Hid; rw [← hww]; exact below_setRow' HB4.out (Nat.le_refl _) _
           have HR5 : Hid (Blk w5 w.heap.size 32 cs) := by unfold Hid; rw [← hww]; exact cells_setRow HR4.out
           have HO5 : Hid (w5.ownsRow w3.heap.size 5 1 (.slice dA r2.1.length dc) r2.1.length (bcells r2.1)) := by unfold Hid; rw [← hww]; exact own_far HO3.out (Kp.setRow w.heap.size cs) (by simp; omega)
           have HO6 : Hid (w5.ownsRow w3.heap.size 57 3 (.slice aA r3.1.length ac) r3.1.length (aclCells r3.1)) := by unfold Hid; rw [← hww]; exact own_far HO4.out (Kp.setRow w.heap.size cs) (by simp; omega)
           clear hww))
      refine bodyPost_ret (results_cell_tmp rfl _ _ w.heap.size 32 cs _ (.int .i64 0) rfl rfl HR5.out Tryd.underlying32 rfl HZC.out) rfl ?_
      refine ⟨HB5.out, ?_⟩
      rw [HDX.out, HCS.out, HXX.out]
      exact ⟨dA, dc, aA, ac, rfl, rfl, rfl, own_low HO5.out (by omega), own_low HO6.out (by omega)⟩
    · have HDX : Hid (decN l = .inl E2) := by unfold Hid; rw [HD.out, if_neg h1]
      have h2 : (E2 != 0) = true := by simp [h1]
      have HNE := Lib.hid h1
      clear h1
      refine Lib.hid ?_
      go_wp2_with (first
        | (refine wpList_load_row rfl 32 (.tmp 5) rfl (w.heap.size + 1 + 1) rfl 32 _ _ _ HBN.out Tryd.underlying32 rfl HZC.out ?_)
        | (go_at_call 19
           refine HRT.out.mono ?_
           rintro e w4 ⟨rfl, hb4⟩
           have HR4 := Lib.hid (HRES18.out.below hb4 HRES18.out.lt)
           have HB4 := Lib.hid (HBZ.out.trans (hb4.mono HBZ.out.size))
           clear hb4)
        | (refine wpList_store_row rfl 32 (.tmp 2) (.tmp 80) rfl w.heap.size #[.string ⟨#[]⟩, .slice none 0 0, .slice none 0 0, .int .i64 0, .int .i64 0, .int .i64 0, .int .i64 0, .int .i64 0, .int .i64 0, .int .i64 0, .int .i64 0, .int .i32 0, .int .i32 0, .int .i32 0, .bool false, .int .i64 0, .int .i64 0] rfl rfl 32 _ HR4.out (by rw [node_size]; rfl) rfl (by simp [Value.oneCell']) ?_
           generalize hww : World.setRow _ _ _ = w5
           have HB5 : Hid (Below w.heap.size w w5) := by unfold Hid; rw [← hww]; exact below_setRow' HB4.out (Nat.le_refl _) _
           have HR5 : Hid (Blk w5 w.heap.size 32 #[.string ⟨#[]⟩, .slice none 0 0, .slice none 0 0, .int .i64 0, .int .i64 0, .int .i64 0, .int .i64 0, .int .i64 0, .int .i64 0, .int .i64 0, .int .i64 0, .int .i32 0, .int .i32 0, .int .i32 0, .bool false, .int .i64 0, .int .i64 0]) := by unfold Hid; rw [← hww]; exact cells_setRow HR4.out
           clear hww))
      refine bodyPost_ret (results_cell_tmp rfl _ _ w.heap.size 32 #[.string ⟨#[]⟩, .slice none 0 0, .slice none 0 0, .int .i64 0, .int .i64 0, .int .i64 0, .int .i64 0, .int .i64 0, .int .i64 0, .int .i64 0, .int .i64 0, .int .i32 0, .int .i32 0, .int .i32 0, .bool false, .int .i64 0, .int .i64 0] _ (.int .i64 E2) rfl rfl HR5.out Tryd.underlying32 rfl (by rw [node_size]; rfl)) rfl ?_
      exact DecEnd.no HDX.out HNE.out HB5.out
end Go.Proofs.YtaojjjcaofhmcaaDoor
