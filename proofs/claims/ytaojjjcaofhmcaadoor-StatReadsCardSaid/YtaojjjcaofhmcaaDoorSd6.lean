/- A Stat read by the document: GetStat, ReadRecord. (printed by gen_d6.py) -/
import Derived.Test.YtaojjjcaofhmcaaDoorSd4
import Derived.Test.YtaojjjcaofhmcaaDoorSd5
set_option linter.unusedVariables false
set_option linter.unusedSimpArgs false
namespace Go.Proofs.YtaojjjcaofhmcaaDoor
open Go.RowKit

/-- the state in the midst -/
structure RStT (w0 : World) (base R : Nat) (A : Option Addr) (c : Nat) (l : List UInt8) (nb : Nat) (s : Nat × Int) (cs : Array Value) (w : World) : Prop where
  rr : RR w base R A c l s.1 s.2
  blk : Blk w nb 23 cs
  kp : Kp [R, nb] w0 w
  ne : R ≠ nb
  old : R < w0.heap.size ∧ nb < w0.heap.size
  low : base ≤ nb
section
variable {w0 w w' : World} {base R c nb : Nat} {s t : Nat × Int} {A : Option Addr} {l : List UInt8} {cs : Array Value}
theorem RStT.read (h : RStT w0 base R A c l nb s cs w) (hk : Kp [R] w w') (hR : RR w' base R A c l t.1 t.2) : RStT w0 base R A c l nb t cs w' :=
  ⟨hR, h.blk.kp hk (by simpa using h.ne.symm), h.kp.to hk (fun _ h _ => h) (fun y hy _ => by simp at hy; simp [hy]), h.ne, h.old, h.low⟩
theorem RStT.set (h : RStT w0 base R A c l nb s cs w) (i : Nat) (v : Value) : RStT w0 base R A c l nb s (cs.setIfInBounds i v) (w.setCell ⟨nb, i, none⟩ v) :=
  ⟨h.rr.set h.ne h.low i v, h.blk.set_ i v, h.kp.set_in (by simp) i v, h.ne, h.old, h.low⟩
end
theorem num_ok {k p : Nat} {l : List UInt8} (h : p + k ≤ l.length) : ∃ n, gNum k l p = .inl (n, p + k) := by
  unfold gNum Rg.map gNext
  rw [if_pos h]
  exact ⟨_, rfl⟩
theorem long_ok {p : Nat} {l : List UInt8} (h : p + 8 ≤ l.length) : ∃ z, gLong l p = .inl (z, p + 8) := by
  obtain ⟨n, hn⟩ := num_ok (k := 8) h
  unfold gLong Rg.map
  rw [hn]
  exact ⟨_, rfl⟩
theorem int_ok {p : Nat} {l : List UInt8} (h : p + 4 ≤ l.length) : ∃ z, gInt l p = .inl (z, p + 4) := by
  obtain ⟨n, hn⟩ := num_ok (k := 4) h
  unfold gInt Rg.map
  rw [hn]
  exact ⟨_, rfl⟩
theorem long_step {p : Nat} {l : List UInt8} {r : Int × (Nat × Int)} {s : Nat × Int} (h : p + 8 ≤ l.length) (hs : s = (p, 0)) (hr : r = stepS gLong 0 l s) : gLong l p = .inl (r.1, p + 8) ∧ r.2 = (p + 8, 0) := by
  obtain ⟨z, hz⟩ := long_ok h
  subst hs
  rw [hr, stepS_yes 0 hz]
  exact ⟨hz, rfl⟩
theorem int_step {p : Nat} {l : List UInt8} {r : Int × (Nat × Int)} {s : Nat × Int} (h : p + 4 ≤ l.length) (hs : s = (p, 0)) (hr : r = stepS gInt 0 l s) : gInt l p = .inl (r.1, p + 4) ∧ r.2 = (p + 4, 0) := by
  obtain ⟨z, hz⟩ := int_ok h
  subst hs
  rw [hr, stepS_yes 0 hz]
  exact ⟨hz, rfl⟩
theorem gStat_long {l : List UInt8} (h : 68 ≤ l.length) : ∃ x, gStat l 0 = .inl (x, 68) := by
  obtain ⟨z0, e0⟩ := long_ok (p := 0) (l := l) (by omega)
  obtain ⟨z1, e1⟩ := long_ok (p := 8) (l := l) (by omega)
  obtain ⟨z2, e2⟩ := long_ok (p := 16) (l := l) (by omega)
  obtain ⟨z3, e3⟩ := long_ok (p := 24) (l := l) (by omega)
  obtain ⟨z4, e4⟩ := int_ok (p := 32) (l := l) (by omega)
  obtain ⟨z5, e5⟩ := int_ok (p := 36) (l := l) (by omega)
  obtain ⟨z6, e6⟩ := int_ok (p := 40) (l := l) (by omega)
  obtain ⟨z7, e7⟩ := long_ok (p := 44) (l := l) (by omega)
  obtain ⟨z8, e8⟩ := int_ok (p := 52) (l := l) (by omega)
  obtain ⟨z9, e9⟩ := int_ok (p := 56) (l := l) (by omega)
  obtain ⟨z10, e10⟩ := long_ok (p := 60) (l := l) (by omega)
  have m1 : gMany gLong 4 l 0 = .inl ([z0, z1, z2, z3], 32) := by simp [gMany, Rg.bind, Rg.map, Rg.ret, e0, e1, e2, e3]
  have m2 : gMany gInt 3 l 32 = .inl ([z4, z5, z6], 44) := by simp [gMany, Rg.bind, Rg.map, Rg.ret, e4, e5, e6]
  refine ⟨⟨[z0, z1, z2, z3], [z4, z5, z6], z7, z8, z9, z10⟩, ?_⟩
  unfold gStat
  simp [Rg.bind, Rg.map, m1, m2, e7, e8, e9, e10]
theorem gStat_at {l : List UInt8} {x : StR} {q : Nat} (h : gStat l 0 = .inl (x, q)) : q = 68 ∧ 68 ≤ l.length ∧ x.xs.length = 4 ∧ x.ys.length = 3 := by
  obtain ⟨xs, q1, h1, h⟩ := bind_inl h
  obtain ⟨ys, q2, h2, h⟩ := bind_inl h
  obtain ⟨a, q3, h3, h⟩ := bind_inl h
  obtain ⟨b, q4, h4, h⟩ := bind_inl h
  obtain ⟨c, q5, h5, h⟩ := bind_inl h
  obtain ⟨d, h6, rfl⟩ := map_inl h
  have l8 : ∀ p z q, gLong l p = .inl (z, q) → q = p + 8 ∧ q ≤ l.length := fun p z q h => by
    unfold gLong at h
    obtain ⟨n, hn, _⟩ := map_inl h
    obtain ⟨g1, _, g3, _⟩ := gNum_inl hn
    omega
  have l4 : ∀ p z q, gInt l p = .inl (z, q) → q = p + 4 ∧ q ≤ l.length := fun p z q h => by
    unfold gInt at h
    obtain ⟨n, hn, _⟩ := map_inl h
    obtain ⟨g1, _, g3, _⟩ := gNum_inl hn
    omega
  have mz : ∀ {g : Rg Int} {k : Nat}, (∀ p z q, g l p = .inl (z, q) → q = p + k ∧ q ≤ l.length) → ∀ n p zs q, gMany g n l p = .inl (zs, q) → q = p + k * n := by
    intro g k hg n
    induction n with
    | zero => intro p zs q h; injection h with h; injection h with _ h; omega
    | succ n ih =>
      intro p zs q h
      rw [gMany_succ] at h
      split at h
      · rename_i x q1 hx
        split at h
        · rename_i r q2 hr
          simp only [Sum.inl.injEq, Prod.mk.injEq] at h
          have g1 := hg _ _ _ hx
          have g2 := ih _ _ _ hr
          rw [Nat.mul_succ]
          omega
        · cases h
      · cases h
  have k1 := mz l8 4 _ _ _ h1
  have k2 := mz l4 3 _ _ _ h2
  have k3 := l8 _ _ _ h3
  have k4 := l4 _ _ _ h4
  have k5 := l4 _ _ _ h5
  have k6 := l8 _ _ _ h6
  exact ⟨by omega, by omega, gMany_len 4 0 xs q1 h1, gMany_len 3 q1 ys q2 h2⟩
theorem gStat_short {l : List UInt8} (h : l.length < 68) : ∃ e q, gStat l 0 = .inr (e, q) := by
  rcases hr : gStat l 0 with ⟨x, q⟩ | ⟨e, q⟩
  · exact absurd (gStat_at hr).2.1 (by omega)
  · exact ⟨e, q, rfl⟩
theorem statCs_facts {x : StR} (h3 : x.xs.length = 4) (h4 : x.ys.length = 3) : (statCs x).size = 11 ∧ (statCs x).all (·.oneCell') = true := by
  obtain ⟨xs, ys, xo, xd, xn, xp⟩ := x
  obtain ⟨a0, a1, a2, a3, g1⟩ := list4 h3
  obtain ⟨a4, a5, a6, g2⟩ := list3 h4
  dsimp only at g1 g2
  subst g1 g2
  rw [statCs_lit]
  exact ⟨rfl, by simp [Value.oneCell']⟩
/-- a reading alone fails with: the bytes end -/
def Ends {α : Type} (g : Rg α) : Prop := ∀ l p e q, g l p = .inr (e, q) → e = 20
theorem ends_num (k : Nat) : Ends (gNum k) := fun l p e q h => by
  unfold gNum Rg.map gNext at h
  split at h
  · cases h
  · rename_i r hr
    split at hr
    · cases hr
    · injection hr with hr
      subst hr
      injection h with h
      injection h with h _
      exact h.symm
theorem Ends.bind {α β : Type} {f : Rg α} {g : α → Rg β} (hf : Ends f) (hg : ∀ x, Ends (g x)) : Ends (f.bind g) := fun l p e q h => by
  unfold Rg.bind at h
  rcases hr : f l p with ⟨x, q1⟩ | ⟨e1, q1⟩
  · rw [hr] at h; exact hg x _ _ _ _ h
  · rw [hr] at h; injection h with h; injection h with h1 h2; subst h1; exact hf _ _ _ _ hr
theorem Ends.map {α β : Type} {f : α → β} {g : Rg α} (hg : Ends g) : Ends (g.map f) := fun l p e q h => by
  unfold Rg.map at h
  rcases hr : g l p with ⟨x, q1⟩ | ⟨e1, q1⟩
  · rw [hr] at h; cases h
  · rw [hr] at h; injection h with h; injection h with h1 h2; subst h1; exact hg _ _ _ _ hr
theorem Ends.many {α : Type} {g : Rg α} (hg : Ends g) (n : Nat) : Ends (gMany g n) := by
  induction n with
  | zero => intro l p e q h; cases h
  | succ n ih => exact Ends.bind hg fun x => Ends.map ih
theorem ends_stat : Ends gStat := ((ends_num 8).map.many 4).bind fun _ => ((ends_num 4).map.many 3).bind fun _ => (ends_num 8).map.bind fun _ => (ends_num 4).map.bind fun _ => (ends_num 4).map.bind fun _ => (ends_num 8).map.map
theorem decS_short {l : List UInt8} (h : l.length < 68) : decS l = .inl 20 := by
  obtain ⟨e, q, hr⟩ := gStat_short h
  unfold decS
  rw [hr, ends_stat _ _ _ _ hr]
theorem decS_more {l : List UInt8} (h : 68 < l.length) : decS l = .inl 21 := by
  obtain ⟨x, hx⟩ := gStat_long (l := l) (by omega)
  unfold decS
  rw [hx]
  dsimp only
  rw [if_pos h]
theorem decS_same {l : List UInt8} {x : StR} (h : l.length = 68) (hx : gStat l 0 = .inl (x, 68)) : decS l = .inr x := by
  unfold decS
  rw [hx]
  dsimp only
  rw [if_neg (by omega)]

theorem stat_chain {l : List UInt8} {r1 r2 r3 r4 r5 r6 r7 r8 r9 r10 r11 : Int × (Nat × Int)} (h : l.length = 68) (h1 : r1 = stepS gLong 0 l (0, 0)) (h2 : r2 = stepS gLong 0 l r1.2) (h3 : r3 = stepS gLong 0 l r2.2) (h4 : r4 = stepS gLong 0 l r3.2) (h5 : r5 = stepS gInt 0 l r4.2) (h6 : r6 = stepS gInt 0 l r5.2) (h7 : r7 = stepS gInt 0 l r6.2) (h8 : r8 = stepS gLong 0 l r7.2) (h9 : r9 = stepS gInt 0 l r8.2) (h10 : r10 = stepS gInt 0 l r9.2) (h11 : r11 = stepS gLong 0 l r10.2) :
    gStat l 0 = .inl (⟨[r1.1, r2.1, r3.1, r4.1], [r5.1, r6.1, r7.1], r8.1, r9.1, r10.1, r11.1⟩, 68) := by
  obtain ⟨e1, f1⟩ := long_step (p := 0) (by omega) rfl h1
  obtain ⟨e2, f2⟩ := long_step (p := 8) (by omega) f1 h2
  obtain ⟨e3, f3⟩ := long_step (p := 16) (by omega) f2 h3
  obtain ⟨e4, f4⟩ := long_step (p := 24) (by omega) f3 h4
  obtain ⟨e5, f5⟩ := int_step (p := 32) (by omega) f4 h5
  obtain ⟨e6, f6⟩ := int_step (p := 36) (by omega) f5 h6
  obtain ⟨e7, f7⟩ := int_step (p := 40) (by omega) f6 h7
  obtain ⟨e8, f8⟩ := long_step (p := 44) (by omega) f7 h8
  obtain ⟨e9, f9⟩ := int_step (p := 52) (by omega) f8 h9
  obtain ⟨e10, f10⟩ := int_step (p := 56) (by omega) f9 h10
  obtain ⟨e11, f11⟩ := long_step (p := 60) (by omega) f10 h11
  have m1 : gMany gLong 4 l 0 = .inl ([r1.1, r2.1, r3.1, r4.1], 32) := by simp [gMany, Rg.bind, Rg.map, Rg.ret, e1, e2, e3, e4]
  have m2 : gMany gInt 3 l 32 = .inl ([r5.1, r6.1, r7.1], 44) := by simp [gMany, Rg.bind, Rg.map, Rg.ret, e5, e6, e7]
  unfold gStat
  simp [Rg.bind, Rg.map, m1, m2, e8, e9, e10, e11]

set_option maxRecDepth 100000 in
set_option maxHeartbeats 8000000 in
theorem refGetStat_any (base R c : Nat) (A : Option Addr) (l : List UInt8) (w : World) (h : RR w base R A c l 0 0) (hl : l.length = 68) :
    Calls Tryd.prog 81 #[.pointer (some ⟨R, 0, none⟩)] w fun e w' => ∃ x, gStat l 0 = .inl (x, 68) ∧ e = .returned (.agg (statCs x)) ∧ Kp [R] w w' := by
  obtain ⟨w2, hw2⟩ : ∃ w2, (w.alloc (.cells #[.int .i64 0, .int .i64 0, .int .i64 0, .int .i64 0, .int .i32 0, .int .i32 0, .int .i32 0, .int .i64 0, .int .i32 0, .int .i32 0, .int .i64 0] 23)).alloc (.cells #[.int .i64 0, .int .i64 0, .int .i64 0, .int .i64 0, .int .i32 0, .int .i32 0, .int .i32 0, .int .i64 0, .int .i32 0, .int .i32 0, .int .i64 0] 23) = w2 := ⟨_, rfl⟩
  have hz2 : w2.heap.size = w.heap.size + 2 := by rw [← hw2]; simp
  have hb2 : Below w.heap.size w w2 := by rw [← hw2]; exact ((Below.refl _ _).alloc (Nat.le_refl _) _).alloc (by simp) _
  have br : Blk w2 w.heap.size 23 #[.int .i64 0, .int .i64 0, .int .i64 0, .int .i64 0, .int .i32 0, .int .i32 0, .int .i32 0, .int .i64 0, .int .i32 0, .int .i32 0, .int .i64 0] := by rw [← hw2]; exact (Blk.new _ _ _).alloc _
  have bn : Blk w2 (w.heap.size + 1) 23 #[.int .i64 0, .int .i64 0, .int .i64 0, .int .i64 0, .int .i32 0, .int .i32 0, .int .i32 0, .int .i64 0, .int .i32 0, .int .i32 0, .int .i64 0] := by rw [← hw2]; exact Blk.new' (by simp)
  have hRlt := h.lt
  have hS : RStT w2 base R A c l (w.heap.size + 1) (0, 0) #[.int .i64 0, .int .i64 0, .int .i64 0, .int .i64 0, .int .i32 0, .int .i32 0, .int .i32 0, .int .i64 0, .int .i32 0, .int .i32 0, .int .i64 0] w2 := ⟨h.kp (Kp.of_below (X := []) hb2) (by simp) (by simp), bn, Kp.refl _ _, by omega, by omega, by have := h.old; omega⟩
  have HB2 := Lib.hid hb2
  have HRES := Lib.hid br
  have H0 := Lib.hid hS
  have HL := Lib.hid hl
  have HLT := Lib.hid hRlt
  obtain ⟨r1, hr1⟩ : ∃ r, r = stepS gLong 0 l (0, 0) := ⟨_, rfl⟩
  obtain ⟨r2, hr2⟩ : ∃ r, r = stepS gLong 0 l r1.2 := ⟨_, rfl⟩
  obtain ⟨r3, hr3⟩ : ∃ r, r = stepS gLong 0 l r2.2 := ⟨_, rfl⟩
  obtain ⟨r4, hr4⟩ : ∃ r, r = stepS gLong 0 l r3.2 := ⟨_, rfl⟩
  obtain ⟨r5, hr5⟩ : ∃ r, r = stepS gInt 0 l r4.2 := ⟨_, rfl⟩
  obtain ⟨r6, hr6⟩ : ∃ r, r = stepS gInt 0 l r5.2 := ⟨_, rfl⟩
  obtain ⟨r7, hr7⟩ : ∃ r, r = stepS gInt 0 l r6.2 := ⟨_, rfl⟩
  obtain ⟨r8, hr8⟩ : ∃ r, r = stepS gLong 0 l r7.2 := ⟨_, rfl⟩
  obtain ⟨r9, hr9⟩ : ∃ r, r = stepS gInt 0 l r8.2 := ⟨_, rfl⟩
  obtain ⟨r10, hr10⟩ : ∃ r, r = stepS gInt 0 l r9.2 := ⟨_, rfl⟩
  obtain ⟨r11, hr11⟩ : ∃ r, r = stepS gLong 0 l r10.2 := ⟨_, rfl⟩
  have HCH : Hid (gStat l 0 = .inl (⟨[r1.1, r2.1, r3.1, r4.1], [r5.1, r6.1, r7.1], r8.1, r9.1, r10.1, r11.1⟩, 68)) := stat_chain hl hr1 hr2 hr3 hr4 hr5 hr6 hr7 hr8 hr9 hr10 hr11
  have HR1 := Lib.hid hr1
  have HR2 := Lib.hid hr2
  have HR3 := Lib.hid hr3
  have HR4 := Lib.hid hr4
  have HR5 := Lib.hid hr5
  have HR6 := Lib.hid hr6
  have HR7 := Lib.hid hr7
  have HR8 := Lib.hid hr8
  have HR9 := Lib.hid hr9
  have HR10 := Lib.hid hr10
  have HR11 := Lib.hid hr11
  have h1 := cLong base R A c l (0, 0) w2 r1 hr1 hS.rr
  have HC1 := Lib.hid h1
  clear h1 hb2 br bn hS h hl hRlt hr1 hr2 hr3 hr4 hr5 hr6 hr7 hr8 hr9 hr10 hr11
  go_enter Tryd.func81, Tryd.ntmps81
  go_wp2_with (go_at_call 76; refine HC1.out.mono ?_; rintro e v1 ⟨rfl, hk, hR⟩; have K1 := Lib.hid (H0.out.read hk hR); clear hk hR; refine Hid.out ?_)
  obtain ⟨u1, kc⟩ := blk_has K1.out.blk 0 (by simp)
  have kf := K1.out.blk.frozen 0
  have H1 := Lib.hid (K1.out.set 0 (.int .i64 r1.1))
  have HC2 := Lib.hid (cLong base R A c l r1.2 _ r2 HR2.out H1.out.rr)
  refine Lib.hid ?_
  go_wp2_with (go_at_call 76; refine HC2.out.mono ?_; rintro e v2 ⟨rfl, hk, hR⟩; have K2 := Lib.hid (H1.out.read hk hR); clear hk hR kc kf; refine Hid.out ?_)
  obtain ⟨u2, kc⟩ := blk_has K2.out.blk 1 (by simp)
  have kf := K2.out.blk.frozen 1
  have H2 := Lib.hid (K2.out.set 1 (.int .i64 r2.1))
  have HC3 := Lib.hid (cLong base R A c l r2.2 _ r3 HR3.out H2.out.rr)
  refine Lib.hid ?_
  go_wp2_with (go_at_call 76; refine HC3.out.mono ?_; rintro e v3 ⟨rfl, hk, hR⟩; have K3 := Lib.hid (H2.out.read hk hR); clear hk hR kc kf; refine Hid.out ?_)
  obtain ⟨u3, kc⟩ := blk_has K3.out.blk 2 (by simp)
  have kf := K3.out.blk.frozen 2
  have H3 := Lib.hid (K3.out.set 2 (.int .i64 r3.1))
  have HC4 := Lib.hid (cLong base R A c l r3.2 _ r4 HR4.out H3.out.rr)
  refine Lib.hid ?_
  go_wp2_with (go_at_call 76; refine HC4.out.mono ?_; rintro e v4 ⟨rfl, hk, hR⟩; have K4 := Lib.hid (H3.out.read hk hR); clear hk hR kc kf; refine Hid.out ?_)
  obtain ⟨u4, kc⟩ := blk_has K4.out.blk 3 (by simp)
  have kf := K4.out.blk.frozen 3
  have H4 := Lib.hid (K4.out.set 3 (.int .i64 r4.1))
  have HC5 := Lib.hid (cInt base R A c l r4.2 _ r5 HR5.out H4.out.rr)
  refine Lib.hid ?_
  go_wp2_with (go_at_call 77; refine HC5.out.mono ?_; rintro e v5 ⟨rfl, hk, hR⟩; have K5 := Lib.hid (H4.out.read hk hR); clear hk hR kc kf; refine Hid.out ?_)
  obtain ⟨u5, kc⟩ := blk_has K5.out.blk 4 (by simp)
  have kf := K5.out.blk.frozen 4
  have H5 := Lib.hid (K5.out.set 4 (.int .i32 r5.1))
  have HC6 := Lib.hid (cInt base R A c l r5.2 _ r6 HR6.out H5.out.rr)
  refine Lib.hid ?_
  go_wp2_with (go_at_call 77; refine HC6.out.mono ?_; rintro e v6 ⟨rfl, hk, hR⟩; have K6 := Lib.hid (H5.out.read hk hR); clear hk hR kc kf; refine Hid.out ?_)
  obtain ⟨u6, kc⟩ := blk_has K6.out.blk 5 (by simp)
  have kf := K6.out.blk.frozen 5
  have H6 := Lib.hid (K6.out.set 5 (.int .i32 r6.1))
  have HC7 := Lib.hid (cInt base R A c l r6.2 _ r7 HR7.out H6.out.rr)
  refine Lib.hid ?_
  go_wp2_with (go_at_call 77; refine HC7.out.mono ?_; rintro e v7 ⟨rfl, hk, hR⟩; have K7 := Lib.hid (H6.out.read hk hR); clear hk hR kc kf; refine Hid.out ?_)
  obtain ⟨u7, kc⟩ := blk_has K7.out.blk 6 (by simp)
  have kf := K7.out.blk.frozen 6
  have H7 := Lib.hid (K7.out.set 6 (.int .i32 r7.1))
  have HC8 := Lib.hid (cLong base R A c l r7.2 _ r8 HR8.out H7.out.rr)
  refine Lib.hid ?_
  go_wp2_with (go_at_call 76; refine HC8.out.mono ?_; rintro e v8 ⟨rfl, hk, hR⟩; have K8 := Lib.hid (H7.out.read hk hR); clear hk hR kc kf; refine Hid.out ?_)
  obtain ⟨u8, kc⟩ := blk_has K8.out.blk 7 (by simp)
  have kf := K8.out.blk.frozen 7
  have H8 := Lib.hid (K8.out.set 7 (.int .i64 r8.1))
  have HC9 := Lib.hid (cInt base R A c l r8.2 _ r9 HR9.out H8.out.rr)
  refine Lib.hid ?_
  go_wp2_with (go_at_call 77; refine HC9.out.mono ?_; rintro e v9 ⟨rfl, hk, hR⟩; have K9 := Lib.hid (H8.out.read hk hR); clear hk hR kc kf; refine Hid.out ?_)
  obtain ⟨u9, kc⟩ := blk_has K9.out.blk 8 (by simp)
  have kf := K9.out.blk.frozen 8
  have H9 := Lib.hid (K9.out.set 8 (.int .i32 r9.1))
  have HC10 := Lib.hid (cInt base R A c l r9.2 _ r10 HR10.out H9.out.rr)
  refine Lib.hid ?_
  go_wp2_with (go_at_call 77; refine HC10.out.mono ?_; rintro e v10 ⟨rfl, hk, hR⟩; have K10 := Lib.hid (H9.out.read hk hR); clear hk hR kc kf; refine Hid.out ?_)
  obtain ⟨u10, kc⟩ := blk_has K10.out.blk 9 (by simp)
  have kf := K10.out.blk.frozen 9
  have H10 := Lib.hid (K10.out.set 9 (.int .i32 r10.1))
  have HC11 := Lib.hid (cLong base R A c l r10.2 _ r11 HR11.out H10.out.rr)
  refine Lib.hid ?_
  go_wp2_with (go_at_call 76; refine HC11.out.mono ?_; rintro e v11 ⟨rfl, hk, hR⟩; have K11 := Lib.hid (H10.out.read hk hR); clear hk hR kc kf; refine Hid.out ?_)
  obtain ⟨u11, kc⟩ := blk_has K11.out.blk 10 (by simp)
  have kf := K11.out.blk.frozen 10
  have H11 := Lib.hid (K11.out.set 10 (.int .i64 r11.1))
  have HBL := H11.out.blk
  simp only [List.setIfInBounds_toArray, List.set_cons_zero, List.set_cons_succ] at HBL
  have HB11 := Lib.hid HBL
  have HRES11 := Lib.hid (HRES.out.kp H11.out.kp (by have := HLT.out; simp; omega))
  have HK11 := Lib.hid H11.out.kp
  clear HBL
  refine Lib.hid ?_
  go_wp2_with (first
    | (refine wpList_load_row rfl 23 (.tmp 3) rfl (w.heap.size + 1) rfl 23 _ _ _ HB11.out Tryd.underlying23 rfl (by rw [stat_sizeR]; rfl) ?_)
    | (refine wpList_store_row rfl 23 (.tmp 2) (.tmp 37) rfl w.heap.size #[.int .i64 r1.1, .int .i64 r2.1, .int .i64 r3.1, .int .i64 r4.1, .int .i32 r5.1, .int .i32 r6.1, .int .i32 r7.1, .int .i64 r8.1, .int .i32 r9.1, .int .i32 r10.1, .int .i64 r11.1] rfl rfl 23 _ HRES11.out (by rw [stat_sizeR]; rfl) rfl (by simp [Value.oneCell']) ?_
       generalize hww : World.setRow _ _ _ = w5
       have HR5 : Hid (Blk w5 w.heap.size 23 #[.int .i64 r1.1, .int .i64 r2.1, .int .i64 r3.1, .int .i64 r4.1, .int .i32 r5.1, .int .i32 r6.1, .int .i32 r7.1, .int .i64 r8.1, .int .i32 r9.1, .int .i32 r10.1, .int .i64 r11.1]) := by unfold Hid; rw [← hww]; exact cells_setRow HRES11.out
       have HK5 : Hid (Kp [R, w.heap.size + 1, w.heap.size] w2 w5) := by unfold Hid; rw [← hww]; exact HK11.out.to (Kp.setRow w.heap.size #[.int .i64 r1.1, .int .i64 r2.1, .int .i64 r3.1, .int .i64 r4.1, .int .i32 r5.1, .int .i32 r6.1, .int .i32 r7.1, .int .i64 r8.1, .int .i32 r9.1, .int .i32 r10.1, .int .i64 r11.1]) (fun x hx _ => by simp at hx ⊢; omega) (fun x hx _ => by simp at hx ⊢; omega)
       clear hww))
  refine bodyPost_ret (results_cell_row rfl _ _ w.heap.size 23 #[.int .i64 r1.1, .int .i64 r2.1, .int .i64 r3.1, .int .i64 r4.1, .int .i32 r5.1, .int .i32 r6.1, .int .i32 r7.1, .int .i64 r8.1, .int .i32 r9.1, .int .i32 r10.1, .int .i64 r11.1] _ _ rfl HR5.out Tryd.underlying23 rfl (by rw [stat_sizeR]; rfl)) rfl ?_
  refine ⟨_, HCH.out, ?_, ?_⟩
  · simp only [statCs, putL, List.setIfInBounds_toArray, List.set_cons_zero, List.set_cons_succ]
  · exact (Kp.of_below (X := []) HB2.out).to HK5.out (fun x hx _ => by simp at hx) (fun x hx hlt => by simp at hx ⊢; omega)

set_option maxRecDepth 100000 in
set_option maxHeartbeats 8000000 in
theorem refReadRecord_any (c n : Nat) (A : Option Addr) (l : List UInt8) (w : World) (hr : Reads w w.heap.size 1 A n (bcells l)) (hnc : n ≤ c) (hn : n ≤ 140737488355328) (hnil : A = none → c = 0) :
    Calls Tryd.prog 26 #[.slice A n c] w fun e w' => RecEnd l w e w' := by
  have hl : l.length = n := by have := hr.1; rw [bcells_length] at this; omega
  obtain ⟨w1, hw1⟩ : ∃ w1, w.alloc (.cells #[.int .i64 0, .int .i64 0, .int .i64 0, .int .i64 0, .int .i32 0, .int .i32 0, .int .i32 0, .int .i64 0, .int .i32 0, .int .i32 0, .int .i64 0] 23) = w1 := ⟨_, rfl⟩
  obtain ⟨w2, hw2⟩ : ∃ w2, w1.alloc (.cells #[.slice A n c, .int .i64 0, .int .i64 0] 125) = w2 := ⟨_, rfl⟩
  have hz1 : w1.heap.size = w.heap.size + 1 := by rw [← hw1]; simp
  have hz2 : w2.heap.size = w.heap.size + 2 := by rw [← hw2]; simp [hz1]
  have hb1 : Below w.heap.size w w1 := by rw [← hw1]; exact (Below.refl _ _).alloc (Nat.le_refl _) _
  have hb2 : Below w.heap.size w w2 := by rw [← hw2]; exact hb1.alloc (by omega) _
  have HR1 : Hid (Blk w1 w.heap.size 23 #[.int .i64 0, .int .i64 0, .int .i64 0, .int .i64 0, .int .i32 0, .int .i32 0, .int .i32 0, .int .i64 0, .int .i32 0, .int .i32 0, .int .i64 0]) := by unfold Hid; rw [← hw1]; exact Blk.new _ _ _
  have HR2 : Hid (Blk w2 w.heap.size 23 #[.int .i64 0, .int .i64 0, .int .i64 0, .int .i64 0, .int .i32 0, .int .i32 0, .int .i32 0, .int .i64 0, .int .i32 0, .int .i32 0, .int .i64 0]) := by unfold Hid; rw [← hw2]; exact HR1.out.alloc _
  have hRR : RR w2 w.heap.size (w.heap.size + 1) A c l 0 0 := ⟨by rw [hl, ← hw2]; exact Blk.new' hz1.symm, by rw [hl]; exact hr.below hb2, by omega, by omega, Nat.zero_le _, by omega, hnil⟩
  have HB1 := Lib.hid hb1
  have HB2 := Lib.hid hb2
  have HG : Hid (l.length = 68 → Calls Tryd.prog 81 #[.pointer (some ⟨w.heap.size + 1, 0, none⟩)] w2 fun e w' => ∃ x, gStat l 0 = .inl (x, 68) ∧ e = .returned (.agg (statCs x)) ∧ Kp [w.heap.size + 1] w2 w') := fun h => refGetStat_any w.heap.size (w.heap.size + 1) c A l w2 hRR h
  clear hb1 hb2 hRR hr
  by_cases h1 : n < 68
  · have HD : Hid (decS l = .inl 20) := decS_short (by omega)
    go_enter Tryd.func26, Tryd.ntmps26
    go_wp2_with (refine wpList_store_row rfl 23 (.tmp 2) (.tmp 7) rfl w.heap.size #[.int .i64 0, .int .i64 0, .int .i64 0, .int .i64 0, .int .i32 0, .int .i32 0, .int .i32 0, .int .i64 0, .int .i32 0, .int .i32 0, .int .i64 0] rfl rfl 23 _ HR1.out (by rw [stat_sizeR]; rfl) rfl (by simp [Value.oneCell']) ?_
                 generalize hww : World.setRow _ _ _ = w5
                 have HB5 : Hid (Below w.heap.size w w5) := by unfold Hid; rw [← hww]; exact below_setRow' HB1.out (Nat.le_refl _) _
                 have HR5 : Hid (Blk w5 w.heap.size 23 #[.int .i64 0, .int .i64 0, .int .i64 0, .int .i64 0, .int .i32 0, .int .i32 0, .int .i32 0, .int .i64 0, .int .i32 0, .int .i32 0, .int .i64 0]) := by unfold Hid; rw [← hww]; exact cells_setRow HR1.out
                 clear hww)
    refine bodyPost_ret (results_cell_tmp rfl _ _ w.heap.size 23 #[.int .i64 0, .int .i64 0, .int .i64 0, .int .i64 0, .int .i32 0, .int .i32 0, .int .i32 0, .int .i64 0, .int .i32 0, .int .i32 0, .int .i64 0] _ (.int .i64 20) rfl rfl HR5.out Tryd.underlying23 rfl (by rw [stat_sizeR]; rfl)) rfl ?_
    refine ⟨HB5.out, ?_⟩
    rw [HD.out]
    exact ⟨by decide, rfl⟩
  by_cases h2 : 68 < n
  · have HD : Hid (decS l = .inl 21) := decS_more (by omega)
    go_enter Tryd.func26, Tryd.ntmps26
    go_wp2_with (refine wpList_store_row rfl 23 (.tmp 2) (.tmp 11) rfl w.heap.size #[.int .i64 0, .int .i64 0, .int .i64 0, .int .i64 0, .int .i32 0, .int .i32 0, .int .i32 0, .int .i64 0, .int .i32 0, .int .i32 0, .int .i64 0] rfl rfl 23 _ HR1.out (by rw [stat_sizeR]; rfl) rfl (by simp [Value.oneCell']) ?_
                 generalize hww : World.setRow _ _ _ = w5
                 have HB5 : Hid (Below w.heap.size w w5) := by unfold Hid; rw [← hww]; exact below_setRow' HB1.out (Nat.le_refl _) _
                 have HR5 : Hid (Blk w5 w.heap.size 23 #[.int .i64 0, .int .i64 0, .int .i64 0, .int .i64 0, .int .i32 0, .int .i32 0, .int .i32 0, .int .i64 0, .int .i32 0, .int .i32 0, .int .i64 0]) := by unfold Hid; rw [← hww]; exact cells_setRow HR1.out
                 clear hww)
    refine bodyPost_ret (results_cell_tmp rfl _ _ w.heap.size 23 #[.int .i64 0, .int .i64 0, .int .i64 0, .int .i64 0, .int .i32 0, .int .i32 0, .int .i32 0, .int .i64 0, .int .i32 0, .int .i32 0, .int .i64 0] _ (.int .i64 21) rfl rfl HR5.out Tryd.underlying23 rfl (by rw [stat_sizeR]; rfl)) rfl ?_
    refine ⟨HB5.out, ?_⟩
    rw [HD.out]
    exact ⟨by decide, rfl⟩
  · have HL : Hid (l.length = 68) := by unfold Hid; omega
    have HG2 := Lib.hid (HG.out HL.out)
    go_enter Tryd.func26, Tryd.ntmps26
    go_wp2_with (first
      | (go_at_call 81
         refine HG2.out.mono ?_
         rintro e w4 ⟨x, hx, rfl, hk⟩
         have HX := Lib.hid hx
         have HR4 := Lib.hid (HR2.out.kp hk (by simp))
         have HB4 : Hid (Below w.heap.size w w4) := HB2.out.trans (hk.below (by simp) HB2.out.size)
         obtain ⟨sc, hsc⟩ : ∃ sc, sc = statCs x := ⟨_, rfl⟩
         rw [← hsc]
         have HSC := Lib.hid hsc
         have hf := statCs_facts (gStat_at hx).2.2.1 (gStat_at hx).2.2.2
         rw [← hsc] at hf
         have H11 := Lib.hid hf.1
         have HOC := Lib.hid hf.2
         clear hf
         clear hx hk hsc)
      | (refine wpList_store_row rfl 23 (.tmp 2) (.tmp 15) rfl w.heap.size sc rfl rfl 23 _ HR4.out (by rw [stat_sizeR, H11.out]) (by rw [H11.out]; rfl) HOC.out ?_
         generalize hww : World.setRow _ _ _ = w5
         have HB5 : Hid (Below w.heap.size w w5) := by unfold Hid; rw [← hww]; exact below_setRow' HB4.out (Nat.le_refl _) _
         have HR5 : Hid (Blk w5 w.heap.size 23 sc) := by unfold Hid; rw [← hww]; exact cells_setRow HR4.out
         clear hww))
    refine bodyPost_ret (results_cell_tmp rfl _ _ w.heap.size 23 sc _ (.int .i64 0) rfl rfl HR5.out Tryd.underlying23 rfl (by rw [stat_sizeR, H11.out])) rfl ?_
    refine ⟨HB5.out, ?_⟩
    rw [decS_same HL.out HX.out, HSC.out]
    exact ⟨rfl, (gStat_at HX.out).2.2⟩
end Go.Proofs.YtaojjjcaofhmcaaDoor
