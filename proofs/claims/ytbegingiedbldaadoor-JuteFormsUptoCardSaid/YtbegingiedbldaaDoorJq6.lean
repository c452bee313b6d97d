/- The chapter's first examples: the walk. -/
import Derived.Test.YtbegingiedbldaaDoorJq5
namespace Go.Proofs.YtbegingiedbldaaDoor
open Go.RowKit

def liveL : List UInt8 := [1, 255, 255, 255, 254, 0, 0, 0, 2, 195, 169, 0, 0, 0, 0]
def liveS : List St := [⟨1, 0, 0, 0⟩, ⟨3, 0, 0, 0⟩, ⟨6, 2, 0, 0⟩, ⟨5, 0, 0, 0⟩]
theorem live_bytes : (([] ++ bBool true) ++ bInt (-2)) ++ bBuf [195, 169] ++ bBuf [] = liveL := by decide +kernel
theorem live_play : play liveS liveL 0 = (([1, -2], [[195, 169], []]), .inl 15) := by kernel_rfl

theorem live_at : rAt (play liveS liveL 0).2 = 15 := by rw [live_play]; rfl
theorem live_e : rAllE liveL (play liveS liveL 0).2 = 0 := by rw [live_play]; rfl
theorem own_cap {w : World} {base size n c : Nat} {e : TypeId} {A : Option Addr} {xs : List Value} (h : w.ownsRow base e size (.slice A n c) n xs) : n ≤ c ∧ (A = none → c = 0) := by
  refine ⟨?_, fun hA => (own_nil h hA).2⟩
  rcases h.2 with ⟨h1, h2⟩ | ⟨g, cap, cur, h1, _, _, h2, _⟩
  · injection h1 with _ _ h3; omega
  · injection h1 with _ _ h3; omega
theorem reads_lits (w : World) (t : TypeId) (xs : List Value) (size n : Nat) (hl : xs.length = n * size) : Reads (w.alloc (.cells xs.toArray t)) (w.heap.size + 1) size (some ⟨w.heap.size, 0, none⟩) n xs :=
  ⟨hl, fun _ => ⟨_, rfl, Nat.lt_succ_self _, fun j u hu => by
    have h := (Blk.new w t xs.toArray).cell j
    rw [Go.WideShapes.add_plain, Nat.zero_add, h]
    simpa using hu⟩⟩

set_option maxHeartbeats 400000 in
theorem no_any (z : Int) (w : World) : Calls Tryd.prog 14 #[.int .i64 z] w fun e w' => e = .returned (.int .i64 z) ∧ w = w' := by
  go_enter Tryd.func14, Tryd.ntmps14
  go_wp2
  go_ret
  exact ⟨rfl, rfl⟩

set_option maxRecDepth 100000 in
set_option maxHeartbeats 2000000 in
theorem live_any (w : World) (hE : Env w) : Calls Tryd.prog 17 #[] w fun e w' => e = .returned (.bool true) ∧ Below w.heap.size w w' := by
  have hmf : ∀ (fn : Fn) (first cap : Array Value) (w : World), (Instr.makeFunc fn first cap).run Tryd.prog w = .ok (.func fn first cap) w := fun _ _ _ _ => rfl
  obtain ⟨w0, hw0⟩ : ∃ w0, w.alloc (.cells #[.slice none 0 0] 57) = w0 := ⟨_, rfl⟩
  have hb0 : Below w.heap.size w w0 := by rw [← hw0]; exact (Below.refl _ _).alloc (Nat.le_refl _) _
  have hz0 : w0.heap.size = w.heap.size + 1 := by rw [← hw0]; simp
  have h0 : Wr w0 w.heap.size w.heap.size (.slice none 0 0) [] := ⟨by rw [← hw0]; exact Blk.new _ _ _, World.ownsRow_nil _ _ _ _⟩
  have H0 := Lib.hid h0
  have HB0 := Lib.hid hb0
  have HZ0 := Lib.hid hz0
  clear h0 hb0 hz0
  go_enter Tryd.func17, Tryd.ntmps17
  go_wp2_with (first
    | (go_at_call 35; refine (wBool_any w.heap.size w.heap.size _ [] true w0 H0.out (by rw [HZ0.out]; omega) (by decide)).mono ?_; rintro e w1 ⟨rfl, v1, hp⟩; have H1 := Lib.hid hp; clear hp)
    | (go_at_call 36; refine (wInt_any w.heap.size w.heap.size v1 _ _ w1 H1.out.1 (by have := H1.out.size; have := HZ0.out; omega) (by decide)).mono ?_; rintro e w2 ⟨rfl, v2, hp⟩; have H2 := Lib.hid (H1.out.cat (Below.refl _ _) hp); clear hp)
    | (go_at_call 38; refine (wText_any w.heap.size w.heap.size v2 _ _ w2 H2.out.1 (by have := H2.out.size; have := HZ0.out; omega) (by decide)).mono ?_; rintro e w3 ⟨rfl, v3, hp⟩; have H3 := Lib.hid (H2.out.cat (Below.refl _ _) hp); clear hp)
    | (go_at_call 28; refine (wBuffer_any w.heap.size w.heap.size v3 _ [] none 0 0 w3.heap.size w3 H3.out.1 Reads.none_ (Nat.le_refl _) (fun _ ad e => by cases e) (by have := H3.out.size; have := HZ0.out; omega) (by decide)).mono ?_; rintro e w4 ⟨rfl, v4, hp⟩; have H4 := Lib.hid (H3.out.cat (Below.refl _ _) hp); clear hp)
    | (go_at_call 30
       have hw4 : Wr w4 w.heap.size w.heap.size v4 liveL := (by have := H4.out.1; rwa [show [] ++ (bBool true ++ bInt (-2) ++ bBuf (⟨#[195, 169]⟩ : ByteArray).data.toList ++ bBuf []) = liveL from live_bytes] at this)
       refine (wBytes_any w.heap.size w.heap.size v4 liveL w4 hw4 (by decide)).mono ?_
       rintro e w5 ⟨A5, c5, rfl, ho5, hb5⟩
       rw [show liveL.length = 15 from rfl]
       have ho5 : w5.ownsRow w4.heap.size 5 1 (.slice A5 15 c5) 15 (bcells liveL) := ho5
       obtain ⟨w6, hw6⟩ : ∃ w6, (w5.alloc (.cells #[.int .i64 1, .int .i64 0, .int .i64 0, .int .i64 0, .int .i64 3, .int .i64 0, .int .i64 0, .int .i64 0, .int .i64 6, .int .i64 2, .int .i64 0, .int .i64 0, .int .i64 5, .int .i64 0, .int .i64 0, .int .i64 0] 53)).alloc (.cells #[.slice (some ⟨w5.heap.size, 0, none⟩) 4 4, .slice none 0 0, .slice none 0 0, .pointer none, .int .i64 0] 31) = w6 := ⟨_, rfl⟩
       have hb6 : Below w5.heap.size w5 w6 := (by rw [← hw6]; exact ((Below.refl _ _).alloc (Nat.le_refl _) _).alloc (by simp) _)
       have bP : Blk w6 (w5.heap.size + 1) 31 #[.slice (some ⟨w5.heap.size, 0, none⟩) 4 4, .slice none 0 0, .slice none 0 0, .pointer none, .int .i64 0] := (by rw [← hw6]; exact Blk.new' (by simp))
       have hS6 : Reads w6 (w5.heap.size + 1) 4 (some ⟨w5.heap.size, 0, none⟩) 4 (liveS.flatMap stCells) := (by
         rw [← hw6]
         exact (reads_lits w5 53 (liveS.flatMap stCells) 4 4 rfl).alloc (by simp) _)
       have hz6 : w6.heap.size = w5.heap.size + 2 := (by rw [← hw6]; simp)
       have HO5 := Lib.hid ho5
       have HB5 := Lib.hid hb5
       have HB6 := Lib.hid hb6
       have HBP := Lib.hid bP
       have HS6 := Lib.hid hS6
       have HZ6 := Lib.hid hz6
       have HB05 : Hid (Below w.heap.size w w5) := (HB0.out.trans ((H4.out.below (Nat.le_refl _) (fun x e => by cases e) HB0.out.size).trans (hb5.mono (Nat.le_trans HB0.out.size H4.out.size))))
       have HE6 : Hid (Env w6) := hE.below (HB05.out.trans (hb6.mono HB05.out.size))
       clear ho5 hb5 hb6 bP hS6 hz6 hw4)
    | (go_at_call 18
       refine (allPlay_any A5 (some ⟨w5.heap.size, 0, none⟩) 15 c5 4 4 (w5.heap.size + 1) (w5.heap.size + 1) liveL liveS (.pointer none) 0 w6 (((Reads.of_own HO5.out).below HB6.out).more HB6.out.size) (own_cap HO5.out).1 (by omega) (own_cap HO5.out).2 HE6.out HBP.out HS6.out (Nat.le_refl _) (by omega) (by omega) (by omega) (fun _ ad e => by
         have := (HO5.out.lt ad.block (by rw [e]; rfl)).2
         omega) ⟨by have := hE.g1; have := HB05.out.size; omega, by have := hE.g2; have := HB05.out.size; omega⟩).mono ?_
       rintro e w7 ⟨rfl, hk7, vN, vT, hp7⟩
       rw [live_play] at hp7
       rw [live_at, live_e]
       obtain ⟨aN, cN, rfl⟩ := slice_form hp7.nums
       obtain ⟨aT, cT, rfl⟩ := slice_form hp7.txts
       have hz7 : w6.heap.size ≤ w7.heap.size := hk7.size
       obtain ⟨w8, hw8⟩ : ∃ w8, w7.alloc (.cells #[.int .u8 1, .int .u8 255, .int .u8 255, .int .u8 255, .int .u8 254, .int .u8 0, .int .u8 0, .int .u8 0, .int .u8 2, .int .u8 195, .int .u8 169, .int .u8 0, .int .u8 0, .int .u8 0, .int .u8 0] 5) = w8 := ⟨_, rfl⟩
       have hb8 : Below w7.heap.size w7 w8 := (by rw [← hw8]; exact (Below.refl _ _).alloc (Nat.le_refl _) _)
       have hk8 : Kp [w5.heap.size + 1] w6 w8 := hk7.to (Kp.of_below (X := []) hb8) (fun _ h _ => h) (fun _ h => by cases h)
       have hr1 : Reads w8 w5.heap.size 1 A5 15 (bcells liveL) := ((Reads.of_own HO5.out).below HB6.out).kp hk8 HB6.out.size (by simp)
       have hr2 : Reads w8 (w7.heap.size + 1) 1 (some ⟨w7.heap.size, 0, none⟩) 15 (bcells liveL) := (by rw [← hw8]; exact reads_lits w7 5 (bcells liveL) 1 15 rfl)
       have hp8 := hp7.later hb8
       have g1 : w8.cell? ⟨w5.heap.size + 1, 1, none⟩ = some (.slice aN 2 cN) := (by rw [hp8.blk.cell 1]; rfl)
       have g2 : w8.cell? ⟨w5.heap.size + 1, 2, none⟩ = some (.slice aT 2 cT) := (by rw [hp8.blk.cell 2]; rfl)
       have g3 : w5.heap.size + 1 < w8.heap.size := hp8.blk.lt
       have HP8 := Lib.hid hp8
       have HR1 := Lib.hid hr1
       have HR2 := Lib.hid hr2
       have HB8 : Hid (Below w.heap.size w w8) := (HB05.out.trans (HB6.out.mono HB05.out.size)).trans (hk8.below (by simp; exact Nat.le_trans HB05.out.size (Nat.le_succ _)) (Nat.le_trans HB05.out.size HB6.out.size))
       clear hk7 hp7 hb8 hk8 hr1 hr2 hp8)
    | (go_at_call 16; refine (sameBytes_true A5 (some ⟨w7.heap.size, 0, none⟩) 15 c5 15 _ _ liveL w8 HR1.out HR2.out (by omega)).mono ?_; rintro e w9 ⟨rfl, m9, rfl⟩)
    | (go_at_call 14; refine (no_any _ _).mono ?_; rintro e w10 ⟨rfl, rfl⟩)
    | (go_at_call 15
       obtain ⟨w10, hw10⟩ : ∃ w10, ((w8.drewN m9).alloc (.cells #[.int .i64 1, .int .i64 (-2)] 2)).alloc (.cells #[.string ⟨#[195, 169]⟩, .string ⟨#[]⟩] 9) = w10 := ⟨_, rfl⟩
       have hb10 : Below w8.heap.size w8 w10 := (by rw [← hw10]; exact ((below_drewN' (Below.refl _ _) m9).alloc (Nat.le_refl _) _).alloc (by simp) _)
       have r1 : Reads w10 w10.heap.size 1 aN 2 (icells [1, -2]) := ((Reads.of_own HP8.out.nums).below hb10).more hb10.size
       have r3 : Reads w10 w10.heap.size 1 aT 2 (scells [bs [195, 169], bs []]) := ((Reads.of_own HP8.out.txts).below hb10).more hb10.size
       have r2 : Reads w10 w10.heap.size 1 (some ⟨w8.heap.size, 0, none⟩) 2 (icells [1, -2]) := (by
         rw [← hw10]
         exact ((reads_lits (w8.drewN m9) 2 (icells [1, -2]) 1 2 rfl).alloc (by simp) _).more (by simp))
       have r4 : Reads w10 w10.heap.size 1 (some ⟨w8.heap.size + 1, 0, none⟩) 2 (scells [bs [195, 169], bs []]) := (by
         rw [← hw10]
         have h := reads_lits ((w8.drewN m9).alloc (.cells #[.int .i64 1, .int .i64 (-2)] 2)) 9 (scells [bs [195, 169], bs []]) 1 2 rfl
         have e : ((w8.drewN m9).alloc (.cells #[.int .i64 1, .int .i64 (-2)] 2)).heap.size = w8.heap.size + 1 := (by simp)
         rw [e] at h
         exact h.more (by simp))
       have hs : Calls Tryd.prog 15 #[.agg #[.slice aN 2 cN, .slice aT 2 cT], .agg #[.slice (some ⟨w8.heap.size, 0, none⟩) 2 2, .slice (some ⟨w8.heap.size + 1, 0, none⟩) 2 2]] w10 fun e w' => e = .returned (.bool true) ∧ Below w10.heap.size w10 w' :=
         same_true [1, -2] [bs [195, 169], bs []] aN _ aT _ cN 2 cT 2 w10.heap.size w10 (Nat.le_refl _) r1 r2 r3 r4 (by decide) (by decide)
       rw [hw10]
       refine hs.mono ?_
       rintro e w11 ⟨rfl, hb11⟩
       have HB11 := Lib.hid ((HB8.out.trans (hb10.mono HB8.out.size)).trans (hb11.mono (Nat.le_trans HB8.out.size hb10.size)))
       clear hb10 r1 r2 r3 r4 hs hb11 hw10))
  go_ret
  exact ⟨rfl, HB11.out⟩
end Go.Proofs.YtbegingiedbldaaDoor
