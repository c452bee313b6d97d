/- JuteInside: the inner reading: the walk. -/
import Derived.Test.YtbegingiedbldaaDoorJb1
namespace Go.Proofs.YtbegingiedbldaaDoor
open Go.RowKit

/-- behind a run of inside: what its block holds -/
def Ins (base bx : Nat) (SV : Value) (after : Int) (S : List St) (b : List UInt8) (w : World) : Prop :=
  ∃ vN vT, Blk w bx 62 #[SV, .int .i64 (rAt (play S b 0).2), .int .i64 (rE (play S b 0).2), vN, vT, .int .u8 after] ∧ w.ownsRow base 2 1 vN (play S b 0).1.1.length (icells (play S b 0).1.1) ∧ w.ownsRow base 9 1 vT (play S b 0).1.2.length (scells ((play S b 0).1.2.map bs))

set_option maxRecDepth 100000 in
set_option maxHeartbeats 2000000 in
theorem inRun_any (B : Nat → Prop) (R c bx sn sc Bs : Nat) (A SA : Option Addr) (b : List UInt8) (S : List St) (after : Int) (w : World) (hE : Env w) (ha0 : 0 ≤ after) (ha1 : after < 256)
    (hR : Rdr w B R A c (bBuf b ++ bByte after) 0) (hx : Blk w bx 62 #[.slice SA sn sc, .int .i64 0, .int .i64 0, .slice none 0 0, .slice none 0 0, .int .u8 0]) (hS : Reads w Bs 4 SA sn (S.flatMap stCells)) (hBx : ¬ B bx) (hsb : Bs ≤ bx) (hsR : Bs ≤ R) (hne : bx ≠ R)
    (hn : b.length ≤ 1048576) (hsn : sn ≤ 1099511627776) :
    Calls Tryd.prog 31 #[.pointer (some ⟨bx, 0, none⟩), .pointer (some ⟨R, 0, none⟩)] w fun e W' => Did B R c A (bBuf b ++ bByte after) [bx] (Ins w.heap.size bx (.slice SA sn sc) after S b) (.inl (b.length + 5)) w e W' := by
  obtain ⟨l, hl⟩ : ∃ l, Hid (l = bBuf b ++ bByte after) := ⟨_, rfl⟩
  rw [← hl.out] at hR ⊢
  have hat : Atb l 0 (bBuf b ++ bByte after) := by rw [← hl.out]; exact Atb.all l
  have hbuf := buf_atb (most := 2147483647) hat.left (by omega) (by omega)
  have hby := byte_atb hat.right ha0 ha1
  rw [bBuf_len, show 0 + (4 + b.length) = 0 + 4 + b.length by omega] at hby
  have hRd := rBuffer_any B R c 0 A l 2147483647 w hR
  rw [hbuf] at hRd
  have HRD := Lib.hid hRd
  have HBY := Lib.hid hby
  have HX := Lib.hid hx
  have HS := Lib.hid hS
  have HR := Lib.hid hR
  have HE := Lib.hid hE
  have hbl := hx.lt
  have hRl := hR.lt
  have hmf : ∀ (fn : Fn) (first cap : Array Value) (w : World), (Instr.makeFunc fn first cap).run Tryd.prog w = .ok (.func fn first cap) w := fun _ _ _ _ => rfl
  clear hat hbuf hby hRd hx hS hR hE
  go_enter Tryd.func31, Tryd.ntmps31
  go_wp2_with (first
    | (go_at_call 24
       refine (HRD.out).mono ?_
       rintro e w2 ⟨⟨v, rfl, A2, c2, rfl, ho2⟩, hk2, hr2⟩
       have HO2 := Lib.hid ho2
       have HK2 := Lib.hid hk2
       have HR2 := Lib.hid hr2
       have HX2 := Lib.hid (HX.out.kp hk2 (by simp [hne]))
       have x0 : w2.cell? ⟨bx, 0, none⟩ = some (.slice SA sn sc) := (by rw [HX2.out.cell 0]; rfl)
       obtain ⟨w3, hw3⟩ : ∃ w3, w2.alloc (.cells #[.slice SA sn sc, .slice none 0 0, .slice none 0 0, .pointer none, .int .i64 0] 31) = w3 := ⟨_, rfl⟩
       have hb3 : Below w2.heap.size w2 w3 := (by rw [← hw3]; exact (Below.refl _ _).alloc (Nat.le_refl _) _)
       have hB3 : Blk w3 w2.heap.size 31 #[.slice SA sn sc, .slice none 0 0, .slice none 0 0, .pointer none, .int .i64 0] := (by rw [← hw3]; exact Blk.new _ _ _)
       have hz3 : w3.heap.size = w2.heap.size + 1 := (by rw [← hw3]; simp)
       have hE2 : Env w2 := ⟨HE.out.tab.kp hk2 ⟨(fun h => by have := HR.out.old _ HR.out.gl.1; simp at h; omega), (fun h => by have := HR.out.old _ HR.out.gl.2; simp at h; omega)⟩ ⟨HE.out.g1, HE.out.g2⟩, Nat.lt_of_lt_of_le HE.out.g1 hk2.size, Nat.lt_of_lt_of_le HE.out.g2 hk2.size⟩
       have HE3 := Lib.hid (hE2.below hb3)
       have HB3 := Lib.hid hb3
       have HP3 := Lib.hid hB3
       have HZ3 := Lib.hid hz3
       have HX3 := Lib.hid (HX2.out.below hb3 HX2.out.lt)
       have HR3 := Lib.hid (hr2.later hb3)
       have HS3 : Hid (Reads w3 Bs 4 SA sn (S.flatMap stCells)) := (HS.out.kp hk2 (by omega) (by simp; omega)).below (hb3.mono (by have := hk2.size; omega))
       clear ho2 hk2 hr2 hb3 hB3 hz3 hE2)
    | (go_at_call 11
       have hrd := (readPlay_any A2 SA b.length c2 sn sc w2.heap.size Bs b S (.pointer none) 0 w3 (((Reads.of_own HO2.out).below HB3.out).more HB3.out.size) (own_cap HO2.out).1 (by omega) (own_cap HO2.out).2 HE3.out HP3.out HS3.out (by have := HK2.out.size; omega) hsn (by omega) (by omega) (fun _ ad e => by
         have := (HO2.out.lt ad.block (by rw [e]; rfl)).2
         omega) ⟨by have := HE.out.g1; have := HK2.out.size; omega, by have := HE.out.g2; have := HK2.out.size; omega⟩)
       with_reducible refine hrd.mono ?_
       clear hrd
       rintro e w4 ⟨rfl, hk4, ⟨vN, vT, hp4⟩, _⟩
       obtain ⟨aN, cN, rfl⟩ := slice_form hp4.nums
       obtain ⟨aT, cT, rfl⟩ := slice_form hp4.txts
       have HX4 := Lib.hid (HX3.out.kp hk4 (by have := HK2.out.size; simp; omega))
       have HR4 := Lib.hid (HR3.out.kp hk4 (by have := HK2.out.size; simp; omega) (fun x hx hb => by have := HR.out.old _ hb; have := HK2.out.size; simp at hx; omega))
       have HP4 := Lib.hid hp4
       have HK4 := Lib.hid hk4
       obtain ⟨w5, hw5⟩ : ∃ w5, (w4.setCell ⟨bx, 1, none⟩ (.int .i64 (rAt (play S b 0).2))).setCell ⟨bx, 2, none⟩ (.int .i64 (rE (play S b 0).2)) = w5 := ⟨_, rfl⟩
       have hk5 : Kp [bx] w4 w5 := (by rw [← hw5]; exact (Kp.setCell ⟨bx, 1, none⟩ _).trans (Kp.setCell ⟨bx, 2, none⟩ _))
       have y1 : w4.cell? ⟨bx, 1, none⟩ = some (.int .i64 0) := (by rw [HX4.out.cell 1]; rfl)
       have y2 : w4.cell? ⟨bx, 2, none⟩ = some (.int .i64 0) := (by rw [HX4.out.cell 2]; rfl)
       have yf1 := HX4.out.frozen 1
       have yf2 := HX4.out.frozen 2
       have HX5 : Hid (Blk w5 bx 62 #[.slice SA sn sc, .int .i64 (rAt (play S b 0).2), .int .i64 (rE (play S b 0).2), .slice none 0 0, .slice none 0 0, .int .u8 0]) := (by unfold Hid; rw [← hw5]; exact (HX4.out.set_ 1 _).set_ 2 _)
       have hnb : w2.heap.size ≠ bx := (by have := HK2.out.size; omega)
       have g1 : w5.cell? ⟨w2.heap.size, 1, none⟩ = some (.slice aN (play S b 0).1.1.length cN) := (by rw [hk5.cell hp4.blk.lt (by simpa using hnb), hp4.blk.cell 1]; rfl)
       have g2 : w5.cell? ⟨w2.heap.size, 2, none⟩ = some (.slice aT (play S b 0).1.2.length cT) := (by rw [hk5.cell hp4.blk.lt (by simpa using hnb), hp4.blk.cell 2]; rfl)
       have HK5 := Lib.hid hk5
       obtain ⟨w6, hw6⟩ : ∃ w6, (w5.setCell ⟨bx, 3, none⟩ (.slice aN (play S b 0).1.1.length cN)).setCell ⟨bx, 4, none⟩ (.slice aT (play S b 0).1.2.length cT) = w6 := ⟨_, rfl⟩
       have hk6 : Kp [bx] w5 w6 := (by rw [← hw6]; exact (Kp.setCell ⟨bx, 3, none⟩ _).trans (Kp.setCell ⟨bx, 4, none⟩ _))
       have y3 : w5.cell? ⟨bx, 3, none⟩ = some (.slice none 0 0) := (by rw [HX5.out.cell 3]; rfl)
       have y4 : w5.cell? ⟨bx, 4, none⟩ = some (.slice none 0 0) := (by rw [HX5.out.cell 4]; rfl)
       have yf3 := HX5.out.frozen 3
       have yf4 := HX5.out.frozen 4
       have HX6 : Hid (Blk w6 bx 62 #[.slice SA sn sc, .int .i64 (rAt (play S b 0).2), .int .i64 (rE (play S b 0).2), (.slice aN (play S b 0).1.1.length cN), (.slice aT (play S b 0).1.2.length cT), .int .u8 0]) := (by unfold Hid; rw [← hw6]; exact (HX5.out.set_ 3 _).set_ 4 _)
       have HR6 := Lib.hid ((HR4.out.kp hk5 (by simp; omega) (fun x hx => by rw [List.mem_singleton.1 hx]; exact hBx)).kp hk6 (by simp; omega) (fun x hx => by rw [List.mem_singleton.1 hx]; exact hBx))
       have HK6 := Lib.hid hk6
       clear hk4 hp4 hk5 hk6))
  have hN4 := HP4.out.nums
  have hT4 := HP4.out.txts
  have hN6 := own_kp (own_kp hN4 HK5.out (fun x hx e => own_blk_ne hN4 HX4.out (by decide) (by rw [e, List.mem_singleton.1 hx]))) HK6.out (fun x hx e => own_blk_ne hN4 HX4.out (by decide) (by rw [e, List.mem_singleton.1 hx]))
  have hT6 := own_kp (own_kp hT4 HK5.out (fun x hx e => own_blk_ne hT4 HX4.out (by decide) (by rw [e, List.mem_singleton.1 hx]))) HK6.out (fun x hx e => own_blk_ne hT4 HX4.out (by decide) (by rw [e, List.mem_singleton.1 hx]))
  have HN6 := Lib.hid hN6
  have HT6 := Lib.hid hT6
  have HK06 : Hid (Kp [R, bx] w w6) := (((HK2.out.to (Kp.of_below (X := []) HB3.out) (Z := [R, bx]) (fun x h _ => by simp at h; simp [h]) (fun _ h => by cases h)).to HK4.out (fun _ h _ => h) (fun x h hl => by have := HK2.out.size; simp at h; omega)).to HK5.out (fun _ h _ => h) (fun x h _ => by simp at h; simp [h])).to HK6.out (fun _ h _ => h) (fun x h _ => by simp at h; simp [h])
  have hrb := rByte_any B R c (0 + 4 + b.length) A l w6 HR6.out
  rw [HBY.out] at hrb
  have HRB := Lib.hid hrb
  have HZ6 : Hid (w.heap.size ≤ w3.heap.size) := by unfold Hid; have := HK2.out.size; have := HB3.out.size; omega
  clear hN4 hT4 hN6 hT6 hrb x0 y1 y2 y3 y4 yf1 yf2 yf3 yf4 g1 g2 hw5 hw6 hw3 hnb HRD HBY HX HS HE HO2 HK2 HR2 HX2 HE3 HB3 HP3 HZ3 HX3 HR3 HS3 HX4 HR4 HP4 HK4 HX5 HK5 HK6
  go_wp2_with (first
    | (go_at_call 21
       refine (HRB.out).mono ?_
       rintro e w7 ⟨⟨v, rfl, hv⟩, hk7, hr7⟩
       have hv : v = .int .u8 after := (by rw [hv, show ((after.toNat : Nat) : Int) = after by omega])
       subst hv
       have HX7 := Lib.hid (HX6.out.kp hk7 (by simp [hne]))
       have y5 : w7.cell? ⟨bx, 5, none⟩ = some (.int .u8 0) := (by rw [HX7.out.cell 5]; rfl)
       have yf5 := HX7.out.frozen 5
       have HK7 := Lib.hid hk7
       have HR7 := Lib.hid hr7
       clear hk7 hr7))
  go_end0
  have k8 : Kp [bx] w7 (w7.setCell ⟨bx, 5, none⟩ (.int .u8 after)) := Kp.setCell ⟨bx, 5, none⟩ _
  refine ⟨⟨_, rfl⟩, ⟨_, _, HX7.out.set_ 5 _, ?_, ?_⟩, (HK06.out.to HK7.out (fun _ h _ => h) (fun x h _ => by simp at h; simp [h])).to k8 (fun _ h _ => h) (fun x h _ => by simp at h; simp [h]), ?_⟩
  · exact own_base (own_kp (own_kp HN6.out HK7.out (fun x hx e => own_blk_ne HN6.out HR6.out.blk (by decide) (by rw [e, List.mem_singleton.1 hx]))) k8 (fun x hx e => own_blk_ne HN6.out HX6.out (by decide) (by rw [e, List.mem_singleton.1 hx]))) HZ6.out
  · exact own_base (own_kp (own_kp HT6.out HK7.out (fun x hx e => own_blk_ne HT6.out HR6.out.blk (by decide) (by rw [e, List.mem_singleton.1 hx]))) k8 (fun x hx e => own_blk_ne HT6.out HX6.out (by decide) (by rw [e, List.mem_singleton.1 hx]))) HZ6.out
  · rw [show b.length + 5 = 0 + 4 + b.length + 1 by omega]
    exact HR7.out.kp k8 (by simp; omega) (fun x hx => by rw [List.mem_singleton.1 hx]; exact hBx)
end Go.Proofs.YtbegingiedbldaaDoor
