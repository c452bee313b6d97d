/- JuteInside: the walk. -/
import Derived.Test.YtbegingiedbldaaDoorJn1
import Derived.Test.YtbegingiedbldaaDoorJl2
namespace Go.Proofs.YtbegingiedbldaaDoor
open Go.RowKit

theorem Ins.kp {base bx : Nat} {SV : Value} {after : Int} {S : List St} {b : List UInt8} {w w' : World} {X : List Nat} (h : Ins base bx SV after S b w) (hk : Kp X w w') (hb : bx ∉ X) (hX : ∀ x ∈ X, x < base ∨ w.heap.size ≤ x) : Ins base bx SV after S b w' := by
  obtain ⟨vN, vT, h1, h2, h3⟩ := h
  refine ⟨vN, vT, h1.kp hk hb, own_kp h2 hk (fun x hx e => ?_), own_kp h3 hk (fun x hx e => ?_)⟩
  · have := h2.lt x e
    rcases hX x hx with h | h <;> omega
  · have := h3.lt x e
    rcases hX x hx with h | h <;> omega

set_option maxRecDepth 100000 in
set_option maxHeartbeats 2000000 in
theorem inside_any (A0 SA : Option Addr) (n0 c0 sn sc : Nat) (b : List UInt8) (S : List St) (after : Int) (w : World) (hE : Env w) (ha0 : 0 ≤ after) (ha1 : after < 256)
    (h0 : Reads w w.heap.size 1 A0 n0 (bcells b)) (hS : Reads w w.heap.size 4 SA sn (S.flatMap stCells))
    (hn0 : n0 ≤ c0) (hz0 : A0 = none → c0 = 0) (hb : n0 ≤ 1048576) (hsn : sn ≤ 1048576) :
    Calls Tryd.prog 5 #[.slice A0 n0 c0, .slice SA sn sc, .int .u8 after] w fun e w' => e = .returned (.bool true) ∧ Below w.heap.size w w' := by
  have hl0 : b.length = n0 := by have := h0.1; rw [bcells_length] at this; omega
  have hls : S.length = sn := by have := hS.1; rw [flat_len] at this; omega
  subst hl0 hls
  obtain ⟨l, hl⟩ : ∃ l, Hid (l = bBuf b ++ bByte after) := ⟨_, rfl⟩
  have HLn : Hid (l.length = b.length + 5) := by unfold Hid; rw [hl.out, List.length_append, bBuf_len]; simp [bByte]; omega
  have hmf : ∀ (fn : Fn) (first cap : Array Value) (w : World), (Instr.makeFunc fn first cap).run Tryd.prog w = .ok (.func fn first cap) w := fun _ _ _ _ => rfl
  have HE := Lib.hid hE
  have H0 := Lib.hid h0
  have HS := Lib.hid hS
  clear hE h0 hS
  go_enter Tryd.func5, Tryd.ntmps5
  go_wp2_with (first
    | (go_at_call 17
       refine (live_any w HE.out).mono ?_
       rintro e w1 ⟨rfl, hb1⟩
       have HB1 := Lib.hid hb1
       obtain ⟨w2, hw2⟩ : ∃ w2, w1.alloc (.cells #[.slice none 0 0] 57) = w2 := ⟨_, rfl⟩
       have hb2 : Below w1.heap.size w1 w2 := (by rw [← hw2]; exact (Below.refl _ _).alloc (Nat.le_refl _) _)
       have HW2 : Hid (Wr w2 w1.heap.size w1.heap.size (.slice none 0 0) []) := ⟨by rw [← hw2]; exact Blk.new' rfl, World.ownsRow_nil _ _ _ _⟩
       have HB2 : Hid (Below w.heap.size w w2) := hb1.trans (hb2.mono hb1.size)
       have HS2 : Hid (w1.heap.size ≤ w2.heap.size) := hb2.size
       clear hb1 hb2)
    | (go_at_call 28
       have hrd := wBuffer_any w1.heap.size w1.heap.size _ [] b A0 b.length c0 w.heap.size w2 HW2.out (H0.out.below HB2.out) HB2.out.size (fun hn ad e => ⟨fun e2 => by
         obtain ⟨ad', e', hb', _⟩ := H0.out.2 hn
         rw [e] at e'
         injection e' with e'
         rw [← e', e2] at hb'
         have := HB1.out.size
         omega, by simp [Value.ownBlock]⟩) HS2.out (by simp; omega)
       with_reducible refine hrd.mono ?_
       clear hrd
       rintro e w3 ⟨rfl, v3, hp⟩
       have HB3 : Hid (Below w.heap.size w w3) := HB2.out.trans (hp.below HB1.out.size (fun x e => by simp [Value.ownBlock] at e) HB2.out.size)
       have HW3 := Lib.hid (show Wr w3 w1.heap.size w1.heap.size v3 (bBuf b) by simpa using hp.1)
       have HS3 : Hid (w1.heap.size ≤ w3.heap.size) := Nat.le_trans HS2.out hp.size
       clear hp)
    | (go_at_call 29
       have hrd := wByte_any w1.heap.size w1.heap.size v3 (bBuf b) after ha0 ha1 w3 HW3.out HS3.out (by rw [bBuf_len]; omega)
       with_reducible refine hrd.mono ?_
       clear hrd
       rintro e w4 ⟨rfl, v4, hp⟩
       have HB4 : Hid (Below w.heap.size w w4) := HB3.out.trans (hp.below HB1.out.size (fun x e => by have := (HW3.out.2.lt x e).1; have := HB1.out.size; omega) HB3.out.size)
       have HW4 := Lib.hid (show Wr w4 w1.heap.size w1.heap.size v4 l by rw [hl.out]; exact hp.1)
       have HS4 : Hid (w1.heap.size ≤ w4.heap.size) := Nat.le_trans HS3.out hp.size
       obtain ⟨w5, hw5⟩ : ∃ w5, w4.alloc (.cells #[.slice SA S.length sc, .int .i64 0, .int .i64 0, .slice none 0 0, .slice none 0 0, .int .u8 0] 62) = w5 := ⟨_, rfl⟩
       have hb5 : Below w4.heap.size w4 w5 := (by rw [← hw5]; exact (Below.refl _ _).alloc (Nat.le_refl _) _)
       have HX5 : Hid (Blk w5 w4.heap.size 62 #[.slice SA S.length sc, .int .i64 0, .int .i64 0, .slice none 0 0, .slice none 0 0, .int .u8 0]) := (by unfold Hid; rw [← hw5]; exact Blk.new _ _ _)
       have HB5 : Hid (Below w.heap.size w w5) := HB4.out.trans (hb5.mono HB4.out.size)
       have HW5 := Lib.hid (HW4.out.later hb5)
       have HB45 := Lib.hid hb5
       clear hp hb5)
    | (go_at_call 30
       have hrd := wBytes_any w1.heap.size w1.heap.size v4 l w5 HW5.out (by have := HLn.out; omega)
       with_reducible refine hrd.mono ?_
       clear hrd
       rintro e w6 ⟨A6, c6, rfl, ho6, hb6⟩
       have HO6 := Lib.hid ho6
       have HX6 := Lib.hid (HX5.out.below hb6 HX5.out.lt)
       have HB56 := Lib.hid hb6
       have HB6 : Hid (Below w.heap.size w w6) := HB5.out.trans (hb6.mono HB5.out.size)
       have HW6 := Lib.hid (HW5.out.later hb6)
       clear ho6 hb6)
    | (go_at_call 18
       have hrd := all_any (fun x => x < w6.heap.size ∧ x ≠ w4.heap.size) c6 l.length A6 l 31 #[.pointer (some ⟨w4.heap.size, 0, none⟩)] #[] [w4.heap.size] (fun W' => ∃ W, Kp [] w6 W ∧ W.heap.size = w6.heap.size + 4 ∧ Ins W.heap.size w4.heap.size (.slice SA S.length sc) after S b W') (.inl (b.length + 5)) w6
         (Reads.of_own HO6.out) (own_cap HO6.out).1 (by have := HLn.out; omega) (own_cap HO6.out).2 (fun x hx => hx.1) (HE.out.below HB6.out).tab ⟨⟨(HE.out.below HB6.out).g1, by have := HE.out.g1; have := HB4.out.size; omega⟩, ⟨(HE.out.below HB6.out).g2, by have := HE.out.g2; have := HB4.out.size; omega⟩⟩
         (fun hn ad e => ⟨(HO6.out.lt ad.block (by rw [e]; rfl)).2, by have := (HO6.out.lt ad.block (by rw [e]; rfl)).1; have := HX5.out.lt; omega⟩)
         (by simpa using HX6.out.lt) (enter_of Tryd.func31 (by as_aux_lemma => kernel_rfl) (by as_aux_lemma => kernel_rfl))
         (fun W hk hz hR => by
           rw [hl.out] at hR ⊢
           have hrb := HB6.out.size
           have hxl := HX6.out.lt
           have hz4 := HB4.out.size
           refine (inRun_any (fun x => x < w6.heap.size ∧ x ≠ w4.heap.size) (w6.heap.size + 1 + 1) c6 w4.heap.size S.length sc w.heap.size A6 SA b S after W ((HE.out.below HB6.out).below hk.below') ha0 ha1 hR (HX6.out.kp hk (by simp)) ((HS.out.below HB6.out).kp hk (by omega) (fun _ h => by cases h)) (fun h => h.2 rfl) (by omega) (by omega) (by omega) hb (by omega)).mono ?_
           intro e W' h
           exact Did.imp h fun hp => ⟨W, hk, hz, hp⟩)
       with_reducible refine hrd.mono ?_
       clear hrd
       rintro e w7 ⟨rfl, hk7, ⟨W', ⟨W, hk, hz, hi⟩, hk', _, _⟩, _⟩
       have hzW := hk.size
       have HI7 := Lib.hid (hi.kp hk' (by have := HX6.out.lt; simp; omega) (fun x hx => by simp at hx; omega))
       have HK7 := Lib.hid hk7
       have HZW : Hid (w6.heap.size ≤ W.heap.size) := hzW
       rw [show rAllE l (.inl (b.length + 5)) = 0 by have := HLn.out; simp [rAllE, rE, rAt]; omega, show rAt (.inl (b.length + 5)) = b.length + 5 from rfl]
       have HB7 : Hid (Below w.heap.size w w7) := HB6.out.trans (hk7.below (by simp; exact HB4.out.size) HB6.out.size)
       obtain ⟨w8, hw8⟩ : ∃ w8, w7.alloc (.cells #[.slice SA S.length sc, .slice none 0 0, .slice none 0 0, .pointer none, .int .i64 0] 31) = w8 := ⟨_, rfl⟩
       have hb8 : Below w7.heap.size w7 w8 := (by rw [← hw8]; exact (Below.refl _ _).alloc (Nat.le_refl _) _)
       have HP8 : Hid (Blk w8 w7.heap.size 31 #[.slice SA S.length sc, .slice none 0 0, .slice none 0 0, .pointer none, .int .i64 0]) := (by unfold Hid; rw [← hw8]; exact Blk.new _ _ _)
       have HB78 := Lib.hid hb8
       have HB8 : Hid (Below w.heap.size w w8) := HB7.out.trans (hb8.mono HB7.out.size)
       clear hk7 hk hz hi hk' hzW hb8)
    | (go_at_call 11
       have hrd := (readPlay_any A0 SA b.length c0 S.length sc w7.heap.size w.heap.size b S (.pointer none) 0 w8 ((H0.out.below HB8.out).more HB8.out.size) hn0 (by omega) hz0 (HE.out.below HB8.out) HP8.out (HS.out.below HB8.out) HB7.out.size (by omega) (by omega) (by omega) (fun hn ad e => by
         obtain ⟨ad', e', hb', _⟩ := H0.out.2 hn
         rw [e] at e'
         injection e' with e'
         rw [e']
         have := HB7.out.size
         omega) ⟨by have := HE.out.g1; have := HB7.out.size; omega, by have := HE.out.g2; have := HB7.out.size; omega⟩)
       with_reducible refine hrd.mono ?_
       clear hrd
       rintro e w9 ⟨rfl, hk9, ⟨vN, vT, hp9⟩, _⟩
       obtain ⟨aN, cN, rfl⟩ := slice_form hp9.nums
       obtain ⟨aT, cT, rfl⟩ := slice_form hp9.txts
       have hq : Hid (Below w7.heap.size w7 w9) := HB78.out.trans (hk9.below (by simp) HB78.out.size)
       have HI9 := Lib.hid (HI7.out.kp (Kp.of_below (X := []) hq) (fun h => by cases h) (fun _ h => by cases h))
       have HP9 := Lib.hid hp9
       have HB79 := Lib.hid hq
       have HB9 : Hid (Below w.heap.size w w9) := HB7.out.trans (HB79.out.mono HB7.out.size)
       clear hk9 hp9 hq))
  have hg14 : w1.heap.size ≠ w4.heap.size := by have := HW4.out.lt; omega
  have hW9 : Wr w9 w1.heap.size w1.heap.size v4 l := (HW6.out.kp HK7.out (by simpa using hg14) (fun x hx e => own_blk_ne HW6.out.2 HX6.out (by decide) (by rw [e, List.mem_singleton.1 hx]))).later HB79.out
  obtain ⟨vN, vT, hI9, hN9, hT9⟩ := HI9.out
  obtain ⟨bN, dN, rfl⟩ := slice_form hN9
  obtain ⟨bT, dT, rfl⟩ := slice_form hT9
  have HC := Lib.hid (play_counts S b 0 (Nat.zero_le _))
  obtain ⟨P, hP⟩ : ∃ P, Hid (P = play S b 0) := ⟨_, rfl⟩
  rw [← hP.out] at hI9 hN9 hT9 HC
  have hP9 := HP9.out
  rw [← hP.out] at hP9
  rw [← hP.out]
  have nn : ∀ W, Below w9.heap.size w9 W → Calls Tryd.prog 14 #[.int .i64 0] W fun e w'' => e = .returned (.int .i64 0) ∧ Below w9.heap.size w9 w'' := fun W hB0 => to_class_same hB0 (no_any 0 W)
  have ll : ∀ W, Below w9.heap.size w9 W → Calls Tryd.prog 32 #[.pointer (some ⟨w1.heap.size, 0, none⟩)] W fun e w'' => e = .returned (.int .i64 ((b.length : Int) + 5)) ∧ Below w9.heap.size w9 w'' := fun W hB0 => to_class_same hB0 (by
    have h := wLen_any w1.heap.size w1.heap.size v4 l W (hW9.later hB0)
    have e : ((l.length : Nat) : Int) = (b.length : Int) + 5 := by have := HLn.out; omega
    rwa [e] at h)
  have qI : ∀ (i : Nat) (u : Value) W, Below w9.heap.size w9 W → (#[.slice SA S.length sc, .int .i64 (rAt P.2), .int .i64 (rE P.2), .slice bN P.1.1.length dN, .slice bT P.1.2.length dT, .int .u8 after] : Array Value)[i]? = some u → W.cell? ⟨w4.heap.size, i, none⟩ = some u := fun i u W hB0 hu => by rw [(hI9.below hB0 hI9.lt).cell]; exact hu
  have q1 : ∀ W, Below w9.heap.size w9 W → W.cell? ⟨w4.heap.size, 1, none⟩ = some (.int .i64 (rAt P.2)) := fun W hB0 => qI 1 _ W hB0 rfl
  have q2 : ∀ W, Below w9.heap.size w9 W → W.cell? ⟨w4.heap.size, 2, none⟩ = some (.int .i64 (rE P.2)) := fun W hB0 => qI 2 _ W hB0 rfl
  have q5 : ∀ W, Below w9.heap.size w9 W → W.cell? ⟨w4.heap.size, 5, none⟩ = some (.int .u8 after) := fun W hB0 => qI 5 _ W hB0 rfl
  have q3 : ∀ W, Below w9.heap.size w9 W → W.rangeAt w4.heap.size 3 [.slice bN P.1.1.length dN, .slice bT P.1.2.length dT] := fun W hB0 j v hj => by
    match j, hj with
    | 0, hj => exact qI 3 _ W hB0 (by simpa using hj)
    | 1, hj => exact qI 4 _ W hB0 (by simpa using hj)
  have qG : ∀ W, Below w9.heap.size w9 W → W.rangeAt w7.heap.size 1 [.slice aN P.1.1.length cN, .slice aT P.1.2.length cT] := fun W hB0 j v hj => by
    have hb := (hP9.later hB0).blk
    match j, hj with
    | 0, hj => rw [hb.cell]; simpa using hj
    | 1, hj => rw [hb.cell]; simpa using hj
  have sm : ∀ W, Below w9.heap.size w9 W → Calls Tryd.prog 15 #[.agg #[.slice bN P.1.1.length dN, .slice bT P.1.2.length dT], .agg #[.slice aN P.1.1.length cN, .slice aT P.1.2.length cT]] W fun e w'' => e = .returned (.bool true) ∧ Below w9.heap.size w9 w'' := fun W hB0 => to_class hB0 (by
    have h2 := hP9.later hB0
    have h := same_true P.1.1 (P.1.2.map bs) bN aN bT aT dN cN dT cT W.heap.size W (Nat.le_refl _) (((Reads.of_own hN9).below hB0).more hB0.size) (Reads.of_own h2.nums) (by rw [List.length_map]; exact ((Reads.of_own hT9).below hB0).more hB0.size) (by rw [List.length_map]; exact Reads.of_own h2.txts) (by have := HC.out; omega) (by have := HC.out; rw [List.length_map]; omega)
    rwa [List.length_map] at h)
  have NN := Lib.hid nn
  have LL := Lib.hid ll
  have Q1 := Lib.hid q1
  have Q2 := Lib.hid q2
  have Q5 := Lib.hid q5
  have Q3 := Lib.hid q3
  have QG := Lib.hid qG
  have SM := Lib.hid sm
  clear nn ll qI q1 q2 q5 q3 qG sm hg14 hW9 hI9 hN9 hT9 hP9 HI9 HP9 HC
  refine wp_region_past (by as_aux_lemma => kernel_rfl) (by as_aux_lemma => kernel_rfl) ?_
  repeat (first
    | go_big_quiet_skip
    | (go_big_quiet_want
       first
         | (refine quiet_load_mid 28 (.tmp 73) rfl w4.heap.size 3 rfl [.slice bN P.1.1.length dN, .slice bT P.1.2.length dT] _ Q3.out Tryd.underlying28 rfl (by as_aux_lemma => kernel_rfl) ?_; simp only [Act.put, List.setIfInBounds_toArray, List.set_cons_zero, List.set_cons_succ])
         | (refine quiet_load_mid 28 (.tmp 77) rfl w7.heap.size 1 rfl [.slice aN P.1.1.length cN, .slice aT P.1.2.length cT] _ QG.out Tryd.underlying28 rfl (by as_aux_lemma => kernel_rfl) ?_; simp only [Act.put, List.setIfInBounds_toArray, List.set_cons_zero, List.set_cons_succ])
         | (refine quiet_load_int 3 (.tmp 57) rfl w4.heap.size 1 rfl .i64 (.int .i64 (rAt P.2)) Q1.out Tryd.underlying3 ?_; simp only [Act.put, List.setIfInBounds_toArray, List.set_cons_zero, List.set_cons_succ])
         | (refine quiet_load_int 32 (.tmp 65) rfl w4.heap.size 2 rfl .i64 (.int .i64 (rE P.2)) Q2.out Tryd.underlying32 ?_; simp only [Act.put, List.setIfInBounds_toArray, List.set_cons_zero, List.set_cons_succ])
         | (refine quiet_load_int 5 (.tmp 84) rfl w4.heap.size 5 rfl .u8 (.int .u8 after) Q5.out Tryd.underlying5 ?_; simp only [Act.put, List.setIfInBounds_toArray, List.set_cons_zero, List.set_cons_succ])
         | (refine quiet_call 15 _ _ rfl (#[.agg #[.slice bN P.1.1.length dN, .slice bT P.1.2.length dT], .agg #[.slice aN P.1.1.length cN, .slice aT P.1.2.length cT]]) rfl Tryd.func15 (by as_aux_lemma => kernel_rfl) (by as_aux_lemma => kernel_rfl) (.bool true) SM.out ?_; simp only [Act.put, List.setIfInBounds_toArray, List.set_cons_zero, List.set_cons_succ])
         | (refine quiet_call 32 _ _ rfl (#[.pointer (some ⟨w1.heap.size, 0, none⟩)]) rfl Tryd.func32 (by as_aux_lemma => kernel_rfl) (by as_aux_lemma => kernel_rfl) (.int .i64 ((b.length : Int) + 5)) LL.out ?_; simp only [Act.put, List.setIfInBounds_toArray, List.set_cons_zero, List.set_cons_succ])
         | (refine quiet_call 14 _ _ rfl (#[.int .i64 0]) rfl Tryd.func14 (by as_aux_lemma => kernel_rfl) (by as_aux_lemma => kernel_rfl) (.int .i64 0) NN.out ?_; simp only [Act.put, List.setIfInBounds_toArray, List.set_cons_zero, List.set_cons_succ])
         | go_big_quiet_op
       go_big_quiet_on))
  refine wpQuiet_nil ?_
  intro nq
  go_wp2
  go_ret
  exact ⟨rfl, HB9.out.trans (nq.prop.mono HB9.out.size)⟩
end Go.Proofs.YtbegingiedbldaaDoor
