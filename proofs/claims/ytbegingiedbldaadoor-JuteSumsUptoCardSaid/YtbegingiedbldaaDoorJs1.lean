/- JuteSums: what is written one behind the other: the walk. -/
import Derived.Test.YtbegingiedbldaaDoorJv1
namespace Go.Proofs.YtbegingiedbldaaDoor
open Go.RowKit

/-- a writer that another one's writing leaves as it was -/
theorem Wr.beside {w w' : World} {base b2 g g2 : Nat} {v v2 v3 : Value} {l l2 k2 : List UInt8} (h : Wr w base g v l) (h2 : Wrote b2 g2 v2 v3 l2 k2 w w') (hw2 : Wr w b2 g2 v2 l2) (hg : g ≠ g2) (hv : ∀ x, v.ownBlock = some x → v2.ownBlock ≠ some x) : Wr w' base g v l :=
  h.kp h2.2.1 (fun hx => by
    rcases List.mem_cons.1 hx with e | e
    · exact hg e
    · exact own_blk_ne hw2.2 h.1 (by decide) (by simpa using e)) (fun x hx e => by
    rcases List.mem_cons.1 hx with e' | e'
    · exact own_blk_ne h.2 hw2.1 (by decide) (by rw [e, e'])
    · exact hv x e (by simpa using e'))

set_option maxRecDepth 100000 in
set_option maxHeartbeats 2000000 in
theorem sums_any (A0 A1 : Option Addr) (n0 c0 n1 c1 : Nat) (S T : List Vl) (w : World) (hE : Env w)
    (h0 : Reads w w.heap.size 4 A0 n0 (S.flatMap vlCells)) (h1 : Reads w w.heap.size 4 A1 n1 (T.flatMap vlCells)) (k0 : ∀ x ∈ S, Reads w w.heap.size 1 x.A x.n (scells x.L) ∧ x.n ≤ 9223372036854775807) (k1 : ∀ x ∈ T, Reads w w.heap.size 1 x.A x.n (scells x.L) ∧ x.n ≤ 9223372036854775807)
    (hn0 : n0 ≤ 1099511627776) (hn1 : n1 ≤ 1099511627776) (hb : (S.flatMap bVl).length + (T.flatMap bVl).length + 32 ≤ 140737488355328) :
    Calls Tryd.prog 7 #[.slice A0 n0 c0, .slice A1 n1 c1] w fun e w' => e = .returned (.bool true) ∧ Below w.heap.size w w' := by
  obtain ⟨i0, hi0, hq0, hq1, hq2⟩ := info_parts u8_info
  obtain ⟨a, ha⟩ : ∃ a, Hid (a = S.flatMap bVl) := ⟨_, rfl⟩
  obtain ⟨b, hbb⟩ : ∃ b, Hid (b = T.flatMap bVl) := ⟨_, rfl⟩
  rw [← ha.out, ← hbb.out] at hb
  obtain ⟨L, hL⟩ : ∃ L, L = a ++ b := ⟨_, rfl⟩
  have HLn : Hid (L.length = a.length + b.length) := by unfold Hid; rw [hL, List.length_append]
  have HLL : Hid (bcells L = bcells a ++ bcells b) := by unfold Hid; rw [hL, bcells_append]
  have hq : ((L.length : Int) == (a.length : Int) + (b.length : Int)) = true := by have := HLn.out; rw [this]; simp
  have HLe := Lib.hid hL
  clear hL
  have HE := Lib.hid hE
  have H0 := Lib.hid h0
  have H1 := Lib.hid h1
  have K0 := Lib.hid k0
  have K1 := Lib.hid k1
  clear hE h0 h1 k0 k1
  go_enter Tryd.func7, Tryd.ntmps7
  go_wp2_with (first
    | (go_at_call 17
       refine (live_any w HE.out).mono ?_
       rintro e w1 ⟨rfl, hb1⟩
       have HB1 := Lib.hid hb1
       obtain ⟨w2, hw2⟩ : ∃ w2, ((w1.alloc (.cells #[.slice none 0 0] 57)).alloc (.cells #[.slice none 0 0] 57)).alloc (.cells #[.slice none 0 0] 57) = w2 := ⟨_, rfl⟩
       have hb2 : Below w1.heap.size w1 w2 := (by rw [← hw2]; exact (((Below.refl _ _).alloc (Nat.le_refl _) _).alloc (by simp) _).alloc (by simp; omega) _)
       have hz2 : w2.heap.size = w1.heap.size + 3 := (by rw [← hw2]; simp)
       have HX2 : Hid (Wr w2 w1.heap.size w1.heap.size (.slice none 0 0) []) := ⟨by rw [← hw2]; exact ((Blk.new' rfl).alloc _).alloc _, World.ownsRow_nil _ _ _ _⟩
       have HY2 : Hid (Wr w2 w1.heap.size (w1.heap.size + 1) (.slice none 0 0) []) := ⟨by rw [← hw2]; exact (Blk.new' (by simp)).alloc _, World.ownsRow_nil _ _ _ _⟩
       have HZ2 : Hid (Wr w2 w1.heap.size (w1.heap.size + 1 + 1) (.slice none 0 0) []) := ⟨by rw [← hw2]; exact Blk.new' (by simp), World.ownsRow_nil _ _ _ _⟩
       have HB02 : Hid (Below w.heap.size w w2) := hb1.trans (hb2.mono hb1.size)
       have HS2 := Lib.hid hz2
       clear hb1 hb2 hz2)
    | (go_at_call 33
       have hrd := write_any w1.heap.size w1.heap.size _ [] A0 n0 c0 w.heap.size S w2 HX2.out (H0.out.below HB02.out) (fun x hx => ⟨(K0.out x hx).1.below HB02.out, (K0.out x hx).2⟩) HB1.out.size (Nat.le_refl _) (by have := HS2.out; omega) hn0 (by rw [← ha.out]; simp; omega)
       rw [← ha.out] at hrd
       with_reducible refine hrd.mono ?_
       clear hrd
       rintro e w3 ⟨rfl, vx, hp⟩
       have hzz := hp.size
       have HX3 := Lib.hid (show Wr w3 w1.heap.size w1.heap.size vx a by simpa using hp.1)
       have HY3 := Lib.hid (HY2.out.beside hp HX2.out (by omega) (fun x e => by simp [Value.ownBlock] at e))
       have HZ3 := Lib.hid (HZ2.out.beside hp HX2.out (by omega) (fun x e => by simp [Value.ownBlock] at e))
       have HB03 : Hid (Below w.heap.size w w3) := HB02.out.trans (hp.below HB1.out.size (fun x e => by simp [Value.ownBlock] at e) HB02.out.size)
       have HS3 : Hid (w1.heap.size + 3 ≤ w3.heap.size) := (by unfold Hid; have := HS2.out; omega)
       clear hp hzz HX2 HY2 HZ2 HB02 HS2)
    | (go_at_call 33
       have hrd := write_any w1.heap.size (w1.heap.size + 1) _ [] A1 n1 c1 w.heap.size T w3 HY3.out (H1.out.below HB03.out) (fun x hx => ⟨(K1.out x hx).1.below HB03.out, (K1.out x hx).2⟩) HB1.out.size (Nat.le_succ _) (by have := HS3.out; omega) hn1 (by rw [← hbb.out]; simp; omega)
       rw [← hbb.out] at hrd
       with_reducible refine hrd.mono ?_
       clear hrd
       rintro e w4 ⟨rfl, vy, hp⟩
       have hzz := hp.size
       have HY4 := Lib.hid (show Wr w4 w1.heap.size (w1.heap.size + 1) vy b by simpa using hp.1)
       have HX4 := Lib.hid (HX3.out.beside hp HY3.out (by omega) (fun x _ e => by simp [Value.ownBlock] at e))
       have HZ4 := Lib.hid (HZ3.out.beside hp HY3.out (by omega) (fun x _ e => by simp [Value.ownBlock] at e))
       have HB04 : Hid (Below w.heap.size w w4) := HB03.out.trans (hp.below (by have := HB1.out.size; omega) (fun x e => by simp [Value.ownBlock] at e) HB03.out.size)
       have HS4 : Hid (w1.heap.size + 3 ≤ w4.heap.size) := (by unfold Hid; have := HS3.out; omega)
       clear hp hzz HX3 HY3 HZ3 HB03 HS3)
    | (go_at_call 33
       have hrd := write_any w1.heap.size (w1.heap.size + 1 + 1) _ [] A0 n0 c0 w.heap.size S w4 HZ4.out (H0.out.below HB04.out) (fun x hx => ⟨(K0.out x hx).1.below HB04.out, (K0.out x hx).2⟩) HB1.out.size (by omega) (by have := HS4.out; omega) hn0 (by rw [← ha.out]; simp; omega)
       rw [← ha.out] at hrd
       with_reducible refine hrd.mono ?_
       clear hrd
       rintro e w5 ⟨rfl, vz, hp⟩
       have hzz := hp.size
       have HZ5 := Lib.hid (show Wr w5 w1.heap.size (w1.heap.size + 1 + 1) vz a by simpa using hp.1)
       have HX5 := Lib.hid (HX4.out.beside hp HZ4.out (by omega) (fun x _ e => by simp [Value.ownBlock] at e))
       have HY5 := Lib.hid (HY4.out.beside hp HZ4.out (by omega) (fun x _ e => by simp [Value.ownBlock] at e))
       have HN5 : Hid (∀ x, vz.ownBlock = some x → w4.heap.size ≤ x) := (fun x e => by
         rcases hp.2.2 with h | ⟨y, h, hy⟩
         · rw [e] at h; simp [Value.ownBlock] at h
         · rw [e] at h; injection h with h; omega)
       have HXN : Hid (∀ x, vx.ownBlock = some x → x < w4.heap.size) := (fun x e => (HX4.out.2.lt x e).2)
       have HYN : Hid (∀ x, vy.ownBlock = some x → x < w4.heap.size) := (fun x e => (HY4.out.2.lt x e).2)
       have HB05 : Hid (Below w.heap.size w w5) := HB04.out.trans (hp.below (by have := HB1.out.size; omega) (fun x e => by simp [Value.ownBlock] at e) HB04.out.size)
       have HS5 : Hid (w1.heap.size + 3 ≤ w5.heap.size) := (by unfold Hid; have := HS4.out; omega)
       clear hp hzz HX4 HY4 HZ4 HB04 HS4)
    | (go_at_call 33
       have hrd := write_any w1.heap.size (w1.heap.size + 1 + 1) vz a A1 n1 c1 w.heap.size T w5 HZ5.out (H1.out.below HB05.out) (fun x hx => ⟨(K1.out x hx).1.below HB05.out, (K1.out x hx).2⟩) HB1.out.size (by omega) (by have := HS5.out; omega) hn1 (by rw [← hbb.out]; omega)
       rw [← hbb.out] at hrd
       with_reducible refine hrd.mono ?_
       clear hrd
       rintro e w6 ⟨rfl, vz2, hp⟩
       have hzz := hp.size
       have HZ6 := Lib.hid (show Wr w6 w1.heap.size (w1.heap.size + 1 + 1) vz2 L by rw [HLe.out]; exact hp.1)
       have HX6 := Lib.hid (HX5.out.beside hp HZ5.out (by omega) (fun x e e2 => by have := HXN.out x e; have := HN5.out x e2; omega))
       have HY6 := Lib.hid (HY5.out.beside hp HZ5.out (by omega) (fun x e e2 => by have := HYN.out x e; have := HN5.out x e2; omega))
       have HB06 : Hid (Below w.heap.size w w6) := HB05.out.trans (hp.below (by have := HB1.out.size; omega) (fun x e => by have := (HZ5.out.2.lt x e).1; have := HB1.out.size; omega) HB05.out.size)
       clear hp hzz HX5 HY5 HZ5 HB05 HS5 HN5 HXN HYN H0 H1 K0 K1 HE HB1)
    | (go_at_call 30
       have hrd := wBytes_any w1.heap.size (w1.heap.size + 1 + 1) vz2 L w6 HZ6.out (by have := HLn.out; omega)
       with_reducible refine hrd.mono ?_
       clear hrd
       rintro e w7 ⟨A7, c7, rfl, ho7, hb7⟩
       obtain ⟨w8, hw8⟩ : ∃ w8, w7.alloc (.cells #[] 5) = w8 := ⟨_, rfl⟩
       have hb8 : Below w7.heap.size w7 w8 := (by rw [← hw8]; exact (Below.refl _ _).alloc (Nat.le_refl _) _)
       have hz8 : w8.heap.size = w7.heap.size + 1 := (by rw [← hw8]; simp)
       have HR7 : Hid (∀ W, Below w7.heap.size w7 W → Reads W w7.heap.size 1 A7 L.length (bcells L)) := (fun W hB => (Reads.of_own ho7).below hB)
       have HO8 : Hid (w8.ownsRow w7.heap.size 5 1 (.slice (some ⟨w7.heap.size, 0, none⟩) 0 0) 0 []) := (by
         have h := World.ownsRow_made (base := w7.heap.size) (e := 5) (size := 1) w7 #[] 0 (Nat.le_refl _) (by decide) rfl
         rw [hw8] at h
         exact h)
       have HB67 := Lib.hid hb7
       have HB78 := Lib.hid hb8
       have HS8 := Lib.hid hz8
       have HB68 : Hid (Below w6.heap.size w6 w8) := hb7.trans (hb8.mono hb7.size)
       clear ho7 hb7 hb8 hz8)
    | (go_at_call 30
       have hrd := wBytes_any w1.heap.size w1.heap.size vx a w8 (HX6.out.later HB68.out) (by omega)
       with_reducible refine hrd.mono ?_
       clear hrd
       rintro e w9 ⟨A9, c9, rfl, ho9, hb9⟩
       have HR9 := Lib.hid (Reads.of_own ho9)
       have HO9 := Lib.hid (own_kp HO8.out (Kp.of_below (X := []) hb9) (fun _ h => by cases h))
       have HB79 : Hid (Below w7.heap.size w7 w9) := HB78.out.trans (hb9.mono HB78.out.size)
       have HS9 : Hid (w7.heap.size + 1 ≤ w9.heap.size) := (by unfold Hid; have := HS8.out; have := hb9.size; omega)
       clear ho9 hb9)
    | (at_builtin
       refine wpList_append_any _ rfl (.tmp 30) (.tmp 32) _ rfl w7.heap.size 5 i0 _ 1 1 Tryd.underlying22 hi0 hq0 hq1 hq2 rfl (by decide) (.slice (some ⟨w7.heap.size, 0, none⟩) 0 0) 0 [] rfl HO9.out w9.heap.size A9 a.length c9 (bcells a) rfl HR9.out (bcells_one _) (by simp only [maxLen]; omega) (by omega) (by have := HS9.out; omega) ?_
       intro v10 w10 ho10 hg10 hat10
       obtain ⟨A10, c10, rfl⟩ := slice_form ho10
       rw [Nat.zero_add]
       rw [Nat.zero_add, List.nil_append] at ho10
       have HO10 := Lib.hid ho10
       have hb10 : Below w7.heap.size w9 w10 := (Kp.of_grown hg10).below (fun x hx => ((HO9.out.lt x (by simpa using hx)).1)) (by have := HS9.out; omega)
       have HB710 : Hid (Below w7.heap.size w7 w10) := HB79.out.trans hb10
       have HB610 : Hid (Below w6.heap.size w6 w10) := HB67.out.trans (HB710.out.mono HB67.out.size)
       clear ho10 hg10 hat10 hb10)
    | (go_at_call 30
       have hrd := wBytes_any w1.heap.size (w1.heap.size + 1) vy b w10 (HY6.out.later HB610.out) (by omega)
       with_reducible refine hrd.mono ?_
       clear hrd
       rintro e w11 ⟨A11, c11, rfl, ho11, hb11⟩
       have HR11 := Lib.hid (Reads.of_own ho11)
       have HO11 := Lib.hid (own_kp HO10.out (Kp.of_below (X := []) hb11) (fun _ h => by cases h))
       have HB711 : Hid (Below w7.heap.size w7 w11) := HB710.out.trans (hb11.mono HB710.out.size)
       clear ho11 hb11)
    | (at_builtin
       refine wpList_append_any _ rfl (.tmp 33) (.tmp 35) _ rfl w7.heap.size 5 i0 _ 1 1 Tryd.underlying22 hi0 hq0 hq1 hq2 rfl (by decide) (.slice A10 a.length c10) a.length (bcells a) rfl HO11.out w11.heap.size A11 b.length c11 (bcells b) rfl HR11.out (bcells_one _) (by simp only [maxLen]; omega) (by omega) HB711.out.size ?_
       intro v12 w12 ho12 hg12 hat12
       obtain ⟨A12, c12, rfl⟩ := slice_form ho12
       rw [← HLn.out, ← HLL.out] at ho12
       rw [← HLn.out]
       have HO12 := Lib.hid ho12
       have hb12 : Below w7.heap.size w11 w12 := (Kp.of_grown hg12).below (fun x hx => ((HO11.out.lt x (by simpa using hx)).1)) HB711.out.size
       have HB712 : Hid (Below w7.heap.size w7 w12) := HB711.out.trans hb12
       clear ho12 hg12 hat12 hb12)
    | (go_at_call 16
       have hrd := sameBytes_true A7 A12 L.length c7 c12 _ _ L w12 (HR7.out w12 HB712.out) (Reads.of_own HO12.out) (by have := HLn.out; omega)
       with_reducible refine hrd.mono ?_
       clear hrd
       rintro e w13 ⟨rfl, m13, hw13⟩
       have HB713 : Hid (Below w7.heap.size w7 w13) := (by rw [hw13]; exact below_drewN' HB712.out m13)
       have HB613 : Hid (Below w6.heap.size w6 w13) := HB67.out.trans (HB713.out.mono HB67.out.size)
       clear hw13)
    | (go_at_call 32; have hrd := wLen_any w1.heap.size (w1.heap.size + 1 + 1) vz2 L w13 (HZ6.out.later HB613.out); with_reducible refine hrd.mono ?_; clear hrd; rintro e w14 ⟨rfl, rfl⟩)
    | (go_at_call 32; have hrd := wLen_any w1.heap.size w1.heap.size vx a w13 (HX6.out.later HB613.out); with_reducible refine hrd.mono ?_; clear hrd; rintro e w14 ⟨rfl, rfl⟩)
    | (go_at_call 32; have hrd := wLen_any w1.heap.size (w1.heap.size + 1) vy b w13 (HY6.out.later HB613.out); with_reducible refine hrd.mono ?_; clear hrd; rintro e w14 ⟨rfl, rfl⟩))
  go_ret
  exact ⟨rfl, HB06.out.trans (HB613.out.mono HB06.out.size)⟩
end Go.Proofs.YtbegingiedbldaaDoor
