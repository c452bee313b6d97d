/- JuteBack: what was written is read back: the walk. -/
import Derived.Test.YtbegingiedbldaaDoorJb3
import Derived.Test.YtbegingiedbldaaDoorJb5
import Derived.Test.YtbegingiedbldaaDoorJl2
namespace Go.Proofs.YtbegingiedbldaaDoor
open Go.RowKit

theorem atb_append (l m : List UInt8) : Atb (l ++ m) 0 l := ⟨by rw [List.length_append]; omega, by simp⟩
/-- what is told of the values -/
def BackOf (S : List Vl) (Q : List St) (L : List UInt8) (G : Gt) : Prop := play Q L 0 = (G, .inl L.length) ∧ play Q (L ++ [0]) 0 = (G, .inl L.length) ∧ Q = askS S ∧ L = S.flatMap bVl ∧ G = plG S
theorem backOf (S : List Vl) (h : ∀ v ∈ S, VlFit v) (ha : ∀ v ∈ S, ¬ askBad v) (hb : ∀ v ∈ S, ¬ plBad v) : BackOf S (askS S) (S.flatMap bVl) (plG S) := by
  have hv : ∀ v ∈ S, VlFit v ∧ ¬ askBad v ∧ ¬ plBad v := fun v hv => ⟨h v hv, ha v hv, hb v hv⟩
  have h1 := play_atb S 0 (Atb.all (S.flatMap bVl)) hv
  have h2 := play_atb S 0 (atb_append (S.flatMap bVl) [0]) hv
  rw [Nat.zero_add] at h1 h2
  exact ⟨h1, h2, rfl, rfl, rfl⟩
theorem all_end (l : List UInt8) : rAllE l (.inl l.length) = 0 := by simp [rAllE, rE, rAt]
theorem all_more (l : List UInt8) : rAllE (l ++ [0]) (.inl l.length) = 21 := by simp [rAllE, rE, rAt]

set_option maxRecDepth 100000 in
set_option maxHeartbeats 8000000 in
theorem backLaw_any (A0 : Option Addr) (n0 c0 : Nat) (S : List Vl) (w : World) (hE : Env w)
    (h0 : Reads w w.heap.size 4 A0 n0 (S.flatMap vlCells)) (k0 : ∀ x ∈ S, Reads w w.heap.size 1 x.A x.n (scells x.L) ∧ VlFit x)
    (hn0 : n0 ≤ 1048576) (hb : (S.flatMap bVl).length ≤ 1099511627) (hN : (plG S).1.length ≤ 1048576) (hT : (plG S).2.length ≤ 1048576) :
    Calls Tryd.prog 10 #[.slice A0 n0 c0] w fun e w' => e = .returned (.bool true) ∧ Below w.heap.size w w' := by
  obtain ⟨i0, hi0, hq0, hq1, hq2⟩ := info_parts u8_info
  have hS0 : S.length = n0 := by
    have h1 := h0.1
    have : ∀ S : List Vl, (S.flatMap vlCells).length = S.length * 4 := by
      intro S
      induction S with
      | nil => rfl
      | cons a S ih => rw [List.flatMap_cons, List.length_append, ih]; simp [vlCells]; omega
    rw [this] at h1
    omega
  have hQl := askS_len S
  rw [hS0] at hQl
  have hmf : ∀ (fn : Fn) (first cap : Array Value) (w : World), (Instr.makeFunc fn first cap).run Tryd.prog w = .ok (.func fn first cap) w := fun _ _ _ _ => rfl
  have HE := Lib.hid hE
  have H0 := Lib.hid h0
  have K0 := Lib.hid k0
  have HNL := Lib.hid hN
  have HTL := Lib.hid hT
  have HLL := Lib.hid hb
  clear hE h0 k0 hN hT hb hS0
  go_enter Tryd.func10, Tryd.ntmps10
  go_wp2_with (
    (go_at_call 17
     refine (live_any w HE.out).mono ?_
     rintro e w1 ⟨rfl, hb1⟩
     have HB1 := Lib.hid hb1
     clear hb1))
  refine (asked_any A0 n0 c0 w.heap.size S w1 (H0.out.below HB1.out) (fun x hx => ⟨(K0.out x hx).1.below HB1.out, (K0.out x hx).2⟩) HB1.out.size (by omega)).mono ?_
  rintro e w2 (⟨hok, v2, rfl, ho2, hb2⟩ | ⟨hbad, rfl, hb2⟩)
  rotate_left
  · have HB2 : Hid (Below w.heap.size w w2) := HB1.out.trans (hb2.mono HB1.out.size)
    clear hbad hb2
    go_wp2_with fail
    refine (plain_any A0 n0 c0 w.heap.size S w2 (H0.out.below HB2.out) (fun x hx => ⟨(K0.out x hx).1.below HB2.out, (K0.out x hx).2⟩) HB2.out.size (by omega) (by have := HNL.out; omega) (by have := HTL.out; omega)).mono ?_
    rintro e w3 (⟨_, vN, vT, rfl, hoN, hoT, hb3⟩ | ⟨_, aN, nN, cN, aT, nT, cT, rfl, hb3⟩)
    · obtain ⟨aN, cN, rfl⟩ := slice_form hoN
      obtain ⟨aT, cT, rfl⟩ := slice_form hoT
      have HB3 : Hid (Below w.heap.size w w3) := HB2.out.trans (hb3.mono HB2.out.size)
      clear hoN hoT hb3
      go_wp2
      go_ret
      exact ⟨rfl, HB3.out.alloc HB3.out.size _⟩
    · have HB3 : Hid (Below w.heap.size w w3) := HB2.out.trans (hb3.mono HB2.out.size)
      clear hb3
      go_wp2
      go_ret
      exact ⟨rfl, HB3.out.alloc HB3.out.size _⟩
  obtain ⟨SA, sc, rfl⟩ := slice_form ho2
  have HB2 : Hid (Below w.heap.size w w2) := HB1.out.trans (hb2.mono HB1.out.size)
  have HO2 := Lib.hid ho2
  have HOK := Lib.hid hok
  clear hb2 ho2 hok
  go_wp2_with fail
  refine (plain_any A0 n0 c0 w.heap.size S w2 (H0.out.below HB2.out) (fun x hx => ⟨(K0.out x hx).1.below HB2.out, (K0.out x hx).2⟩) HB2.out.size (by omega) (by have := HNL.out; omega) (by have := HTL.out; omega)).mono ?_
  rintro e w3 (⟨hfine, vN, vT, rfl, hoN, hoT, hb3⟩ | ⟨_, aN, nN, cN, aT, nT, cT, rfl, hb3⟩)
  rotate_left
  · have HB3 : Hid (Below w.heap.size w w3) := HB2.out.trans (hb3.mono HB2.out.size)
    clear hb3
    go_wp2
    go_ret
    exact ⟨rfl, HB3.out.alloc HB3.out.size _⟩
  obtain ⟨aN, cN, rfl⟩ := slice_form hoN
  obtain ⟨aT, cT, rfl⟩ := slice_form hoT
  have hback := backOf S (fun v hv => (K0.out v hv).2) HOK.out hfine
  have hHO2 := HO2.out
  have hN := HNL.out
  have hT := HTL.out
  have hL := HLL.out
  obtain ⟨Q, hQ⟩ : ∃ Q, Q = askS S := ⟨_, rfl⟩
  obtain ⟨G, hG⟩ : ∃ G, G = plG S := ⟨_, rfl⟩
  obtain ⟨L, hLe⟩ : ∃ L, L = S.flatMap bVl := ⟨_, rfl⟩
  rw [← hQ, ← hG, ← hLe] at hback
  rw [← hQ] at hHO2 hQl
  rw [← hG] at hoN hoT hN hT
  rw [← hLe] at hL
  have HLE := Lib.hid hLe
  have HBK := Lib.hid hback
  have HOQ := Lib.hid hHO2
  have HON := Lib.hid hoN
  have HOT := Lib.hid hoT
  have HB23 := Lib.hid hb3
  have HB3 : Hid (Below w.heap.size w w3) := HB2.out.trans (hb3.mono HB2.out.size)
  obtain ⟨w4, hw4⟩ : ∃ w4, (w3.alloc (.cells #[.slice aN G.1.length cN, .slice aT G.2.length cT] 28)).alloc (.cells #[.slice none 0 0] 57) = w4 := ⟨_, rfl⟩
  have hb4 : Below w3.heap.size w3 w4 := by rw [← hw4]; exact ((Below.refl _ _).alloc (Nat.le_refl _) _).alloc (by simp) _
  have hbg4 : Blk w4 w3.heap.size 28 #[.slice aN G.1.length cN, .slice aT G.2.length cT] := by rw [← hw4]; exact (Blk.new _ _ _).alloc _
  have HW4 : Hid (Wr w4 (w3.heap.size + 1) (w3.heap.size + 1) (.slice none 0 0) []) := ⟨by rw [← hw4]; exact Blk.new' (by simp), World.ownsRow_nil _ _ _ _⟩
  have HB34 := Lib.hid hb4
  have HBG := Lib.hid hbg4
  have HZ4 : Hid (w4.heap.size = w3.heap.size + 2) := by unfold Hid; rw [← hw4]; simp
  have HB4 : Hid (Below w.heap.size w w4) := HB3.out.trans (hb4.mono HB3.out.size)
  rw [← hG, ← hQ]
  clear hback hHO2 hQ hG hLe hoN hoT hb3 hb4 hbg4 HO2 HOK hfine HNL HTL HLL
  go_wp2_with (first
    | (go_at_call 33
       have hrd := write_any (w3.heap.size + 1) (w3.heap.size + 1) _ [] A0 n0 c0 w.heap.size S w4 HW4.out (H0.out.below HB4.out) (fun x hx => ⟨(K0.out x hx).1.below HB4.out, by have := (K0.out x hx).2.2.1; omega⟩) (by have := HB3.out.size; omega) (Nat.le_refl _) (by have := HZ4.out; omega) (by omega) (by rw [← HLE.out]; simp; omega)
       rw [← HLE.out] at hrd
       with_reducible refine hrd.mono ?_
       clear hrd
       rintro e w5 ⟨rfl, v5, hp⟩
       have HB45 : Hid (Below (w3.heap.size + 1) w4 w5) := hp.below (Nat.le_refl _) (fun x e => by simp [Value.ownBlock] at e) (by have := HZ4.out; omega)
       have HW5 := Lib.hid (show Wr w5 (w3.heap.size + 1) (w3.heap.size + 1) v5 L by simpa using hp.1)
       have HB5 : Hid (Below w.heap.size w w5) := HB4.out.trans (HB45.out.mono (by have := HB3.out.size; omega))
       clear hp)
    | (go_at_call 30
       have hrd := wBytes_any (w3.heap.size + 1) (w3.heap.size + 1) v5 L w5 HW5.out (by omega)
       with_reducible refine hrd.mono ?_
       clear hrd
       rintro e w6 ⟨A6, c6, rfl, ho6, hb6⟩
       have HO6 := Lib.hid ho6
       have HW6 := Lib.hid (HW5.out.later hb6)
       have HB46 : Hid (Below (w3.heap.size + 1) w4 w6) := HB45.out.trans (hb6.mono (by have := HB45.out.size; have := HZ4.out; omega))
       have HB6 : Hid (Below w.heap.size w w6) := HB5.out.trans (hb6.mono HB5.out.size)
       have HS56 : Hid (w5.heap.size ≤ w6.heap.size) := hb6.size
       obtain ⟨w7, hw7⟩ : ∃ w7, w6.alloc (.cells #[.slice SA Q.length sc, .slice none 0 0, .slice none 0 0, .pointer none, .int .i64 0] 31) = w7 := ⟨_, rfl⟩
       have hb7 : Below w6.heap.size w6 w7 := (by rw [← hw7]; exact (Below.refl _ _).alloc (Nat.le_refl _) _)
       have HP7 : Hid (Blk w7 w6.heap.size 31 #[.slice SA Q.length sc, .slice none 0 0, .slice none 0 0, .pointer none, .int .i64 0]) := (by unfold Hid; rw [← hw7]; exact Blk.new _ _ _)
       have HB67 := Lib.hid hb7
       have HB7 : Hid (Below w.heap.size w w7) := HB6.out.trans (hb7.mono HB6.out.size)
       have HB37 : Hid (Below w3.heap.size w3 w7) := HB34.out.trans ((HB46.out.trans (hb7.mono (by have := HB46.out.size; have := HZ4.out; omega))).mono (Nat.le_succ _))
       clear ho6 hb6 hb7)
    | (go_at_call 18
       have hrd := allPlay_any A6 SA L.length c6 Q.length sc w6.heap.size w2.heap.size L Q (.pointer none) 0 w7 (((Reads.of_own HO6.out).below HB67.out).more HB67.out.size) (own_cap HO6.out).1 (by omega) (own_cap HO6.out).2 (HE.out.below HB7.out) HP7.out ((Reads.of_own HOQ.out).below (HB23.out.trans (HB37.out.mono HB23.out.size))) (by have := HB23.out.size; have := HB46.out.size; have := HZ4.out; omega) (by omega) (by omega) (by omega) (fun _ ad e => by
         have := (HO6.out.lt ad.block (by rw [e]; rfl)).2
         omega) ⟨by have := HE.out.g1; have := HB6.out.size; omega, by have := HE.out.g2; have := HB6.out.size; omega⟩
       rw [HBK.out.1, all_end] at hrd
       with_reducible refine hrd.mono ?_
       clear hrd
       rintro e w8 ⟨rfl, hk8, vN8, vT8, hp8⟩
       rw [show rAt (.inl L.length) = L.length from rfl]
       obtain ⟨pN, dN, rfl⟩ := slice_form hp8.nums
       obtain ⟨pT, dT, rfl⟩ := slice_form hp8.txts
       have HP8 := Lib.hid hp8
       have HK8 := Lib.hid hk8
       clear hk8 hp8))
  have hz46 : w3.heap.size + 2 ≤ w6.heap.size := by have := HB46.out.size; have := HZ4.out; omega
  have HB8 : Hid (Below w.heap.size w w8) := HB7.out.trans (HK8.out.below (by simp; exact HB6.out.size) HB7.out.size)
  have HB38 : Hid (Below w3.heap.size w3 w8) := HB37.out.trans (HK8.out.below (by simp; omega) HB37.out.size)
  have HG8 : Hid (Blk w8 w3.heap.size 28 #[.slice aN G.1.length cN, .slice aT G.2.length cT]) := (((HBG.out.below HB46.out (Nat.lt_succ_self _)).below HB67.out (by omega)).kp HK8.out (by simp; omega))
  have HO8 : Hid (w8.ownsRow w5.heap.size 5 1 (.slice A6 L.length c6) L.length (bcells L)) := own_kp (own_kp HO6.out (Kp.of_below (X := []) HB67.out) (fun _ h => by cases h)) HK8.out (fun x hx e => by have := (HO6.out.lt x e).2; simp at hx; omega)
  have HW8 : Hid (Wr w8 (w3.heap.size + 1) (w3.heap.size + 1) v5 L) := (HW6.out.later HB67.out).kp HK8.out (by simp; omega) (fun x hx e => by have := (HW6.out.2.lt x e).2; simp at hx; omega)
  have qP : ∀ W, Below w8.heap.size w8 W → W.rangeAt w6.heap.size 1 [.slice pN G.1.length dN, .slice pT G.2.length dT] := fun W hB0 j v hj => by
    have hb := (HP8.out.later hB0).blk
    match j, hj with
    | 0, hj => rw [hb.cell]; simpa using hj
    | 1, hj => rw [hb.cell]; simpa using hj
  have qG : ∀ W, Below w8.heap.size w8 W → W.rangeAt w3.heap.size 0 [.slice aN G.1.length cN, .slice aT G.2.length cT] := fun W hB0 j v hj => by
    have hb := HG8.out.below hB0 HG8.out.lt
    match j, hj with
    | 0, hj => rw [hb.cell]; simpa using hj
    | 1, hj => rw [hb.cell]; simpa using hj
  have nn : ∀ W, Below w8.heap.size w8 W → Calls Tryd.prog 14 #[.int .i64 0] W fun e w'' => e = .returned (.int .i64 0) ∧ Below w8.heap.size w8 w'' := fun W hB0 => to_class_same hB0 (no_any 0 W)
  have ll : ∀ W, Below w8.heap.size w8 W → Calls Tryd.prog 32 #[.pointer (some ⟨w3.heap.size + 1, 0, none⟩)] W fun e w'' => e = .returned (.int .i64 L.length) ∧ Below w8.heap.size w8 w'' := fun W hB0 => to_class_same hB0 (wLen_any (w3.heap.size + 1) (w3.heap.size + 1) v5 L W (HW8.out.later hB0))
  have sm : ∀ W, Below w8.heap.size w8 W → Calls Tryd.prog 15 #[.agg #[.slice pN G.1.length dN, .slice pT G.2.length dT], .agg #[.slice aN G.1.length cN, .slice aT G.2.length cT]] W fun e w'' => e = .returned (.bool true) ∧ Below w8.heap.size w8 w'' := fun W hB0 => to_class hB0 (by
    have h2 := HP8.out.later hB0
    have hbw := HB38.out.trans (hB0.mono HB38.out.size)
    have h := same_true G.1 (G.2.map bs) pN aN pT aT dN cN dT cT W.heap.size W (Nat.le_refl _) (Reads.of_own h2.nums) (((Reads.of_own HON.out).below hbw).more hbw.size) (by rw [List.length_map]; exact Reads.of_own h2.txts) (by rw [List.length_map]; exact ((Reads.of_own HOT.out).below hbw).more hbw.size) (by omega) (by rw [List.length_map]; omega)
    rwa [List.length_map] at h)
  have QP := Lib.hid qP
  have QG := Lib.hid qG
  have NN := Lib.hid nn
  have LL := Lib.hid ll
  have SM := Lib.hid sm
  clear qP qG nn ll sm
  refine wp_region_past (by as_aux_lemma => kernel_rfl) (by as_aux_lemma => kernel_rfl) ?_
  repeat (first
    | go_big_quiet_skip
    | (go_big_quiet_want
       first
         | (refine quiet_load_mid 28 (.tmp 66) rfl w6.heap.size 1 rfl [.slice pN G.1.length dN, .slice pT G.2.length dT] _ QP.out Tryd.underlying28 rfl (by as_aux_lemma => kernel_rfl) ?_; simp only [Act.put, List.setIfInBounds_toArray, List.set_cons_zero, List.set_cons_succ])
         | (refine quiet_load_mid 28 (.tmp 5) rfl w3.heap.size 0 rfl [.slice aN G.1.length cN, .slice aT G.2.length cT] _ QG.out Tryd.underlying28 rfl (by as_aux_lemma => kernel_rfl) ?_; simp only [Act.put, List.setIfInBounds_toArray, List.set_cons_zero, List.set_cons_succ])
         | (refine quiet_call 15 _ _ rfl (#[.agg #[.slice pN G.1.length dN, .slice pT G.2.length dT], .agg #[.slice aN G.1.length cN, .slice aT G.2.length cT]]) rfl Tryd.func15 (by as_aux_lemma => kernel_rfl) (by as_aux_lemma => kernel_rfl) (.bool true) SM.out ?_; simp only [Act.put, List.setIfInBounds_toArray, List.set_cons_zero, List.set_cons_succ])
         | (refine quiet_call 32 _ _ rfl (#[.pointer (some ⟨w3.heap.size + 1, 0, none⟩)]) rfl Tryd.func32 (by as_aux_lemma => kernel_rfl) (by as_aux_lemma => kernel_rfl) (.int .i64 L.length) LL.out ?_; simp only [Act.put, List.setIfInBounds_toArray, List.set_cons_zero, List.set_cons_succ])
         | (refine quiet_call 14 _ _ rfl (#[.int .i64 0]) rfl Tryd.func14 (by as_aux_lemma => kernel_rfl) (by as_aux_lemma => kernel_rfl) (.int .i64 0) NN.out ?_; simp only [Act.put, List.setIfInBounds_toArray, List.set_cons_zero, List.set_cons_succ])
         | go_big_quiet_op
       go_big_quiet_on))
  refine wpQuiet_nil ?_
  rintro ⟨w9, hb9⟩
  dsimp only
  have HB89 := Lib.hid hb9
  have HZ9 : Hid (w6.heap.size + 1 ≤ w9.heap.size) := by unfold Hid; have := HP8.out.blk.lt; have := hb9.size; omega
  have HB9 : Hid (Below w.heap.size w w9) := HB8.out.trans (hb9.mono HB8.out.size)
  have HB39 : Hid (Below w3.heap.size w3 w9) := HB38.out.trans (hb9.mono HB38.out.size)
  have HG9 := Lib.hid (HG8.out.below hb9 HG8.out.lt)
  have HO9 := Lib.hid (own_kp HO8.out (Kp.of_below (X := []) hb9) (fun _ h => by cases h))
  have HZ5 : Hid (w3.heap.size + 2 ≤ w5.heap.size ∧ w5.heap.size ≤ w9.heap.size) := by unfold Hid; have := HB45.out.size; have := HZ4.out; have := HS56.out; have := HZ9.out; omega
  obtain ⟨w10, hw10⟩ : ∃ w10, w9.alloc (.cells #[.slice SA Q.length sc, .slice none 0 0, .slice none 0 0, .pointer none, .int .i64 0] 31) = w10 := ⟨_, rfl⟩
  have hb10 : Below w9.heap.size w9 w10 := by rw [← hw10]; exact (Below.refl _ _).alloc (Nat.le_refl _) _
  have HP10 : Hid (Blk w10 w9.heap.size 31 #[.slice SA Q.length sc, .slice none 0 0, .slice none 0 0, .pointer none, .int .i64 0]) := by unfold Hid; rw [← hw10]; exact Blk.new _ _ _
  have HB10 : Hid (Below w.heap.size w w10) := HB9.out.trans (hb10.mono HB9.out.size)
  have HB310 : Hid (Below w3.heap.size w3 w10) := HB39.out.trans (hb10.mono HB39.out.size)
  have HG10 := Lib.hid (HG9.out.below hb10 HG9.out.lt)
  have HO10 := Lib.hid (own_kp HO9.out (Kp.of_below (X := []) hb10) (fun _ h => by cases h))
  have HZ10 : Hid (w9.heap.size < w10.heap.size) := HP10.out.lt
  clear hb9 hb10 HB89 QP QG NN LL SM HG8 HO8 HW8 HP8 HK8 HB8 HB38 HP7 HB67 HB7 HB37 HW6 HO6 HG9 HO9 HW5 HB46 hz46
  go_wp2_with (first
    | (at_builtin
       refine wpList_append_any _ rfl (.tmp 76) (.tmp 77) _ rfl w5.heap.size 5 i0 _ 1 1 Tryd.underlying22 hi0 hq0 hq1 hq2 rfl (by decide) (.slice A6 L.length c6) L.length (bcells L) rfl (World.ownsRow.alloc HO10.out _) (w10.heap.size + 1) (some ⟨w10.heap.size, 0, none⟩) 1 1 (bcells [0]) rfl (reads_lit w10 5 [_]) (bcells_one _) (by simp only [maxLen]; omega) (by omega) (by have := HZ5.out; have := HZ10.out; simp; omega) ?_
       intro v11 w11 ho11 hg11 hat11
       obtain ⟨A11, c11, rfl⟩ := slice_form ho11
       have HO11 : Hid (w11.ownsRow w5.heap.size 5 1 (.slice A11 (L.length + 1) c11) (L.length + 1) (bcells (L ++ [0]))) := (by unfold Hid; rw [bcells_append]; exact ho11)
       have hbw : Below w5.heap.size w10 w11 := ((Below.refl _ _).alloc (by have := HZ5.out; have := HZ10.out; omega) _).grown hg11 (by have := HZ5.out; have := HZ10.out; simp; omega) (fun x e => (HO10.out.lt x e).1)
       have HP11 : Hid (Blk w11 w9.heap.size 31 #[.slice SA Q.length sc, .slice none 0 0, .slice none 0 0, .pointer none, .int .i64 0]) := (HP10.out.alloc _).grown hg11 (fun e => own_blk_ne HO10.out HP10.out (by decide) e.symm)
       have HG11 : Hid (Blk w11 w3.heap.size 28 #[.slice aN G.1.length cN, .slice aT G.2.length cT]) := HG10.out.below hbw (by have := HZ5.out; omega)
       have HB11 : Hid (Below w.heap.size w w11) := HB10.out.trans (hbw.mono (by have := HB3.out.size; have := HZ5.out; omega))
       have HB311 : Hid (Below w3.heap.size w3 w11) := HB310.out.trans (hbw.mono (by have := HZ5.out; omega))
       clear ho11 hg11 hat11 hbw)
    | (go_at_call 18
       have hrd := allPlay_any A11 SA (L.length + 1) c11 Q.length sc w9.heap.size w2.heap.size (L ++ [0]) Q (.pointer none) 0 w11 (Reads.of_own HO11.out) (own_cap HO11.out).1 (by omega) (own_cap HO11.out).2 (HE.out.below HB11.out) HP11.out ((Reads.of_own HOQ.out).below (HB23.out.trans (HB311.out.mono HB23.out.size))) (by have := HB23.out.size; have := HZ5.out; omega) (by omega) (by omega) (by omega) (fun _ ad e e2 => own_blk_ne HO11.out HP11.out (by decide) (by rw [e, ← e2]; rfl)) ⟨by have := HE.out.g1; have := HB9.out.size; omega, by have := HE.out.g2; have := HB9.out.size; omega⟩
       rw [HBK.out.2.1, all_more] at hrd
       with_reducible refine hrd.mono ?_
       clear hrd
       rintro e w12 ⟨rfl, hk12, vN12, vT12, hp12⟩
       rw [show rAt (.inl L.length) = L.length from rfl]
       obtain ⟨rN, eN, rfl⟩ := slice_form hp12.nums
       obtain ⟨rT, eT, rfl⟩ := slice_form hp12.txts
       have HP12 := Lib.hid hp12
       have HK12 := Lib.hid hk12
       clear hk12 hp12))
  have HB12 : Hid (Below w.heap.size w w12) := HB11.out.trans (HK12.out.below (by simp; exact HB9.out.size) HB11.out.size)
  have HB312 : Hid (Below w3.heap.size w3 w12) := HB311.out.trans (HK12.out.below (by simp; exact HB39.out.size) HB311.out.size)
  have HG12 := Lib.hid (HG11.out.kp HK12.out (by have := HZ5.out; simp; omega))
  have qP : ∀ W, Below w12.heap.size w12 W → W.rangeAt w9.heap.size 1 [.slice rN G.1.length eN, .slice rT G.2.length eT] := fun W hB0 j v hj => by
    have hb := (HP12.out.later hB0).blk
    match j, hj with
    | 0, hj => rw [hb.cell]; simpa using hj
    | 1, hj => rw [hb.cell]; simpa using hj
  have qG : ∀ W, Below w12.heap.size w12 W → W.rangeAt w3.heap.size 0 [.slice aN G.1.length cN, .slice aT G.2.length cT] := fun W hB0 j v hj => by
    have hb := HG12.out.below hB0 HG12.out.lt
    match j, hj with
    | 0, hj => rw [hb.cell]; simpa using hj
    | 1, hj => rw [hb.cell]; simpa using hj
  have sm : ∀ W, Below w12.heap.size w12 W → Calls Tryd.prog 15 #[.agg #[.slice rN G.1.length eN, .slice rT G.2.length eT], .agg #[.slice aN G.1.length cN, .slice aT G.2.length cT]] W fun e w'' => e = .returned (.bool true) ∧ Below w12.heap.size w12 w'' := fun W hB0 => to_class hB0 (by
    have h2 := HP12.out.later hB0
    have hbw := HB312.out.trans (hB0.mono HB312.out.size)
    have h := same_true G.1 (G.2.map bs) rN aN rT aT eN cN eT cT W.heap.size W (Nat.le_refl _) (Reads.of_own h2.nums) (((Reads.of_own HON.out).below hbw).more hbw.size) (by rw [List.length_map]; exact Reads.of_own h2.txts) (by rw [List.length_map]; exact ((Reads.of_own HOT.out).below hbw).more hbw.size) (by omega) (by rw [List.length_map]; omega)
    rwa [List.length_map] at h)
  have QP := Lib.hid qP
  have QG := Lib.hid qG
  have SM := Lib.hid sm
  clear qP qG sm
  refine wp_region_past (by as_aux_lemma => kernel_rfl) (by as_aux_lemma => kernel_rfl) ?_
  repeat (first
    | go_big_quiet_skip
    | (go_big_quiet_want
       first
         | (refine quiet_load_mid 28 (.tmp 95) rfl w9.heap.size 1 rfl [.slice rN G.1.length eN, .slice rT G.2.length eT] _ QP.out Tryd.underlying28 rfl (by as_aux_lemma => kernel_rfl) ?_; simp only [Act.put, List.setIfInBounds_toArray, List.set_cons_zero, List.set_cons_succ])
         | (refine quiet_load_mid 28 (.tmp 5) rfl w3.heap.size 0 rfl [.slice aN G.1.length cN, .slice aT G.2.length cT] _ QG.out Tryd.underlying28 rfl (by as_aux_lemma => kernel_rfl) ?_; simp only [Act.put, List.setIfInBounds_toArray, List.set_cons_zero, List.set_cons_succ])
         | (refine quiet_call 15 _ _ rfl (#[.agg #[.slice rN G.1.length eN, .slice rT G.2.length eT], .agg #[.slice aN G.1.length cN, .slice aT G.2.length cT]]) rfl Tryd.func15 (by as_aux_lemma => kernel_rfl) (by as_aux_lemma => kernel_rfl) (.bool true) SM.out ?_; simp only [Act.put, List.setIfInBounds_toArray, List.set_cons_zero, List.set_cons_succ])
         | go_big_quiet_op
       go_big_quiet_on))
  refine wpQuiet_nil ?_
  rintro ⟨w13, hb13⟩
  dsimp only
  go_wp2
  go_ret
  exact ⟨rfl, HB12.out.trans (hb13.mono HB12.out.size)⟩
end Go.Proofs.YtbegingiedbldaaDoor
