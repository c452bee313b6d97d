/- Of longer bytes the same is read: the walk. -/
import Derived.Test.YtbegingiedbldaaDoorJl1
import Derived.Test.YtbegingiedbldaaDoorJq6
import Derived.Test.YtbegingiedbldaaDoorStillM
namespace Go.Proofs.YtbegingiedbldaaDoor
open Go.RowKit

theorem flat_len (S : List St) : (S.flatMap stCells).length = S.length * 4 := by
  induction S with
  | nil => rfl
  | cons a S ih => rw [List.flatMap_cons, List.length_append, ih]; simp [stCells]; omega
theorem play_counts (S : List St) : ∀ (l : List UInt8) (p : Nat), p ≤ l.length → (play S l p).1.1.length ≤ S.length ∧ 4 * (play S l p).1.2.length + p ≤ l.length := by
  induction S with
  | nil => exact fun l p hp => ⟨Nat.le_refl _, by simpa [play] using hp⟩
  | cons s S ih =>
    intro l p hp
    simp only [play]
    rcases hr : stepR s l p with ⟨g, q⟩ | e
    · have hat := stepR_at s hp hr
      obtain ⟨h1, h2⟩ := ih l q (by omega)
      simp only [List.length_append, List.length_cons]
      omega
    · simp; omega

theorem play_dec {P1 P2 : Gt × (Nat ⊕ Int × Nat)} (h : (∀ q, P1.2 = .inl q → P2 = P1) ∧ ∀ er q, P1.2 = .inr (er, q) → er ≠ 0 ∧ (er = 20 ∨ P2 = P1)) : (rE P1.2 = 0 → P2 = P1) ∧ (rE P1.2 ≠ 0 → rE P1.2 = 20 ∨ P2 = P1) := by
  rcases hr : P1.2 with q | ⟨er, q⟩
  · exact ⟨fun _ => h.1 q hr, fun hn => absurd rfl hn⟩
  · exact ⟨fun h0 => absurd h0 (h.2 er q hr).1, fun _ => (h.2 er q hr).2⟩

set_option maxRecDepth 100000 in
set_option maxHeartbeats 2000000 in
theorem longer_any (A0 A1 SA : Option Addr) (n0 c0 n1 c1 sn sc : Nat) (l m : List UInt8) (S : List St) (w : World) (hE : Env w)
    (h0 : Reads w w.heap.size 1 A0 n0 (bcells l)) (h1 : Reads w w.heap.size 1 A1 n1 (bcells m)) (hS : Reads w w.heap.size 4 SA sn (S.flatMap stCells))
    (hn0 : n0 ≤ c0) (hz0 : A0 = none → c0 = 0) (hb : n0 + n1 + sn ≤ 1099511627776) :
    Calls Tryd.prog 4 #[.slice A0 n0 c0, .slice A1 n1 c1, .slice SA sn sc] w fun e w' => e = .returned (.bool true) ∧ Below w.heap.size w w' := by
  have hl0 : l.length = n0 := by have := h0.1; rw [bcells_length] at this; omega
  have hl1 : m.length = n1 := by have := h1.1; rw [bcells_length] at this; omega
  have hls : S.length = sn := by have := hS.1; rw [flat_len] at this; omega
  subst hl0 hl1 hls
  obtain ⟨i0, hi0, hq0, hq1, hq2⟩ := info_parts u8_info
  have hmf : ∀ (fn : Fn) (first cap : Array Value) (w : World), (Instr.makeFunc fn first cap).run Tryd.prog w = .ok (.func fn first cap) w := fun _ _ _ _ => rfl
  have HE := Lib.hid hE
  have H0 := Lib.hid h0
  have H1 := Lib.hid h1
  have HS := Lib.hid hS
  clear hE h0 h1 hS
  go_enter Tryd.func4, Tryd.ntmps4
  go_wp2_with (first
    | (go_at_call 17; refine (live_any w HE.out).mono ?_; rintro e w1 ⟨rfl, hb1⟩; have HB1 := Lib.hid hb1; clear hb1))
  go_loopw [7] (fun i wr => ∃ k : Nat, k ≤ S.length ∧ i = .int .i64 k ∧ w1 = wr ∧ Hid (∀ s ∈ S.take k, s.k ≠ 9)) (fun i _ => S.length - (intOf i).toNat)
  case atStart => exact ⟨0, Nat.zero_le _, rfl, (by first | rfl | trivial), fun s h => by simp at h⟩
  case round =>
    obtain ⟨k, hk, rfl, rfl, HT⟩ := hrel
    by_cases hlt : k < S.length
    · obtain ⟨s, hs⟩ : ∃ s, S[k]? = some s := ⟨_, List.getElem?_eq_getElem hlt⟩
      obtain ⟨bS, off, rfl, hbS, e0, e1, e2, e3⟩ := st_cells (HS.out.below HB1.out) k s hs
      have HSK := Lib.hid hs
      clear hs e1 e2 e3
      by_cases h9 : s.k = 9
      · have h9b : (s.k == 9) = true := by simp [h9]
        clear h9
        go_wp2
        go_ret
        exact ⟨rfl, HB1.out⟩
      · have h9b : (s.k == 9) = false := by simp [h9]
        go_wp2
        go_roundw
        case rel => exact ⟨k + 1, by omega, by go_num, (by first | rfl | trivial), fun t ht => by
          rw [List.take_add_one, HSK.out] at ht
          rcases List.mem_append.1 ht with h | h
          · exact HT.out t h
          · have : t = s := by simpa using h
            rw [this]; exact h9⟩
        case measure => simp [intOf]; omega
    · have hke : k = S.length := by omega
      have h9 : ∀ s ∈ S, s.k ≠ 9 := by
        have h := HT.out
        rwa [hke, List.take_length] at h
      have HL := Lib.hid (play_longer S h9 l m 0 (Nat.zero_le _))
      have HC1 := Lib.hid (play_counts S l 0 (Nat.zero_le _))
      have HC2 := Lib.hid (play_counts S (l ++ m) 0 (Nat.zero_le _))
      obtain ⟨P1, hP1⟩ : ∃ x, Hid (x = play S l 0) := ⟨_, rfl⟩
      obtain ⟨L, hL⟩ : ∃ L, L = l ++ m := ⟨_, rfl⟩
      rw [← hL] at HL HC2
      have HLn : Hid (L.length = l.length + m.length) := by unfold Hid; rw [hL, List.length_append]
      have HLL : Hid (bcells L = bcells l ++ bcells m) := by unfold Hid; rw [hL, bcells_append]
      clear hL
      obtain ⟨P2, hP2⟩ : ∃ x, Hid (x = play S L 0) := ⟨_, rfl⟩
      obtain ⟨w2, hw2⟩ : ∃ w2, w1.alloc (.cells #[.slice SA S.length sc, .slice none 0 0, .slice none 0 0, .pointer none, .int .i64 0] 31) = w2 := ⟨_, rfl⟩
      have hb2 : Below w1.heap.size w1 w2 := by rw [← hw2]; exact (Below.refl _ _).alloc (Nat.le_refl _) _
      have hB2 : Blk w2 w1.heap.size 31 #[.slice SA S.length sc, .slice none 0 0, .slice none 0 0, .pointer none, .int .i64 0] := by rw [← hw2]; exact Blk.new _ _ _
      have hz2 : w2.heap.size = w1.heap.size + 1 := by rw [← hw2]; simp
      have HB2 := Lib.hid hb2
      have HP2 := Lib.hid hB2
      have HZ2 := Lib.hid hz2
      have HB02 : Hid (Below w.heap.size w w2) := HB1.out.trans (hb2.mono HB1.out.size)
      clear hb2 hB2 hz2 h9 HT
      go_wp2_with (first
        | (go_at_call 11
           have hrd := (readPlay_any A0 SA l.length c0 S.length sc w1.heap.size w.heap.size l S (.pointer none) 0 w2 ((H0.out.below HB02.out).more HB02.out.size) hn0 (by omega) hz0 (HE.out.below HB02.out) HP2.out (HS.out.below HB02.out) HB1.out.size (by omega) (by omega) (by omega) (fun hn ad e => by
             obtain ⟨ad', e', hb', _⟩ := H0.out.2 hn
             rw [e] at e'
             injection e' with e'
             rw [e']
             have := HB1.out.size
             omega) ⟨by have := HE.out.g1; have := HB1.out.size; omega, by have := HE.out.g2; have := HB1.out.size; omega⟩)
           rw [← hP1.out] at hrd
           with_reducible refine hrd.mono ?_
           clear hrd
           rintro e w3 ⟨rfl, hk3, ⟨vN, vT, hp3⟩, _⟩
           obtain ⟨aN, cN, rfl⟩ := slice_form hp3.nums
           obtain ⟨aT, cT, rfl⟩ := slice_form hp3.txts
           have HP3 := Lib.hid hp3
           have HK3 := Lib.hid hk3
           have HB03 : Hid (Below w.heap.size w w3) := HB02.out.trans ((hk3.below (B := w.heap.size) (by simp; exact HB1.out.size) HB02.out.size))
           obtain ⟨w4, hw4⟩ : ∃ w4, (w3.alloc (.cells #[.slice SA S.length sc, .slice none 0 0, .slice none 0 0, .pointer none, .int .i64 0] 31)).alloc (.cells #[] 5) = w4 := ⟨_, rfl⟩
           have hb4 : Below w3.heap.size w3 w4 := (by rw [← hw4]; exact ((Below.refl _ _).alloc (Nat.le_refl _) _).alloc (by simp) _)
           have hB4 : Blk w4 w3.heap.size 31 #[.slice SA S.length sc, .slice none 0 0, .slice none 0 0, .pointer none, .int .i64 0] := (by rw [← hw4]; exact (Blk.new _ _ _).alloc _)
           have hz4 : w4.heap.size = w3.heap.size + 2 := (by rw [← hw4]; simp)
           have ho4 : w4.ownsRow w3.heap.size 5 1 (.slice (some ⟨w3.heap.size + 1, 0, none⟩) 0 0) 0 [] := (by
             have h := World.ownsRow_made (base := w3.heap.size) (e := 5) (size := 1) (w3.alloc (.cells #[.slice SA S.length sc, .slice none 0 0, .slice none 0 0, .pointer none, .int .i64 0] 31)) #[] 0 (by simp) (by decide) rfl
             rw [hw4] at h
             simpa using h)
           have HB4 := Lib.hid hb4
           have HP4 := Lib.hid hB4
           have HZ4 := Lib.hid hz4
           have HO4 := Lib.hid ho4
           have HB04 : Hid (Below w.heap.size w w4) := HB03.out.trans (hb4.mono HB03.out.size)
           clear hp3 hk3 hb4 hB4 hz4 ho4)
        | (at_builtin
           have hflag := HO5.out
           clear hflag
           refine wpList_append_any _ rfl (.tmp 44) (.tmp 45) _ rfl w3.heap.size 5 i0 _ 1 1 Tryd.underlying22 hi0 hq0 hq1 hq2 rfl (by decide) (.slice A5 l.length c5) l.length (bcells l) rfl HO5.out w.heap.size A1 m.length c1 (bcells m) rfl (H1.out.below HB05.out) (bcells_one _) (by simp only [maxLen]; omega) (by omega) (by have := HB45.out.size; have := HZ4.out; omega) ?_
           intro v6 w6 ho6 hg6 hat6
           obtain ⟨A6, c6, rfl⟩ := slice_form ho6
           have HP6 := Lib.hid (HP5.out.grown hg6 (fun e => own_blk_ne HO5.out HP5.out (by decide) e.symm))
           have HB56 : Hid (Below w3.heap.size w5 w6) := (Kp.of_grown hg6).below (fun x hx => ((HO5.out.lt x (by simpa using hx)).1)) (by have := HB45.out.size; have := HZ4.out; omega)
           have HB06 : Hid (Below w.heap.size w w6) := HB05.out.trans (HB56.out.mono HB03.out.size)
           have HO6 : Hid (w6.ownsRow w3.heap.size 5 1 (.slice A6 L.length c6) L.length (bcells L)) := (by unfold Hid; rw [HLL.out, HLn.out]; exact ho6)
           rw [← HLn.out]
           clear ho6 hg6 hat6)
        | (at_builtin
           refine wpList_append_any _ rfl (.tmp 42) (.tmp 43) _ rfl w3.heap.size 5 i0 _ 1 1 Tryd.underlying22 hi0 hq0 hq1 hq2 rfl (by decide) (.slice (some ⟨w3.heap.size + 1, 0, none⟩) 0 0) 0 [] rfl HO4.out w.heap.size A0 l.length c0 (bcells l) rfl (H0.out.below HB04.out) (bcells_one _) (by simp only [maxLen]; omega) (by omega) (by have := HZ4.out; omega) ?_
           intro v5 w5 ho5 hg5 hat5
           obtain ⟨A5, c5, rfl⟩ := slice_form ho5
           rw [Nat.zero_add]
           rw [Nat.zero_add, List.nil_append] at ho5
           have HO5 := Lib.hid ho5
           have HP5 := Lib.hid (HP4.out.grown hg5 (fun e => own_blk_ne HO4.out HP4.out (by decide) e.symm))
           have HB45 : Hid (Below w3.heap.size w4 w5) := (Kp.of_grown hg5).below (fun x hx => ((HO4.out.lt x (by simpa using hx)).1)) (by have := HZ4.out; omega)
           have HB05 : Hid (Below w.heap.size w w5) := HB04.out.trans (HB45.out.mono HB03.out.size)
           clear ho5 hg5 hat5))
      go_wp2_with (first
        | (go_at_call 11
           have hflag := HO6.out
           clear hflag
           have hrd := (readPlay_any A6 SA L.length c6 S.length sc w3.heap.size w.heap.size L S (.pointer none) 0 w6 ((Reads.of_own HO6.out).more (Nat.le_refl _)) (own_cap HO6.out).1 (by have := HLn.out; omega) (own_cap HO6.out).2 (HE.out.below HB06.out) HP6.out (HS.out.below HB06.out) HB03.out.size (by omega) (by omega) (by omega) (fun hn ad e => fun e2 => own_blk_ne HO6.out HP6.out (by decide) (by rw [e, ← e2]; rfl)) ⟨by have := HE.out.g1; have := HB03.out.size; omega, by have := HE.out.g2; have := HB03.out.size; omega⟩)
           rw [← hP2.out] at hrd
           with_reducible refine hrd.mono ?_
           clear hrd
           rintro e w7 ⟨rfl, hk7, ⟨vN', vT', hp7⟩, _⟩
           obtain ⟨aN', cN', rfl⟩ := slice_form hp7.nums
           obtain ⟨aT', cT', rfl⟩ := slice_form hp7.txts
           have HP7 := Lib.hid hp7
           have HK7 := Lib.hid hk7
           clear hp7 hk7))
      have hb36 : Below w3.heap.size w3 w6 := (HB4.out.trans HB45.out).trans HB56.out
      have hz34 := HZ4.out
      have hz45 := HB45.out.size
      have hz56 := HB56.out.size
      have hz67 := HK7.out.size
      have hz36 := hb36.size
      have hk37 : Kp [w3.heap.size] w3 w7 := (Kp.of_below (X := [w3.heap.size]) hb36).to HK7.out (fun _ h _ => h) (fun _ h _ => h)
      have hz13 : w1.heap.size + 1 ≤ w3.heap.size := by have := HK3.out.size; have := HZ2.out; omega
      have hp1 : PlaySt w7 w2.heap.size w1.heap.size (.slice SA S.length sc) (.slice aN P1.1.1.length cN) (.slice aT P1.1.2.length cT) P1.1.1 P1.1.2 (.pointer (some ⟨w2.heap.size + 1 + 1, 0, none⟩)) (0 + 1) :=
        ⟨HP3.out.blk.kp hk37 (by simp; omega), own_kp HP3.out.nums hk37 (fun x hx e => by have := (HP3.out.nums.lt x e).2; simp at hx; omega), own_kp HP3.out.txts hk37 (fun x hx e => by have := (HP3.out.txts.lt x e).2; simp at hx; omega)⟩
      have hb07 : Below w.heap.size w w7 := HB06.out.trans (HK7.out.below (by simp; exact HB03.out.size) HB06.out.size)
      have HPA := Lib.hid hp1
      have HB07 := Lib.hid hb07
      have HPB := Lib.hid HP7.out
      clear hb36 hz34 hz45 hz56 hz67 hz36 hk37 hz13 hp1 hb07 HB1 HB2 HP2 HZ2 HB02 HP3 HK3 HB03 HB4 HP4 HZ4 HO4 HB04 HO5 HP5 HB45 HB05 HO6 HP6 HB56 HB06 HP7 HK7 H0 H1 HS HE
      have HD := Lib.hid (play_dec (P1 := P1) (P2 := P2) (by rw [hP1.out, hP2.out]; exact HL.out))
      rw [← hP1.out] at HC1
      clear hP1 hP2 HL HC2 HLn HLL
      by_cases he : rE P1.2 = 0
      · have h21 : P2 = P1 := HD.out.1 he
        subst h21
        clear HD
        have he0 : (rE P2.2 == 0) = true := by simp [he]
        clear he
        go_wp2_with (first
          | (go_at_call 14; refine (no_any _ _).mono ?_; rintro e w10 ⟨rfl, rfl⟩))
        have qP : ∀ W, Below w7.heap.size w7 W → W.rangeAt w1.heap.size 1 [.slice aN P2.1.1.length cN, .slice aT P2.1.2.length cT] := fun W hB0 j v hj => by
          have hb := (HPA.out.later hB0).blk
          match j, hj with
          | 0, hj => rw [hb.cell]; simpa using hj
          | 1, hj => rw [hb.cell]; simpa using hj
        have qQ : ∀ W, Below w7.heap.size w7 W → W.rangeAt w3.heap.size 1 [.slice aN' P2.1.1.length cN', .slice aT' P2.1.2.length cT'] := fun W hB0 j v hj => by
          have hb := (HPB.out.later hB0).blk
          match j, hj with
          | 0, hj => rw [hb.cell]; simpa using hj
          | 1, hj => rw [hb.cell]; simpa using hj
        have sm : ∀ W, Below w7.heap.size w7 W → Calls Tryd.prog 15 #[.agg #[.slice aN P2.1.1.length cN, .slice aT P2.1.2.length cT], .agg #[.slice aN' P2.1.1.length cN', .slice aT' P2.1.2.length cT']] W fun e w'' => e = .returned (.bool true) ∧ Below w7.heap.size w7 w'' := fun W hB0 => to_class hB0 (by
          have h1 := HPA.out.later hB0
          have h2 := HPB.out.later hB0
          have h := same_true P2.1.1 (P2.1.2.map bs) aN aN' aT aT' cN cN' cT cT' W.heap.size W (Nat.le_refl _) (Reads.of_own h1.nums) (Reads.of_own h2.nums) (by rw [List.length_map]; exact Reads.of_own h1.txts) (by rw [List.length_map]; exact Reads.of_own h2.txts) (by have := HC1.out; omega) (by have := HC1.out; rw [List.length_map]; omega)
          rwa [List.length_map] at h)
        have nn : ∀ (z : Int) W, Below w7.heap.size w7 W → Calls Tryd.prog 14 #[.int .i64 z] W fun e w'' => e = .returned (.int .i64 z) ∧ Below w7.heap.size w7 w'' := fun z W hB0 => to_class_same hB0 (no_any z W)
        have QP := Lib.hid qP
        have QQ := Lib.hid qQ
        have SM := Lib.hid sm
        have NN := Lib.hid nn
        clear qP qQ sm nn
        refine wp_region_past (by as_aux_lemma => kernel_rfl) (by as_aux_lemma => kernel_rfl) ?_
        repeat (first
          | go_big_quiet_skip
          | (go_big_quiet_want
             first
               | (refine quiet_load_mid 28 (.tmp 66) rfl w1.heap.size 1 rfl [.slice aN P2.1.1.length cN, .slice aT P2.1.2.length cT] _ QP.out Tryd.underlying28 rfl (by as_aux_lemma => kernel_rfl) ?_; simp only [Act.put, List.setIfInBounds_toArray, List.set_cons_zero, List.set_cons_succ])
               | (refine quiet_load_mid 28 (.tmp 70) rfl w3.heap.size 1 rfl [.slice aN' P2.1.1.length cN', .slice aT' P2.1.2.length cT'] _ QQ.out Tryd.underlying28 rfl (by as_aux_lemma => kernel_rfl) ?_; simp only [Act.put, List.setIfInBounds_toArray, List.set_cons_zero, List.set_cons_succ])
               | (refine quiet_call 15 _ _ rfl (#[.agg #[.slice aN P2.1.1.length cN, .slice aT P2.1.2.length cT], .agg #[.slice aN' P2.1.1.length cN', .slice aT' P2.1.2.length cT']]) rfl Tryd.func15 (by as_aux_lemma => kernel_rfl) (by as_aux_lemma => kernel_rfl) (.bool true) SM.out ?_; simp only [Act.put, List.setIfInBounds_toArray, List.set_cons_zero, List.set_cons_succ])
               | (refine quiet_call 14 _ _ rfl (#[.int .i64 (rE P2.2)]) rfl Tryd.func14 (by as_aux_lemma => kernel_rfl) (by as_aux_lemma => kernel_rfl) (.int .i64 (rE P2.2)) (NN.out _) ?_; simp only [Act.put, List.setIfInBounds_toArray, List.set_cons_zero, List.set_cons_succ])
               | go_big_quiet_op
             go_big_quiet_on))
        refine wpQuiet_nil ?_
        intro nq
        go_wp2
        go_ret
        exact ⟨rfl, HB07.out.trans (nq.prop.mono HB07.out.size)⟩
      · have h20 := HD.out.2 he
        have he0 : (rE P1.2 == 0) = false := by simp [he]
        clear HD
        rcases h20 with h20 | h21
        · have h20b : (rE P1.2 == 20) = true := by simp [h20]
          by_cases hf : rE P2.2 = 0
          · have hf0 : (rE P2.2 != 0) = false := by simp [hf]
            go_wp2_with (first
              | (go_at_call 14; refine (no_any _ _).mono ?_; rintro e w10 ⟨rfl, rfl⟩))
            go_ret
            exact ⟨rfl, HB07.out⟩
          · have hf0 : (rE P2.2 != 0) = true := by simp [hf]
            go_wp2_with (first
              | (go_at_call 14; refine (no_any _ _).mono ?_; rintro e w10 ⟨rfl, rfl⟩))
            go_ret
            exact ⟨rfl, HB07.out⟩
        · subst h21
          by_cases h2 : rE P2.2 = 20
          · have h20b : (rE P2.2 == 20) = true := by simp [h2]
            go_wp2_with (first
              | (go_at_call 14; refine (no_any _ _).mono ?_; rintro e w10 ⟨rfl, rfl⟩))
            go_ret
            exact ⟨rfl, HB07.out⟩
          · have h20b : (rE P2.2 == 20) = false := by simp [h2]
            go_wp2_with (first
              | (go_at_call 14; refine (no_any _ _).mono ?_; rintro e w10 ⟨rfl, rfl⟩))
            go_ret
            exact ⟨rfl, HB07.out⟩
end Go.Proofs.YtbegingiedbldaaDoor
