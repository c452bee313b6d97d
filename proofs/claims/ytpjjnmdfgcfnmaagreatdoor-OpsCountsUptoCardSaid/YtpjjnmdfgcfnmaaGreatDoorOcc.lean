/- The document's clean is the program's: plain. -/
import Derived.Test.YtpjjnmdfgcfnmaaGreatDoorOc7
set_option linter.unusedVariables false
set_option linter.unusedSimpArgs false
namespace Go.Proofs.YtpjjnmdfgcfnmaaGreatDoor
open Go.RowKit

theorem letters {t : Int} (ht : t ∈ ownTypes) : hasN t 112 = decide (t ∈ tP) ∧ hasN t 100 = decide (t ∈ tD) ∧ hasN t 97 = decide (t ∈ tA) ∧ hasN t 102 = decide (t ∈ tF) ∧ hasN t 118 = decide (t ∈ tV) ∧ hasN t 119 = decide (t ∈ tW) ∧ hasN t 99 = decide (t ∈ tC) ∧ hasN t 108 = decide (t ∈ tL) ∧ hasN t 122 = decide (t ∈ tZ) ∧ hasN t 107 = decide (t ∈ tZ) ∧ hasN t 116 = decide (t ∈ tT) ∧ hasN t 105 = decide (t ∈ tT) ∧ hasN t 115 = decide (t ∈ tS) := by
  revert t
  decide +kernel
theorem k_int {p : Prop} [Decidable p] (x : Int) : (x == if p then x else 0) = (decide p || x == 0) := by by_cases h : p <;> simp [h]
theorem k_bool {p : Prop} [Decidable p] (x : Bool) : (x == if p then x else false) = (decide p || !x) := by by_cases h : p <;> simp [h]
theorem k_list {α : Type} [DecidableEq α] {p : Prop} [Decidable p] (l : List α) : decide (l = if p then l else []) = (decide p || ((l.length : Int) == 0)) := by
  by_cases h : p <;> simp [h]
  cases l <;> simp <;> omega
theorem k_str {p : Prop} [Decidable p] (s : ByteArray) : (s.toList == (if p then s else ⟨#[]⟩).toList) = (decide p || (s.toList == (⟨#[]⟩ : ByteArray).toList)) := by by_cases h : p <;> simp [h]
theorem k_len {p : Prop} [Decidable p] (n : Nat) : ((n : Int) != ((if p then n else 0 : Nat) : Int)) = !(decide p || ((n : Int) == 0)) := by
  by_cases h : p <;> simp [h]
  rw [Bool.eq_iff_iff]; simp
theorem k_lists {p : Prop} [Decidable p] (a b c d e : List ByteArray) : decide ([a, b, c, d, e] = [if p then a else [], if p then b else [], if p then c else [], if p then d else [], if p then e else []]) = ((((decide p || ((a.length : Int) == 0)) && (decide p || ((b.length : Int) == 0))) && ((decide p || ((c.length : Int) == 0)) && (decide p || ((d.length : Int) == 0)))) && (decide p || ((e.length : Int) == 0))) := by
  rw [← k_list, ← k_list, ← k_list, ← k_list, ← k_list]
  simp only [List.cons.injEq, and_true, Bool.decide_and, Bool.and_assoc]
theorem odd_ids (L : List (ByteArray × ByteArray)) : (!L.any oddI) = L.all okP := by
  induction L with
  | nil => rfl
  | cons x r ih =>
    rw [List.any_cons, List.all_cons, Bool.not_or, ih]
    unfold oddI okP
    cases validS x.1 <;> cases validS x.2 <;> rfl
theorem odd_texts (L : List ByteArray) : (!L.any oddP) = L.all validS := by
  induction L with
  | nil => rfl
  | cons x r ih =>
    rw [List.any_cons, List.all_cons, Bool.not_or, ih]
    unfold oddP
    cases validS x <;> rfl
theorem and_or2 (h a b : Bool) : (h || (a && b)) = ((h || a) && (h || b)) := by cases h <;> simp
theorem not5 (A B C D E : Bool) : (!((((A || B) || C) || !D) || !E)) = ((((!A && !B) && !C) && D) && E) := by cases A <;> cases B <;> cases C <;> cases D <;> cases E <;> rfl
theorem clean_odd (f : OpF) (n : Nat) (ht : f.t ∈ ownTypes) : cleanB f n = !oddB f n := by
  obtain ⟨e1, e2, e3, e4, e5, e6, e7, e8, e9, e10, e11, e12, e13⟩ := letters ht
  unfold cleanB cleanE cleanD cleanC cleanA cleanT oddB plainB keptF OpF.lists OpF.texts OpF.ids
  simp only [k_int, k_bool, k_str, k_list, k_len, k_lists]
  rw [not5, Bool.not_not, odd_ids, odd_texts]
  simp only [List.all_cons, List.all_nil, okK, e1, e2, e3, e4, e5, e6, e7, e8, e9, e10, e11, e12, e13, and_or2, List.all_append, List.all_map, beq_self_eq_true, Bool.true_and, Bool.and_true]
  rw [show (okP ∘ fun x : AclT => x.2) = fun x => okP x.2 from rfl]
  ac_rfl
end Go.Proofs.YtpjjnmdfgcfnmaaGreatDoor
/- The document's Own: the error of an operation and of all that stands in it. (printed by gen_c9.py) -/
namespace Go.Proofs.YtpjjnmdfgcfnmaaGreatDoor
open Go.RowKit

set_option maxRecDepth 100000 in
set_option maxHeartbeats 8000000 in
theorem refOwn_any {w0 : World} {lo : Option Nat} {x : OpC} {xs : List Value} (h : At w0 lo x xs) : ∀ (w : World), Below w0.heap.size w0 w →
    Calls Tryz.prog 34 #[.agg xs.toArray] w fun e w' => e = .returned (.int .i64 x.allE) ∧ Below w.heap.size w w' := by
  induction h with
  | mk f d a k0 k1 k2 k3 k4 i s Q ok hd ha hk0 hk1 hk2 hk3 hk4 hi hs hQ ih =>
    intro w hb0
    have hlen : s.n ≤ 4611686018427387904 := hs.bd (by decide)
    obtain ⟨cs, hcs⟩ : ∃ cs : Array Value, cs = (f.row d a k0 k1 k2 k3 k4 i s).toArray := ⟨_, rfl⟩
    have HSZ : Hid (∀ W, Below w0.heap.size w0 W → Calls Tryz.prog 73 #[.agg cs] W fun e w' => e = .returned (.int .i64 (if bigB f s.n then 3 else 0)) ∧ Below W.heap.size W w') := fun W hW =>
      refSize_any f d a k0 k1 k2 k3 k4 i s W ((⟨hd, ha, hk0, hk1, hk2, hk3, hk4, hi⟩ : FAt w0 lo f d a k0 k1 k2 k3 k4 i).later hW) hlen cs hcs
    have HCLN : Hid (∀ W, Below w0.heap.size w0 W → Calls Tryz.prog 74 #[.agg cs] W fun e w' => e = .returned (.bool (cleanB f s.n)) ∧ Below W.heap.size W w') := fun W hW =>
      refClean_any f d a k0 k1 k2 k3 k4 i s W ((⟨hd, ha, hk0, hk1, hk2, hk3, hk4, hi⟩ : FAt w0 lo f d a k0 k1 k2 k3 k4 i).later hW) ok hlen cs hcs
    have HKI := Lib.hid (fun W => refKind_any f.t W)
    rw [← hcs]
    obtain ⟨w1, hw1⟩ : ∃ w1, w.alloc (.cells cs 29) = w1 := ⟨_, rfl⟩
    have HB1 := Lib.hid (newB hw1)
    have HN1 := Lib.hid (newK hw1)
    have HC0 : Hid (cs[0]? = some (.int .i32 f.t)) := by unfold Hid; rw [hcs]; rfl
    have HC18 : Hid (cs[18]? = some (.slice s.A s.n s.c)) := by unfold Hid; rw [hcs]; rfl
    have HI19 : Hid ((Tryz.prog.info? 29).map (·.size) = some cs.size) := by unfold Hid; rw [hcs]; exact isz_29
    have HR : Hid (Reads w w0.heap.size 19 s.A s.n (Q.flatMap Prod.snd)) := hs.reads.below hb0
    have HQA : Hid (∀ q ∈ Q, At w0 lo q.1 q.2) := hQ
    have HSL : Hid (Q.length = s.n) := hs.len
    have HIH := Lib.hid ih
    have HB0 := Lib.hid hb0
    have HBO := hidT HB0 (newB hw1)
    obtain ⟨S, hS⟩ : ∃ S, S = Q.map Prod.fst := ⟨_, rfl⟩
    have HSQ := Lib.hid hS
    rw [← hS]
    have c0 := blk_cell HN1.out 0 HC0.out
    have hkt : kindN f.t ≠ 0 → cleanB f s.n = !oddB f s.n := fun h => clean_odd f s.n (kind_types h)
    rw [OpC.allE, show S.length = s.n by rw [hS, List.length_map, hs.len], ownE]
    clear hcs ih hs hd ha hk0 hk1 hk2 hk3 hk4 hi hQ ok hb0 hS
    obtain ⟨A, N, c⟩ := s
    dsimp only at HR HSL hlen HC18 HSZ HCLN hkt
    dsimp only
    by_cases hk : kindN f.t = 0
    · rw [if_pos hk, if_pos (by decide : (110 : Int) ≠ 0)]
      rw [hk] at HKI
      clear hk hkt
      go_enter Tryz.func34, Tryz.ntmps34
      go_wp2_with (go_at_call 12; refine (HKI.out _).mono ?_; rintro e w2 ⟨rfl, he⟩; obtain rfl := he.symm)
      go_ret
      exact ⟨rfl, HB1.out⟩
    rw [if_neg hk]
    have HCO := Lib.hid (hkt hk)
    generalize kindN f.t = kk at HKI hk
    have hkb : (kk == 0) = false := by simpa using hk
    clear hk hkt
    generalize bigB f N = bg at HSZ ⊢
    cases bg
    rotate_left
    · rw [if_pos rfl, if_pos (by decide : (3 : Int) ≠ 0)]
      rw [if_pos rfl] at HSZ
      go_enter Tryz.func34, Tryz.ntmps34
      go_wp2_with (first
        | (go_at_call 12; refine (HKI.out _).mono ?_; rintro e w2 ⟨rfl, he⟩; obtain rfl := he.symm)
        | (refine wpList_load_row rfl 29 (.tmp 1) rfl w.heap.size rfl 29 _ _ _ HN1.out Tryz.underlying29 rfl HI19.out ?_)
        | (go_at_call 73
           refine (HSZ.out _ HBO.out).mono ?_
           rintro e w3 ⟨rfl, hb⟩
           have HB3 := hidT HB1 hb
           have HN3 := Lib.hid (HN1.out.below hb HN1.out.lt)
           have HBO3 := hidT HBO hb
           clear hb))
      go_ret
      exact ⟨rfl, HB3.out⟩
    rw [if_neg (by decide : ¬ (false : Bool) = true)]
    rw [if_neg (by decide : ¬ (false : Bool) = true)] at HSZ
    rw [HCO.out] at HCLN
    generalize oddB f N = od at HCLN ⊢
    cases od
    rotate_left
    · rw [if_pos rfl, if_pos (by decide : (1 : Int) ≠ 0)]
      go_enter Tryz.func34, Tryz.ntmps34
      go_wp2_with (first
        | (go_at_call 12; refine (HKI.out _).mono ?_; rintro e w2 ⟨rfl, he⟩; obtain rfl := he.symm)
        | (refine wpList_load_row rfl 29 (.tmp 1) rfl w.heap.size rfl 29 _ _ _ HN1.out Tryz.underlying29 rfl HI19.out ?_)
        | (go_at_call 73
           refine (HSZ.out _ HBO.out).mono ?_
           rintro e w3 ⟨rfl, hb⟩
           have HB3 := hidT HB1 hb
           have HN3 := Lib.hid (HN1.out.below hb HN1.out.lt)
           have HBO3 := hidT HBO hb
           have HB13 := Lib.hid hb
           clear hb)
        | (refine wpList_load_row rfl 29 (.tmp 1) rfl w.heap.size rfl 29 _ _ _ HN3.out Tryz.underlying29 rfl HI19.out ?_)
        | (go_at_call 74
           refine (HCLN.out _ HBO3.out).mono ?_
           rintro e w4 ⟨rfl, hb⟩
           have HB4 := hidT HB3 hb
           have HW14 : Hid (Below w1.heap.size w1 w4) := (HB13.out.trans (hb.mono HB13.out.size))
           clear hb))
      go_ret
      exact ⟨rfl, HB4.out⟩
    rw [if_neg (by decide : ¬ (false : Bool) = true), if_neg (by decide : ¬ (0 : Int) ≠ 0)]
    go_enter Tryz.func34, Tryz.ntmps34
    go_wp2_with (first
        | (go_at_call 12; refine (HKI.out _).mono ?_; rintro e w2 ⟨rfl, he⟩; obtain rfl := he.symm)
        | (refine wpList_load_row rfl 29 (.tmp 1) rfl w.heap.size rfl 29 _ _ _ HN1.out Tryz.underlying29 rfl HI19.out ?_)
        | (go_at_call 73
           refine (HSZ.out _ HBO.out).mono ?_
           rintro e w3 ⟨rfl, hb⟩
           have HB3 := hidT HB1 hb
           have HN3 := Lib.hid (HN1.out.below hb HN1.out.lt)
           have HBO3 := hidT HBO hb
           have HB13 := Lib.hid hb
           clear hb)
        | (refine wpList_load_row rfl 29 (.tmp 1) rfl w.heap.size rfl 29 _ _ _ HN3.out Tryz.underlying29 rfl HI19.out ?_)
        | (go_at_call 74
           refine (HCLN.out _ HBO3.out).mono ?_
           rintro e w4 ⟨rfl, hb⟩
           have HB4 := hidT HB3 hb
           have HW14 : Hid (Below w1.heap.size w1 w4) := (HB13.out.trans (hb.mono HB13.out.size))
           clear hb))
    clear c0
    have HB14 := Lib.hid HW14.out
    clear HW14 HB13
    go_loopw [4] (fun vi wr => ∃ (k : Nat), k ≤ N ∧ vi = .int .i64 (k : Int) ∧ Hid (allL f.t S = allL f.t (S.drop k)) ∧ Hid (Below w1.heap.size w1 wr)) (fun vi _ => N - (intOf vi).toNat)
    case atStart => exact ⟨0, by omega, by go_num, (by unfold Hid; simp), HB14.out⟩
    case round =>
      clear HB14 HB3 HN3 HBO3 HB4
      obtain ⟨k, hk, rfl, HK, HW⟩ := hrel
      have c18r := blk_cell (HN1.out.below HW.out HN1.out.lt) 18 HC18.out
      by_cases hkn : k < N
      · have hkQ : k < Q.length := by rw [HSL.out]; exact hkn
        have hbw : Below w.heap.size w wr := HB1.out.trans (HW.out.mono HB1.out.size)
        obtain ⟨ad, hA, hrow⟩ := rowAt (HR.out.below (hbw.mono HB0.out.size)) HQA.out hkQ HSL.out
        subst hA
        have hdrop : S.drop k = (Q[k]).1 :: S.drop (k + 1) := by
          rw [HSQ.out, List.drop_eq_getElem_cons (by simpa using hkQ)]
          simp
        have hih := HIH.out (Q[k]) (List.getElem_mem _)
        have hx0 := (HQA.out (Q[k]) (List.getElem_mem _)).c0
        have hrows : ∀ W, Below wr.heap.size wr W → RowAt W ad k (Q[k]).2 := fun W hW => by
          obtain ⟨ad', hA', hrow'⟩ := rowAt ((HR.out.below (hbw.mono HB0.out.size)).below (hW.mono (Nat.le_trans HB0.out.size hbw.size))) HQA.out hkQ HSL.out
          injection hA' with e
          subst e
          exact hrow'
        obtain ⟨⟨x, xc⟩, hx⟩ : ∃ x, x = Q[k] := ⟨_, rfl⟩
        rw [← hx] at hrow hrows hdrop hih hx0
        dsimp only at hrow hrows hdrop hih hx0
        have hk' := HK.out
        rw [hdrop, allL] at hk'
        have hih2 : ∀ W, Below wr.heap.size wr W → Calls Tryz.prog 34 #[.agg xc.toArray] W fun e w' => e = .returned (.int .i64 x.allE) ∧ Below W.heap.size W w' := fun W hW =>
          hih W ((HB0.out.trans (hbw.mono HB0.out.size)).trans (hW.mono (Nat.le_trans HB0.out.size hbw.size)))
        have HROW := Lib.hid hrow
        have HROWS := Lib.hid hrows
        have HIK := Lib.hid hih2
        obtain ⟨xt, hxt⟩ : ∃ t, t = x.f.t := ⟨_, rfl⟩
        have HX0 : Hid (∀ W, Below wr.heap.size wr W → W.cell? (ad.add (k * 19)) = some (.int .i32 xt)) := fun W hW => (HROWS.out W hW).cells 0 _ (by rw [hxt]; exact hx0)
        have HM : Hid (∀ W, Calls Tryz.prog 75 #[.int .i32 f.t, .int .i32 xt] W fun e w' => e = .returned (.bool (mayN xt f.t)) ∧ Below W.heap.size W w') := fun W => (refInner_any _ _ W).mono fun e w' h => ⟨h.1, by rw [h.2]; exact Below.refl _ _⟩
        rw [← hxt] at hk'
        generalize mayN xt f.t = mb at HM hk'
        generalize x.allE = xe at HIK hk'
        clear hx hrow hrows hdrop hbw hkQ hih hih2 hx0 hxt
        go_wp2
        obtain ⟨x25, H25⟩ : ∃ x : Value, Hid (x = .pointer (some ⟨w.heap.size, 0, none⟩)) := ⟨_, rfl⟩
        obtain ⟨x26, H26⟩ : ∃ x : Value, Hid (x = .int .i32 f.t) := ⟨_, rfl⟩
        obtain ⟨x27, H27⟩ : ∃ x : Value, Hid (x = .pointer (some ⟨w.heap.size, 18, none⟩)) := ⟨_, rfl⟩
        obtain ⟨x28, H28⟩ : ∃ x : Value, Hid (x = .slice (some ad) N c) := ⟨_, rfl⟩
        obtain ⟨x29, H29⟩ : ∃ x : Value, Hid (x = .int .i64 (k : Int)) := ⟨_, rfl⟩
        obtain ⟨x30, H30⟩ : ∃ x : Value, Hid (x = .pointer (some (ad.add (k * 19)))) := ⟨_, rfl⟩
        obtain ⟨x31, H31⟩ : ∃ x : Value, Hid (x = .pointer (some (ad.add (k * 19)))) := ⟨_, rfl⟩
        obtain ⟨x32, H32⟩ : ∃ x : Value, Hid (x = .int .i32 xt) := ⟨_, rfl⟩
        obtain ⟨x33, H33⟩ : ∃ x : Value, Hid (x = .bool mb) := ⟨_, rfl⟩
        refine wp_region_ord (w0 := wr) (.inl x25 ::
    .inl x26 ::
    .inl x27 ::
    .inl x28 ::
    .inl x29 ::
    .inl x30 ::
    .inl x31 ::
    .inl x32 ::
    .inl x33 ::
    .inl (.bool (!mb)) :: []) rfl (by as_aux_lemma => kernel_rfl) (by as_aux_lemma => kernel_rfl) (by as_aux_lemma => kernel_rfl) (by as_aux_lemma => kernel_rfl) (nomono rfl) ⟨fun ac W hb hold hdep K hK => op_u (u := .pointer (some ⟨w.heap.size, 0, none⟩)) rfl (r_field 29 _ 0 rfl (eval_tmp ((hold 1 (free_slot (by as_aux_lemma => kernel_rfl))).trans rfl)) Tryz.underlying29 rfl (n := 0) isz_21 rfl) (hK _ _ H25.out.symm (Below.refl _ _)),
          fun ac W hb hold hdep K hK => op_u (u := .int .i32 f.t) rfl (r_load 21 _ rfl (eval_tmp ((dep_val (hdep ⟨0, .data⟩ (by simp) rfl 25 rfl)).trans (congrArg some H25.out))) (blk_cell (HN1.out.below (HW.out.trans (hb.mono HW.out.size)) HN1.out.lt) 0 HC0.out) Tryz.underlying21 rfl) (hK _ _ H26.out.symm (Below.refl _ _)),
          fun ac W hb hold hdep K hK => op_u (u := .pointer (some ⟨w.heap.size, 18, none⟩)) rfl (r_field 29 _ 14 rfl (eval_tmp ((hold 1 (free_slot (by as_aux_lemma => kernel_rfl))).trans rfl)) Tryz.underlying29 rfl (n := 0) isz_27 rfl) (hK _ _ H27.out.symm (Below.refl _ _)),
          fun ac W hb hold hdep K hK => op_u (u := .slice (some ad) N c) rfl (r_load 27 _ rfl (eval_tmp ((dep_val (hdep ⟨2, .data⟩ (by simp) rfl 27 rfl)).trans (congrArg some H27.out))) (blk_cell (HN1.out.below (HW.out.trans (hb.mono HW.out.size)) HN1.out.lt) 18 HC18.out) Tryz.underlying27 rfl) (hK _ _ H28.out.symm (Below.refl _ _)),
          fun ac W hb hold hdep K hK => op_u (u := .int .i64 (k : Int)) rfl (r_move _ rfl (eval_tmp ((hold 4 (free_slot (by as_aux_lemma => kernel_rfl))).trans rfl))) (hK _ _ H29.out.symm (Below.refl _ _)),
          fun ac W hb hold hdep K hK => op_u (u := .pointer (some (ad.add (k * 19)))) rfl (r_index 27 _ _ rfl (eval_tmp ((dep_val (hdep ⟨3, .data⟩ (by simp) rfl 28 rfl)).trans (congrArg some H28.out))) (eval_tmp ((dep_val (hdep ⟨4, .data⟩ (by simp) rfl 29 rfl)).trans (congrArg some H29.out))) hkn Tryz.underlying27 isz_29 rfl) (hK _ _ H30.out.symm (Below.refl _ _)),
          fun ac W hb hold hdep K hK => op_u (u := .pointer (some (ad.add (k * 19)))) rfl (r_field 29 _ 0 rfl (eval_tmp ((dep_val (hdep ⟨5, .data⟩ (by simp) rfl 30 rfl)).trans (congrArg some H30.out))) Tryz.underlying29 rfl (n := 0) isz_21 rfl) (hK _ _ H31.out.symm (Below.refl _ _)),
          fun ac W hb hold hdep K hK => op_u (u := .int .i32 xt) rfl (r_load 21 _ rfl (eval_tmp ((dep_val (hdep ⟨6, .data⟩ (by simp) rfl 31 rfl)).trans (congrArg some H31.out))) (HX0.out W hb) Tryz.underlying21 rfl) (hK _ _ H32.out.symm (Below.refl _ _)),
          fun ac W hb hold hdep K hK => op_call (u := .bool mb) (c := true) (want_free rfl) 75 _ _ rfl (#[.int .i32 f.t, .int .i32 xt]) (fun hc => by simp [(eval_tmp ((dep_val (hdep ⟨1, .data⟩ (by simp) rfl 26 rfl)).trans (congrArg some H26.out))), (eval_tmp ((dep_val (hdep ⟨7, .data⟩ (by simp) rfl 32 rfl)).trans (congrArg some H32.out)))]) Tryz.func75 (by as_aux_lemma => kernel_rfl) (by as_aux_lemma => kernel_rfl) (fun hc => HM.out W) (fun w' hbl => hK _ _ H33.out.symm hbl),
          fun ac W hb hold hdep K hK => op_u (u := .bool (!mb)) rfl (r_not _ _ rfl (eval_tmp ((dep_val (hdep ⟨8, .data⟩ (by simp) rfl 33 rfl)).trans (congrArg some H33.out)))) (hK _ _ rfl (Below.refl _ _)), trivial⟩ ?_
        intro w3 hb3
        simp only [Fin, Act.put, List.setIfInBounds_toArray, List.set_cons_zero, List.set_cons_succ]
        clear H25 H26 H27 H28 H29 H30 H31 H32 H33
        have HB23 := Lib.hid hb3
        clear hb3
        cases mb
        · have HK2 : Hid (allL f.t S = 110) := hk'
          clear hk'
          go_wp2
          go_ret
          rw [HK2.out]
          exact ⟨rfl, (HB1.out.trans (HW.out.mono HB1.out.size)).trans (HB23.out.mono (Nat.le_trans HB1.out.size HW.out.size))⟩
        · rw [if_neg (by decide)] at hk'
          have HR3 := Lib.hid (HROWS.out _ HB23.out)
          have c18s := blk_cell ((HN1.out.below HW.out HN1.out.lt).below HB23.out (Nat.lt_of_lt_of_le HN1.out.lt HW.out.size)) 18 HC18.out
          by_cases hxe : xe = 0
          · rw [if_neg (by simpa using hxe)] at hk'
            have HK2 := Lib.hid hk'
            subst hxe
            clear hk' HK
            go_wp2_with (first
              | (refine wpList_load_at (by rfl) 29 (.tmp 38) rfl (ad.add (k * 19)) rfl xc _ HR3.out.cells Tryz.underlying29 rfl HR3.out.info ?_)
              | (go_at_call 34
                 refine (HIK.out _ HB23.out).mono ?_
                 rintro e w5 ⟨rfl, hb⟩
                 have HW3 : Hid (Below w1.heap.size w1 w5) := (HW.out.trans (HB23.out.mono HW.out.size)).trans (hb.mono (Nat.le_trans HW.out.size HB23.out.size))
                 clear hb))
            go_roundw
            case rel => exact ⟨k + 1, by omega, by go_num, HK2.out, HW3.out⟩
            case measure => simp [intOf]; omega
          · rw [if_pos hxe] at hk'
            have HK2 := Lib.hid hk'
            have hxb : (xe != 0) = true := by simpa using hxe
            clear hk' HK hxe
            go_wp2_with (first
              | (refine wpList_load_at (by rfl) 29 (.tmp 38) rfl (ad.add (k * 19)) rfl xc _ HR3.out.cells Tryz.underlying29 rfl HR3.out.info ?_)
              | (go_at_call 34
                 refine (HIK.out _ HB23.out).mono ?_
                 rintro e w5 ⟨rfl, hb⟩
                 have HW3 : Hid (Below w1.heap.size w1 w5) := (HW.out.trans (HB23.out.mono HW.out.size)).trans (hb.mono (Nat.le_trans HW.out.size HB23.out.size))
                 clear hb))
            go_ret
            rw [HK2.out]
            exact ⟨rfl, HB1.out.trans (HW3.out.mono HB1.out.size)⟩
      · have hkk : k = N := by omega
        subst hkk
        have HK2 : Hid (allL f.t S = 0) := by
          have h := HK.out
          rwa [List.drop_eq_nil_of_le (by rw [HSQ.out, List.length_map, HSL.out]; exact Nat.le_refl _), allL] at h
        have HBW : Hid (Below w.heap.size w wr) := HB1.out.trans (HW.out.mono HB1.out.size)
        clear HK
        go_wp2
        go_ret
        rw [HK2.out]
        exact ⟨rfl, HBW.out⟩
end Go.Proofs.YtpjjnmdfgcfnmaaGreatDoor
