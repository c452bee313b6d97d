/- The law's same: two lists of operations. (printed by gen_p32.py) -/
import Derived.Test.YtpjjnmdfgcfnmaaGreatDoorOq11
set_option linter.unusedVariables false
set_option linter.unusedSimpArgs false
namespace Go.Proofs.YtpjjnmdfgcfnmaaGreatDoor
open Go.RowKit

theorem map_at {P : List (OpC × List Value)} {xs : List OpC} (h : P.map Prod.fst = xs) {j : Nat} (hj : j < P.length) : xs[j]? = some (P[j]).1 := by
  rw [← h, List.getElem?_map, List.getElem?_eq_getElem hj]
  rfl
set_option maxRecDepth 100000 in
set_option maxHeartbeats 8000000 in
theorem samel_walk {w : World} {n c c' : Nat} {A A' : Option Addr} {P Q : List (OpC × List Value)} (bs : Nat → Bool) (b : Bool) (hnP : P.length = n) (hnQ : Q.length = n) (hn : n ≤ 4611686018427387904) (rP : Reads w w.heap.size 19 A n (P.flatMap Prod.snd)) (rQ : Reads w w.heap.size 19 A' n (Q.flatMap Prod.snd))
    (lP : ∀ q ∈ P, q.2.length = 19) (lQ : ∀ q ∈ Q, q.2.length = 19)
    (hbs : ∀ j (h : j < P.length) (h' : j < Q.length), ∀ W, Below w.heap.size w W → Calls Tryz.prog 15 #[.agg (P[j]).2.toArray, .agg (Q[j]).2.toArray] W fun e w' => e = .returned (.bool (bs j)) ∧ Below W.heap.size W w')
    (hN : ∀ j, j < n → bs j = false → b = false) (hY : (∀ j, j < n → bs j = true) → b = true) :
    ∀ W, Below w.heap.size w W → Calls Tryz.prog 18 #[.slice A n c, .slice A' n c'] W fun e w' => e = .returned (.bool b) ∧ Below W.heap.size W w' := by
  intro W0 hW0
  have HN0 := Lib.hid hN
  have HY := Lib.hid hY
  have HIH : Hid (∀ j (h : j < P.length) (h' : j < Q.length), ∀ W, Below W0.heap.size W0 W → Calls Tryz.prog 15 #[.agg (P[j]).2.toArray, .agg (Q[j]).2.toArray] W fun e w' => e = .returned (.bool (bs j)) ∧ Below W.heap.size W w') := fun j h h' W hW => hbs j h h' W (hW0.trans (hW.mono hW0.size))
  have HRP := Lib.hid ((rP.below hW0).more hW0.size)
  have HRQ := Lib.hid ((rQ.below hW0).more hW0.size)
  have HLP := Lib.hid lP
  have HLQ := Lib.hid lQ
  have HNP := Lib.hid hnP
  have HNQ := Lib.hid hnQ
  clear hN hY hbs rP rQ lP lQ hnP hnQ hW0
  go_enter Tryz.func18, Tryz.ntmps18
  go_wp2
  go_loopw [5] (fun k' wr => ∃ j : Nat, j ≤ n ∧ k' = .int .i64 (j : Int) ∧ Hid (∀ z, z < j → bs z = true) ∧ Hid (Below W0.heap.size W0 wr)) (fun k' _ => n - (intOf k').toNat)
  case atStart => exact ⟨0, Nat.zero_le _, rfl, (by intro z hz; omega), Below.refl _ _⟩
  case round =>
    obtain ⟨j, hj, rfl, HK, HBr⟩ := hrel
    by_cases hlt : j < n
    · have hj1 : j < P.length := by rw [HNP.out]; exact hlt
      have hj2 : j < Q.length := by rw [HNQ.out]; exact hlt
      obtain ⟨ad, hA, hr1⟩ := subs_cells (HRP.out.below HBr.out) HLP.out hj1 HNP.out
      obtain ⟨ad', hA', hr2⟩ := subs_cells (HRQ.out.below HBr.out) HLQ.out hj2 HNQ.out
      subst hA hA'
      have hl1 := HLP.out _ (List.getElem_mem hj1)
      have hl2 := HLQ.out _ (List.getElem_mem hj2)
      have hc := HIH.out j hj1 hj2
      have HN := Lib.hid (HN0.out j hlt)
      obtain ⟨rc, hrc⟩ : ∃ r, r = (P[j]).2 := ⟨_, rfl⟩
      obtain ⟨rd, hrd⟩ : ∃ r, r = (Q[j]).2 := ⟨_, rfl⟩
      obtain ⟨bj, hbj⟩ : ∃ r, r = bs j := ⟨_, rfl⟩
      rw [← hrc] at hr1 hl1 hc
      rw [← hrd] at hr2 hl2 hc
      rw [← hbj] at hc HN
      have HBJ := Lib.hid hbj
      have CR1 : Hid (∀ {W}, Below wr.heap.size wr W → ∀ k v, rc[k]? = some v → W.cell? ((ad.add (j * 19)).add k) = some v) := fun {W} hW k v hk => by
        have h1 := hr1 k v hk
        have hlt' := cell_lt h1
        exact (hW.cell hlt').trans h1
      have CR2 : Hid (∀ {W}, Below wr.heap.size wr W → ∀ k v, rd[k]? = some v → W.cell? ((ad'.add (j * 19)).add k) = some v) := fun {W} hW k v hk => by
        have h1 := hr2 k v hk
        have hlt' := cell_lt h1
        exact (hW.cell hlt').trans h1
      have ZR1 : Hid ((Tryz.prog.info? 29).map (·.size) = some rc.length) := by unfold Hid; rw [hl1]; exact isz_29
      have ZR2 : Hid ((Tryz.prog.info? 29).map (·.size) = some rd.length) := by unfold Hid; rw [hl2]; exact isz_29
      have CJ : Hid (∀ W, Below wr.heap.size wr W → Calls Tryz.prog 15 #[.agg rc.toArray, .agg rd.toArray] W fun e w' => e = .returned (.bool bj) ∧ Below W.heap.size W w') := fun W hW => hc W (HBr.out.trans (hW.mono HBr.out.size))
      clear hr1 hr2 hl1 hl2 hc hrc hrd hbj hj1 hj2
      go_wp2_with (fail)
      obtain ⟨x17, H17⟩ : ∃ x : Value, Hid (x = .slice (some ad) n c) := ⟨_, rfl⟩
      obtain ⟨x18, H18⟩ : ∃ x : Value, Hid (x = .int .i64 (j : Int)) := ⟨_, rfl⟩
      obtain ⟨x19, H19⟩ : ∃ x : Value, Hid (x = .pointer (some (ad.add (j * 19)))) := ⟨_, rfl⟩
      obtain ⟨x20, H20⟩ : ∃ x : Value, Hid (x = .agg rc.toArray) := ⟨_, rfl⟩
      obtain ⟨x21, H21⟩ : ∃ x : Value, Hid (x = .slice (some ad') n c') := ⟨_, rfl⟩
      obtain ⟨x22, H22⟩ : ∃ x : Value, Hid (x = .int .i64 (j : Int)) := ⟨_, rfl⟩
      obtain ⟨x23, H23⟩ : ∃ x : Value, Hid (x = .pointer (some (ad'.add (j * 19)))) := ⟨_, rfl⟩
      obtain ⟨x24, H24⟩ : ∃ x : Value, Hid (x = .agg rd.toArray) := ⟨_, rfl⟩
      obtain ⟨x25, H25⟩ : ∃ x : Value, Hid (x = .bool bj) := ⟨_, rfl⟩
      refine wp_region_ord (w0 := wr) (.inl x17 ::
    .inl x18 ::
    .inl x19 ::
    .inl x20 ::
    .inl x21 ::
    .inl x22 ::
    .inl x23 ::
    .inl x24 ::
    .inl x25 ::
    .inl (.bool (!bj)) :: []) rfl (by as_aux_lemma => kernel_rfl) (by as_aux_lemma => kernel_rfl) (by as_aux_lemma => kernel_rfl) (by as_aux_lemma => kernel_rfl) (nomono rfl) ⟨fun ac W hb hold hdep K hK => op_u (u := .slice (some ad) n c) rfl (r_move _ rfl (eval_tmp ((hold 0 (free_slot (by as_aux_lemma => kernel_rfl))).trans rfl))) (hK _ _ H17.out.symm (Below.refl _ _)),
        fun ac W hb hold hdep K hK => op_u (u := .int .i64 (j : Int)) rfl (r_move _ rfl (eval_tmp ((hold 5 (free_slot (by as_aux_lemma => kernel_rfl))).trans rfl))) (hK _ _ H18.out.symm (Below.refl _ _)),
        fun ac W hb hold hdep K hK => op_u (u := .pointer (some (ad.add (j * 19)))) rfl (r_index 27 _ _ rfl (eval_tmp ((dep_val (hdep ⟨0, .data⟩ (by simp) rfl 17 rfl)).trans (congrArg some H17.out))) (eval_tmp ((dep_val (hdep ⟨1, .data⟩ (by simp) rfl 18 rfl)).trans (congrArg some H18.out))) hlt Tryz.underlying27 isz_29 rfl) (hK _ _ H19.out.symm (Below.refl _ _)),
        fun ac W hb hold hdep K hK => op_u (u := .agg rc.toArray) rfl (r_load_row 29 _ rfl (eval_tmp ((dep_val (hdep ⟨2, .data⟩ (by simp) rfl 19 rfl)).trans (congrArg some H19.out))) rc (CR1.out hb) Tryz.underlying29 rfl ZR1.out) (hK _ _ H20.out.symm (Below.refl _ _)),
        fun ac W hb hold hdep K hK => op_u (u := .slice (some ad') n c') rfl (r_move _ rfl (eval_tmp ((hold 1 (free_slot (by as_aux_lemma => kernel_rfl))).trans rfl))) (hK _ _ H21.out.symm (Below.refl _ _)),
        fun ac W hb hold hdep K hK => op_u (u := .int .i64 (j : Int)) rfl (r_move _ rfl (eval_tmp ((hold 5 (free_slot (by as_aux_lemma => kernel_rfl))).trans rfl))) (hK _ _ H22.out.symm (Below.refl _ _)),
        fun ac W hb hold hdep K hK => op_u (u := .pointer (some (ad'.add (j * 19)))) rfl (r_index 27 _ _ rfl (eval_tmp ((dep_val (hdep ⟨4, .data⟩ (by simp) rfl 21 rfl)).trans (congrArg some H21.out))) (eval_tmp ((dep_val (hdep ⟨5, .data⟩ (by simp) rfl 22 rfl)).trans (congrArg some H22.out))) hlt Tryz.underlying27 isz_29 rfl) (hK _ _ H23.out.symm (Below.refl _ _)),
        fun ac W hb hold hdep K hK => op_u (u := .agg rd.toArray) rfl (r_load_row 29 _ rfl (eval_tmp ((dep_val (hdep ⟨6, .data⟩ (by simp) rfl 23 rfl)).trans (congrArg some H23.out))) rd (CR2.out hb) Tryz.underlying29 rfl ZR2.out) (hK _ _ H24.out.symm (Below.refl _ _)),
        fun ac W hb hold hdep K hK => op_call (u := .bool bj) (c := true) (want_free rfl) 15 _ _ rfl (#[.agg rc.toArray, .agg rd.toArray]) (fun hc => by simp [(eval_tmp ((dep_val (hdep ⟨3, .data⟩ (by simp) rfl 20 rfl)).trans (congrArg some H20.out))), (eval_tmp ((dep_val (hdep ⟨7, .data⟩ (by simp) rfl 24 rfl)).trans (congrArg some H24.out)))]) Tryz.func15 (by as_aux_lemma => kernel_rfl) (by as_aux_lemma => kernel_rfl) (fun hc => CJ.out W hb) (fun w' hbl => hK _ _ H25.out.symm hbl),
        fun ac W hb hold hdep K hK => op_u (u := .bool (!bj)) rfl (r_not _ _ rfl (eval_tmp ((dep_val (hdep ⟨8, .data⟩ (by simp) rfl 25 rfl)).trans (congrArg some H25.out)))) (hK _ _ rfl (Below.refl _ _)), trivial⟩ ?_
      intro w3 hb3
      simp only [Fin, Act.put, List.setIfInBounds_toArray, List.set_cons_zero, List.set_cons_succ]
      clear H17 H18 H19 H20 H21 H22 H23 H24 H25
      have HB3 := Lib.hid (HBr.out.trans (hb3.mono HBr.out.size))
      clear hb3
      cases bj
      · have hbf : b = false := HN.out rfl
        subst hbf
        go_wp2
        go_ret
        exact ⟨rfl, HB3.out⟩
      · have HK2 : Hid (∀ z, z < j + 1 → bs z = true) := fun z hz => by
          rcases (by omega : z < j ∨ z = j) with hz | rfl
          · exact HK.out z hz
          · exact HBJ.out.symm
        clear HN HBJ HK
        go_wp2
        go_roundw
        case rel => exact ⟨j + 1, by omega, by go_num, HK2, HB3.out⟩
        case measure => simp [intOf]; omega
    · have hbt : b = true := HY.out (fun z hz => HK.out z (by omega))
      subst hbt
      clear HK
      go_wp2
      go_ret
      exact ⟨rfl, HBr.out⟩
set_option maxRecDepth 100000 in
theorem samel_no {w : World} {n n' c c' : Nat} {A A' : Option Addr} (hn : n ≤ 4611686018427387904) (hn' : n' ≤ 4611686018427387904) (hne : n ≠ n') (W : World) :
    Calls Tryz.prog 18 #[.slice A n c, .slice A' n' c'] W fun e w' => e = .returned (.bool false) ∧ Below W.heap.size W w' := by
  have h : ((n : Int) != (n' : Int)) = true := by simp; omega
  have h2 : ¬ (n : Int) = (n' : Int) := by omega
  clear hne
  go_enter Tryz.func18, Tryz.ntmps18
  go_wp2
  go_ret
  exact ⟨rfl, Below.refl _ _⟩
/-- are two lists of operations the same? -/
theorem samel_any {w : World} {lo lo' : Option Nat} {s s' : Sl} {P Q : List (OpC × List Value)} (hP : SlAt w lo 29 19 296 s P.length (P.flatMap Prod.snd)) (aP : ∀ q ∈ P, At w lo q.1 q.2) (hQ : SlAt w lo' 29 19 296 s' Q.length (Q.flatMap Prod.snd)) (aQ : ∀ q ∈ Q, At w lo' q.1 q.2) :
    ∃ b : Bool, (b = true ↔ P.map Prod.fst = Q.map Prod.fst) ∧ ∀ W, Below w.heap.size w W → Calls Tryz.prog 18 #[s.v, s'.v] W fun e w' => e = .returned (.bool b) ∧ Below W.heap.size W w' := by
  obtain ⟨A, n, c⟩ := s
  obtain ⟨A', n', c'⟩ := s'
  have hn : P.length = n := hP.len
  have hn' : Q.length = n' := hQ.len
  have b1 : n ≤ 4611686018427387904 := hP.bd (by decide)
  have b2 : n' ≤ 4611686018427387904 := hQ.bd (by decide)
  by_cases hne : n = n'
  rotate_left
  · refine ⟨false, ⟨(fun h => by cases h), fun h => ?_⟩, fun W _ => samel_no (w := w) b1 b2 hne W⟩
    have := congrArg List.length h
    rw [List.length_map, List.length_map] at this
    omega
  subst hne
  have hbs : ∀ j, ∃ bj : Bool, ∀ (h : j < P.length) (h' : j < Q.length), (bj = true ↔ (P[j]).1 = (Q[j]).1) ∧ ∀ W, Below w.heap.size w W → Calls Tryz.prog 15 #[.agg (P[j]).2.toArray, .agg (Q[j]).2.toArray] W fun e w' => e = .returned (.bool bj) ∧ Below W.heap.size W w' := by
    intro j
    by_cases h : j < P.length ∧ j < Q.length
    · obtain ⟨bj, h1, h2⟩ := same_any (aP _ (List.getElem_mem h.1)) (aQ _ (List.getElem_mem h.2))
      exact ⟨bj, fun _ _ => ⟨h1, h2⟩⟩
    · exact ⟨true, fun h1 h2 => absurd ⟨h1, h2⟩ h⟩
  obtain ⟨bs, hbs⟩ := Classical.axiomOfChoice hbs
  obtain ⟨b, hb⟩ : ∃ b : Bool, (b = true ↔ P.map Prod.fst = Q.map Prod.fst) := ⟨@decide (P.map Prod.fst = Q.map Prod.fst) (Classical.propDecidable _), @decide_eq_true_iff _ (Classical.propDecidable _)⟩
  refine ⟨b, hb, samel_walk (n := n) bs b hn hn' b1 hP.reads hQ.reads (fun q hq => (aP q hq).len) (fun q hq => (aQ q hq).len) (fun j h h' => (hbs j h h').2) (fun j hj hf => ?_) (fun hall => ?_)⟩
  · cases hbb : b
    · rfl
    · exfalso
      have e := hb.1 hbb
      have h1 : j < P.length := by omega
      have h2 : j < Q.length := by omega
      have e1 := map_at e h1
      have e2 := map_at (P := Q) rfl h2
      rw [e2] at e1
      injection e1 with e1
      have := (hbs j h1 h2).1.2 e1.symm
      rw [hf] at this
      cases this
  · refine hb.2 (List.ext_getElem? fun j => ?_)
    by_cases h1 : j < P.length
    · have h2 : j < Q.length := by omega
      rw [map_at (P := P) rfl h1, map_at (P := Q) rfl h2, (hbs j h1 h2).1.1 (hall j (by omega))]
    · rw [List.getElem?_eq_none (by rw [List.length_map]; omega), List.getElem?_eq_none (by rw [List.length_map]; omega)]
end Go.Proofs.YtpjjnmdfgcfnmaaGreatDoor
