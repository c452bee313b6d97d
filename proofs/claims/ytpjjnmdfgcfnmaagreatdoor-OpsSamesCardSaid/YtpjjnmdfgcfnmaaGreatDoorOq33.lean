/- ops.Same: whether the contents are the same; slices.EqualFunc of operations. -/
import Derived.Test.YtpjjnmdfgcfnmaaGreatDoorOq11
import Derived.Test.YtpjjnmdfgcfnmaaGreatDoorOqd
set_option linter.unusedVariables false
set_option linter.unusedSimpArgs false
namespace Go.Proofs.YtpjjnmdfgcfnmaaGreatDoor
open Go.RowKit

theorem at_map {P : List (OpC × List Value)} {xs : List OpC} (h : P.map Prod.fst = xs) {j : Nat} (hj : j < P.length) : xs[j]? = some (P[j]).1 := by
  rw [← h, List.getElem?_map, List.getElem?_eq_getElem hj]
  rfl
theorem plainB_eq {f g : OpF} : plainB f g = true ↔ f = g := by
  obtain ⟨t, p, l, L, fl, ve, wa, ct, by_, tl, zx, K0, K1, K2, K3, K4, to_, I⟩ := f
  obtain ⟨t', p', l', L', fl', ve', wa', ct', by_', tl', zx', K0', K1', K2', K3', K4', to_', I'⟩ := g
  unfold plainB OpF.lists
  simp only [Bool.and_eq_true, beq_iff_eq, decide_eq_true_eq, toL_iff, OpF.mk.injEq, List.cons.injEq, and_true]
  constructor
  · rintro ⟨⟨⟨⟨⟨⟨⟨⟨⟨⟨⟨⟨⟨h1, h2⟩, h3⟩, h4⟩, h5⟩, h6⟩, h7⟩, h8⟩, h9⟩, h10⟩, h11⟩, h12⟩, h13⟩, h14, h15, h16, h17, h18⟩
    exact ⟨h1, h2, h3, h4, h5, h6, h7, h8, h9, h12, h13, h14, h15, h16, h17, h18, h10, h11⟩
  · rintro ⟨h1, h2, h3, h4, h5, h6, h7, h8, h9, h12, h13, h14, h15, h16, h17, h18, h10, h11⟩
    exact ⟨⟨⟨⟨⟨⟨⟨⟨⟨⟨⟨⟨⟨h1, h2⟩, h3⟩, h4⟩, h5⟩, h6⟩, h7⟩, h8⟩, h9⟩, h10⟩, h11⟩, h12⟩, h13⟩, h14, h15, h16, h17, h18⟩
set_option maxRecDepth 100000 in
set_option maxHeartbeats 8000000 in
theorem eqFunc_walk {w : World} {n c c' : Nat} {A A' : Option Addr} {P Q : List (OpC × List Value)} (bs : Nat → Bool) (b : Bool) (hnP : P.length = n) (hnQ : Q.length = n) (hn : n ≤ 4611686018427387904) (rP : Reads w w.heap.size 19 A n (P.flatMap Prod.snd)) (rQ : Reads w w.heap.size 19 A' n (Q.flatMap Prod.snd))
    (aP : ∃ lo, ∀ q ∈ P, At w lo q.1 q.2) (aQ : ∃ lo, ∀ q ∈ Q, At w lo q.1 q.2)
    (hbs : ∀ j (h : j < P.length) (h' : j < Q.length), ∀ W, Below w.heap.size w W → Calls Tryz.prog 29 #[.agg (P[j]).2.toArray, .agg (Q[j]).2.toArray] W fun e w' => e = .returned (.bool (bs j)) ∧ Below W.heap.size W w')
    (hN : ∀ j, j < n → bs j = false → b = false) (hY : (∀ j, j < n → bs j = true) → b = true) :
    ∀ W, Below w.heap.size w W → Calls Tryz.prog 65 #[.slice A n c, .slice A' n c', .func (.func 29) #[] #[]] W fun e w' => e = .returned (.bool b) ∧ Below W.heap.size W w' := by
  intro W0 hW0
  have HENT := Lib.hid (enter_fn Tryz.func29 (by as_aux_lemma => kernel_rfl) (by as_aux_lemma => kernel_rfl))
  have HN0 := Lib.hid hN
  have HY := Lib.hid hY
  have HIH : Hid (∀ j (h : j < P.length) (h' : j < Q.length), ∀ W, Below W0.heap.size W0 W → Calls Tryz.prog 29 #[.agg (P[j]).2.toArray, .agg (Q[j]).2.toArray] W fun e w' => e = .returned (.bool (bs j)) ∧ Below W.heap.size W w') := fun j h h' W hW => hbs j h h' W (hW0.trans (hW.mono hW0.size))
  have HRP := Lib.hid ((rP.below hW0).more hW0.size)
  have HRQ := Lib.hid ((rQ.below hW0).more hW0.size)
  obtain ⟨lo, aP⟩ := aP
  obtain ⟨lo', aQ⟩ := aQ
  have HLP : Hid (∀ q ∈ P, At W0 lo q.1 q.2) := fun q hq => (aP q hq).later hW0
  have HLQ : Hid (∀ q ∈ Q, At W0 lo' q.1 q.2) := fun q hq => (aQ q hq).later hW0
  have HNP := Lib.hid hnP
  have HNQ := Lib.hid hnQ
  clear hN hY hbs rP rQ aP aQ hnP hnQ hW0
  go_enter Tryz.func65, Tryz.ntmps65
  go_wp2
  go_loopw [17] (fun k' wr => ∃ j : Nat, j ≤ n ∧ k' = .int .i64 (j : Int) ∧ Hid (∀ z, z < j → bs z = true) ∧ Hid (Below W0.heap.size W0 wr)) (fun k' _ => n - (intOf k').toNat)
  case atStart => exact ⟨0, Nat.zero_le _, rfl, (by intro z hz; omega), Below.refl _ _⟩
  case round =>
    obtain ⟨j, hj, rfl, HK, HBr⟩ := hrel
    by_cases hlt : j < n
    · have hj1 : j < P.length := by rw [HNP.out]; exact hlt
      have hj2 : j < Q.length := by rw [HNQ.out]; exact hlt
      obtain ⟨ad, hA, hr1⟩ := rowAt (HRP.out.below HBr.out) HLP.out hj1 HNP.out
      obtain ⟨ad', hA', hr2⟩ := rowAt (HRQ.out.below HBr.out) HLQ.out hj2 HNQ.out
      subst hA hA'
      have hc := HIH.out j hj1 hj2
      have HN := Lib.hid (HN0.out j hlt)
      obtain ⟨rc, hrc⟩ : ∃ r, r = (P[j]).2 := ⟨_, rfl⟩
      obtain ⟨rd, hrd⟩ : ∃ r, r = (Q[j]).2 := ⟨_, rfl⟩
      obtain ⟨bj, hbj⟩ : ∃ r, r = bs j := ⟨_, rfl⟩
      rw [← hrc] at hr1 hc
      rw [← hrd] at hr2 hc
      rw [← hbj] at hc HN
      have HBJ := Lib.hid hbj
      have HR1 := Lib.hid hr1
      have HR2 : Hid (∀ {W}, Below wr.heap.size wr W → ∀ k v, rd[k]? = some v → W.cell? ((ad'.add (j * 19)).add k) = some v) := fun {W} hW k v hk => by
        have h1 := hr2.cells k v hk
        have hlt' := cell_lt h1
        exact (hW.cell hlt').trans h1
      have HRZ := Lib.hid hr2
      have CJ : Hid (∀ W, Below wr.heap.size wr W → Calls Tryz.prog 29 #[.agg rc.toArray, .agg rd.toArray] W fun e w' => e = .returned (.bool bj) ∧ Below W.heap.size W w') := fun W hW => hc W (HBr.out.trans (hW.mono HBr.out.size))
      have hent := HENT.out
      clear hr1 hr2 hc hrc hrd hbj hj1 hj2
      go_wp2_with (first
        | (refine wpList_load_at (by rfl) 29 (.tmp 20) rfl (ad.add (j * 19)) rfl rc _ HR1.out.cells Tryz.underlying29 rfl HR1.out.info ?_)
        | ((with_reducible show wpList _ _ _ (Oper.mk (some 8) _ _ _ _ _ :: _) _ _)
           refine wpList_newrow1 rfl rfl rfl 29 rfl 8 rfl (.tmp 19) rfl 7 rfl (by decide) (.tmp 21) rfl rfl (.int .i64 (j : Int)) (fun _ => rfl) rc.toArray (fun _ => rfl) (show 8 < 32 by decide) HR1.out.zero HR1.out.infoA HR1.out.one ?_
           obtain ⟨w2, hw2⟩ : ∃ x, wr.alloc (.cells rc.toArray 29) = x := ⟨_, rfl⟩
           rw [hw2]
           have hb2 : Below wr.heap.size wr w2 := (by rw [← hw2]; exact (Below.refl _ _).alloc (Nat.le_refl _) _)
           have HB2 := Lib.hid hb2
           have HK2 : Hid (Blk w2 wr.heap.size 29 rc.toArray) := (by unfold Hid; rw [← hw2]; exact Blk.new _ _ _)
           clear hw2 hb2)
        | (refine wpList_load_at (by rfl) 29 (.tmp 24) rfl (ad'.add (j * 19)) rfl rd _ (HR2.out HB2.out) Tryz.underlying29 rfl HRZ.out.info ?_)
        | ((with_reducible show wpList _ _ _ (Oper.mk (some 9) _ _ _ _ _ :: _) _ _)
           refine wpList_newrow rfl rfl 29 rfl 9 rfl (.tmp 25) rfl rfl rd.toArray (fun _ => rfl) (show 9 < 32 by decide) HRZ.out.zero HRZ.out.infoA HRZ.out.one ?_
           obtain ⟨w3, hw3⟩ : ∃ x, w2.alloc (.cells rd.toArray 29) = x := ⟨_, rfl⟩
           rw [hw3]
           have hb3 : Below w2.heap.size w2 w3 := (by rw [← hw3]; exact (Below.refl _ _).alloc (Nat.le_refl _) _)
           have HK3 : Hid (Blk w3 wr.heap.size 29 rc.toArray) := HK2.out.below hb3 HK2.out.lt
           have HM3 : Hid (Blk w3 w2.heap.size 29 rd.toArray) := (by unfold Hid; rw [← hw3]; exact Blk.new _ _ _)
           have HB3 := Lib.hid (HB2.out.trans (hb3.mono HB2.out.size))
           clear hw3 hb3)
        | ((with_reducible show wpList _ _ _ (Oper.mk (some 27) _ _ _ _ _ :: _) _ _)
           refine wpList_load_row rfl 29 (.tmp 8) rfl wr.heap.size rfl 29 _ _ _ HK3.out Tryz.underlying29 rfl HR1.out.infoA ?_)
        | ((with_reducible show wpList _ _ _ (Oper.mk (some 28) _ _ _ _ _ :: _) _ _)
           refine wpList_load_row rfl 29 (.tmp 9) rfl w2.heap.size rfl 29 _ _ _ HM3.out Tryz.underlying29 rfl HRZ.out.infoA ?_)
        | (refine (CJ.out _ HB3.out).mono ?_
           rintro e w4 ⟨rfl, hb⟩
           have HB4 := Lib.hid (HBr.out.trans ((HB3.out.trans (hb.mono HB3.out.size)).mono HBr.out.size))
           clear hb
           refine Hid.out ?_))
      clear hent
      cases bj
      · have hbf : b = false := HN.out rfl
        subst hbf
        refine Lib.hid ?_
        go_wp2
        go_ret
        exact ⟨rfl, HB4.out⟩
      · have HK2' : Hid (∀ z, z < j + 1 → bs z = true) := fun z hz => by
          rcases (by omega : z < j ∨ z = j) with hz | rfl
          · exact HK.out z hz
          · exact HBJ.out.symm
        clear HN HBJ HK
        refine Lib.hid ?_
        go_wp2
        go_roundw
        case rel => exact ⟨j + 1, by omega, by go_num, HK2', HB4.out⟩
        case measure => simp [intOf]; omega
    · have hbt : b = true := HY.out (fun z hz => HK.out z (by omega))
      subst hbt
      clear HK
      go_wp2
      go_ret
      exact ⟨rfl, HBr.out⟩
set_option maxRecDepth 100000 in
theorem eqFunc_no {w : World} {n n' c c' : Nat} {A A' : Option Addr} (F : Value) (hn : n ≤ 4611686018427387904) (hn' : n' ≤ 4611686018427387904) (hne : n ≠ n') (W : World) :
    Calls Tryz.prog 65 #[.slice A n c, .slice A' n' c', F] W fun e w' => e = .returned (.bool false) ∧ Below W.heap.size W w' := by
  have h : ((n : Int) != (n' : Int)) = true := by simp; omega
  have h2 : ¬ (n : Int) = (n' : Int) := by omega
  clear hne
  go_enter Tryz.func65, Tryz.ntmps65
  go_wp2
  go_ret
  exact ⟨rfl, Below.refl _ _⟩
/-- the call's walk, of two operations' rows -/
structure SameSt (w : World) (cs ds : Array Value) (W : World) : Prop where
  b0 : Below w.heap.size w W
  k0 : Blk W w.heap.size 29 cs
  k1 : Blk W (w.heap.size + 1) 29 ds
set_option maxRecDepth 100000 in
set_option maxHeartbeats 8000000 in
theorem opsSame_walk {w : World} {cs ds : List Value} {x y : OpC} {lo lo' : Option Nat} {s s' : Sl} (hx : At w lo x cs) (hy : At w lo' y ds) (h18 : cs[18]? = some s.v) (h18' : ds[18]? = some s'.v) (be b : Bool)
    (hp : ∀ W, Below w.heap.size w W → Calls Tryz.prog 64 #[.agg cs.toArray, .agg ds.toArray] W fun e w' => e = .returned (.bool (plainB x.f y.f)) ∧ Below W.heap.size W w')
    (hE : ∀ W, Below w.heap.size w W → Calls Tryz.prog 65 #[s.v, s'.v, .func (.func 29) #[] #[]] W fun e w' => e = .returned (.bool be) ∧ Below W.heap.size W w')
    (hb : b = (plainB x.f y.f && be)) : ∀ W, Below w.heap.size w W → Calls Tryz.prog 29 #[.agg cs.toArray, .agg ds.toArray] W fun e w' => e = .returned (.bool b) ∧ Below W.heap.size W w' := by
  intro W0 hW0
  have HP : Hid (∀ W, Below W0.heap.size W0 W → Calls Tryz.prog 64 #[.agg cs.toArray, .agg ds.toArray] W fun e w' => e = .returned (.bool (plainB x.f y.f)) ∧ Below W.heap.size W w') := fun W hW => hp W (hW0.trans (hW.mono hW0.size))
  have HE : Hid (∀ W, Below W0.heap.size W0 W → Calls Tryz.prog 65 #[s.v, s'.v, .func (.func 29) #[] #[]] W fun e w' => e = .returned (.bool be) ∧ Below W.heap.size W w') := fun W hW => hE W (hW0.trans (hW.mono hW0.size))
  have hl := hx.len
  have hl' := hy.len
  obtain ⟨cq, hcq⟩ : ∃ v, v = cs.toArray := ⟨_, rfl⟩
  obtain ⟨dq, hdq⟩ : ∃ v, v = ds.toArray := ⟨_, rfl⟩
  rw [← hcq, ← hdq] at HP ⊢
  have HI1 : Hid ((Tryz.prog.info? 29).map (·.size) = some cq.size) := by unfold Hid; rw [hcq, List.size_toArray, hl]; exact isz_29
  have HI2 : Hid ((Tryz.prog.info? 29).map (·.size) = some dq.size) := by unfold Hid; rw [hdq, List.size_toArray, hl']; exact isz_29
  obtain ⟨wa, hwa⟩ : ∃ v, W0.alloc (.cells cq 29) = v := ⟨_, rfl⟩
  have hba : Below W0.heap.size W0 wa := by rw [← hwa]; exact (Below.refl _ _).alloc (Nat.le_refl _) _
  have hka : Blk wa W0.heap.size 29 cq := by rw [← hwa]; exact Blk.new _ _ _
  have hza : wa.heap.size = W0.heap.size + 1 := by rw [← hwa]; simp
  obtain ⟨w1, hw1⟩ : ∃ v, wa.alloc (.cells dq 29) = v := ⟨_, rfl⟩
  have hb1 : Below wa.heap.size wa w1 := by rw [← hw1]; exact (Below.refl _ _).alloc (Nat.le_refl _) _
  have hkb : Blk w1 (W0.heap.size + 1) 29 dq := by
    have : Blk w1 wa.heap.size 29 dq := by rw [← hw1]; exact Blk.new _ _ _
    rwa [hza] at this
  have HB1 : Hid (Below W0.heap.size W0 w1) := hba.trans (hb1.mono hba.size)
  have HS1 : Hid (SameSt W0 cq dq w1) := ⟨HB1.out, hka.below hb1 hka.lt, hkb⟩
  have HC1 : Hid (cq[18]? = some s.v) := by unfold Hid; rw [hcq]; simpa using h18
  have HC2 : Hid (dq[18]? = some s'.v) := by unfold Hid; rw [hdq]; simpa using h18'
  obtain ⟨pb, hpb⟩ : ∃ v, v = plainB x.f y.f := ⟨_, rfl⟩
  rw [← hpb] at HP hb
  have HBB := Lib.hid hb
  obtain ⟨sA, sn, sc⟩ := s
  obtain ⟨sA', sn', sc'⟩ := s'
  unfold Sl.v at HE HC1 HC2
  dsimp only at HE HC1 HC2
  clear hx hy h18 h18' hp hE hb hl hl' hcq hdq hba hka hb1 hkb hpb hW0
  cases pb
  · have hbf : b = false := by rw [HBB.out]; rfl
    subst hbf
    clear HBB
    go_enter Tryz.func29, Tryz.ntmps29
    go_wp2_with (first
      | ((with_reducible show wpList _ _ _ (Oper.mk (some 5) _ _ _ _ _ :: _) _ _)
         refine wpList_load_row rfl 29 (.tmp 2) rfl W0.heap.size rfl 29 _ _ _ HS1.out.k0 Tryz.underlying29 rfl HI1.out ?_)
      | ((with_reducible show wpList _ _ _ (Oper.mk (some 6) _ _ _ _ _ :: _) _ _)
         refine wpList_load_row rfl 29 (.tmp 3) rfl (W0.heap.size + 1) rfl 29 _ _ _ HS1.out.k1 Tryz.underlying29 rfl HI2.out ?_)
      | (go_at_call 64
         refine (HP.out _ HB1.out).mono ?_
         rintro e w2 ⟨rfl, hb⟩
         have HB2 := Lib.hid (HB1.out.trans (hb.mono HB1.out.size))
         clear hb))
    go_ret
    exact ⟨rfl, HB2.out⟩
  · have hbe : b = be := by rw [HBB.out]; rfl
    subst hbe
    clear HBB
    go_enter Tryz.func29, Tryz.ntmps29
    go_wp2_with (first
      | ((with_reducible show wpList _ _ _ (Oper.mk (some 5) _ _ _ _ _ :: _) _ _)
         refine wpList_load_row rfl 29 (.tmp 2) rfl W0.heap.size rfl 29 _ _ _ HS1.out.k0 Tryz.underlying29 rfl HI1.out ?_)
      | ((with_reducible show wpList _ _ _ (Oper.mk (some 6) _ _ _ _ _ :: _) _ _)
         refine wpList_load_row rfl 29 (.tmp 3) rfl (W0.heap.size + 1) rfl 29 _ _ _ HS1.out.k1 Tryz.underlying29 rfl HI2.out ?_)
      | (go_at_call 64
         refine (HP.out _ HB1.out).mono ?_
         rintro e w2 ⟨rfl, hb⟩
         have HB2 := Lib.hid (HB1.out.trans (hb.mono HB1.out.size))
         have c0 := blk_cell (HS1.out.k0.below hb HS1.out.k0.lt) 18 HC1.out
         have c1 := blk_cell (HS1.out.k1.below hb HS1.out.k1.lt) 18 HC2.out
         clear hb)
      | (go_at_call 65
         refine (HE.out _ HB2.out).mono ?_
         rintro e w3 ⟨rfl, hb⟩
         have HB3 := Lib.hid (HB2.out.trans (hb.mono HB2.out.size))
         clear hb))
    go_ret
    exact ⟨by cases b <;> rfl, HB3.out⟩
/-- ops.Same: whether the contents are the same -/
theorem opsSame_any {w : World} {lo : Option Nat} {x : OpC} {cs : List Value} (hx : At w lo x cs) : ∀ {lo' : Option Nat} {y : OpC} {ds : List Value}, At w lo' y ds →
    ∃ b : Bool, (b = true ↔ x = y) ∧ ∀ W, Below w.heap.size w W → Calls Tryz.prog 29 #[.agg cs.toArray, .agg ds.toArray] W fun e w' => e = .returned (.bool b) ∧ Below W.heap.size W w' := by
  induction hx with
  | mk f d a k0 k1 k2 k3 k4 i s Q ok hd ha hk0 hk1 hk2 hk3 hk4 hi hs hQ ih =>
    intro lo' y ds hy
    have hx : At w lo (.mk f (Q.map Prod.fst)) (f.row d a k0 k1 k2 k3 k4 i s) := .mk f d a k0 k1 k2 k3 k4 i s Q ok hd ha hk0 hk1 hk2 hk3 hk4 hi hs hQ
    have hy0 := hy
    cases hy with
    | mk g d' a' k0' k1' k2' k3' k4' i' s' Q' ok' hd' ha' hk0' hk1' hk2' hk3' hk4' hi' hs' hQ' =>
      have hbs : ∀ j, ∃ bj : Bool, ∀ (h : j < Q.length) (h' : j < Q'.length), (bj = true ↔ (Q[j]).1 = (Q'[j]).1) ∧ ∀ W, Below w.heap.size w W → Calls Tryz.prog 29 #[.agg (Q[j]).2.toArray, .agg (Q'[j]).2.toArray] W fun e w' => e = .returned (.bool bj) ∧ Below W.heap.size W w' := by
        intro j
        by_cases h : j < Q.length ∧ j < Q'.length
        · obtain ⟨bj, h1, h2⟩ := ih _ (List.getElem_mem h.1) (hQ' _ (List.getElem_mem h.2))
          exact ⟨bj, fun _ _ => ⟨h1, h2⟩⟩
        · exact ⟨true, fun h1 h2 => absurd ⟨h1, h2⟩ h⟩
      obtain ⟨bs, hbs⟩ := Classical.axiomOfChoice hbs
      obtain ⟨be, hbe⟩ : ∃ b : Bool, (b = true ↔ Q.map Prod.fst = Q'.map Prod.fst) := ⟨@decide (Q.map Prod.fst = Q'.map Prod.fst) (Classical.propDecidable _), @decide_eq_true_iff _ (Classical.propDecidable _)⟩
      have hlen := hs.len
      have hlen' := hs'.len
      have hbd := hs.bd (by decide)
      have hbd' := hs'.bd (by decide)
      have hE : ∀ W, Below w.heap.size w W → Calls Tryz.prog 65 #[s.v, s'.v, .func (.func 29) #[] #[]] W fun e w' => e = .returned (.bool be) ∧ Below W.heap.size W w' := by
        by_cases hne : s.n = s'.n
        rotate_left
        · intro W hW
          have hf : be = false := by
            cases hbb : be
            · rfl
            · have := congrArg List.length (hbe.1 hbb)
              rw [List.length_map, List.length_map] at this
              omega
          rw [hf]
          exact eqFunc_no (w := w) _ hbd hbd' hne W
        obtain ⟨sA, sn, sc⟩ := s
        obtain ⟨sA', sn', sc'⟩ := s'
        dsimp only at hlen hlen' hbd hbd' hne
        subst hne
        refine eqFunc_walk (n := sn) bs be hlen hlen' hbd hs.reads hs'.reads ⟨lo, hQ⟩ ⟨lo', hQ'⟩ (fun j h h' => (hbs j h h').2) (fun j hj hf => ?_) (fun hall => ?_)
        · cases hbb : be
          · rfl
          · exfalso
            have e := hbe.1 hbb
            have h1 : j < Q.length := by omega
            have h2 : j < Q'.length := by omega
            have e1 := at_map e h1
            have e2 := at_map (P := Q') rfl h2
            rw [e2] at e1
            injection e1 with e1
            have := (hbs j h1 h2).1.2 e1.symm
            rw [hf] at this
            cases this
        · refine hbe.2 (List.ext_getElem? fun j => ?_)
          by_cases h1 : j < Q.length
          · have h2 : j < Q'.length := by omega
            rw [at_map (P := Q) rfl h1, at_map (P := Q') rfl h2, (hbs j h1 h2).1.1 (hall j (by omega))]
          · rw [List.getElem?_eq_none (by rw [List.length_map]; omega), List.getElem?_eq_none (by rw [List.length_map]; omega)]
      refine ⟨plainB f g && be, ?_, opsSame_walk hx hy0 rfl rfl be _ ?_ hE rfl⟩
      · rw [Bool.and_eq_true, plainB_eq, hbe, OpC.mk.injEq]
      · intro W hW
        refine plain_any f g d a k0 k1 k2 k3 k4 i s d' a' k0' k1' k2' k3' k4' i' s' W ⟨hd.later hW, ha.later hW, hk0.later hW, hk1.later hW, hk2.later hW, hk3.later hW, hk4.later hW, hi.later hW⟩ ⟨hd'.later hW, ha'.later hW, hk0'.later hW, hk1'.later hW, hk2'.later hW, hk3'.later hW, hk4'.later hW, hi'.later hW⟩ _ _ rfl rfl
end Go.Proofs.YtpjjnmdfgcfnmaaGreatDoor
