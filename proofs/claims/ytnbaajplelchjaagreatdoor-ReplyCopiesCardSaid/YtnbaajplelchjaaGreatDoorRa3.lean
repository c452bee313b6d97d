/- slices.EqualFunc of results. (printed by gen_ra3.py) -/
import Derived.Test.YtnbaajplelchjaaGreatDoorRu
set_option linter.unusedVariables false
set_option linter.unusedSimpArgs false
namespace Go.Proofs.YtnbaajplelchjaaGreatDoor
open Go.RowKit

theorem enter_fn {P : Program} {f : FuncId} {fn : Func} (hf : P.funcs[f]? = some fn) (hn : (fn.name == "runtime.NumGoroutine") = false) (hb : fn.body.isNone = false) : ∀ (args : Array Value) (W : World), (callFunc f args).run P W = .ok (.enter f args) W := fun _ _ => by
  have hn' : ¬ fn.name = "runtime.NumGoroutine" := by simpa using hn
  have hb' : ¬ fn.body = none := fun h => by rw [h] at hb; cases hb
  simp [callFunc, hf, hn', hb']
set_option maxRecDepth 100000 in
set_option maxHeartbeats 8000000 in
theorem eqFunc_walk {w : World} {n c c' : Nat} {A A' : Option Addr} {P Q : List (ResC × List Value)} (bs : Nat → Bool) (b : Bool) (hnP : P.length = n) (hnQ : Q.length = n) (hn : n ≤ 4611686018427387904) (rP : Reads w w.heap.size 22 A n (P.flatMap Prod.snd)) (rQ : Reads w w.heap.size 22 A' n (Q.flatMap Prod.snd))
    (aP : ∃ lo, ∀ q ∈ P, At w lo q.1 q.2) (aQ : ∃ lo, ∀ q ∈ Q, At w lo q.1 q.2)
    (hbs : ∀ j (h : j < P.length) (h' : j < Q.length), ∀ W, Below w.heap.size w W → Calls Tryz.prog 70 #[.agg (P[j]).2.toArray, .agg (Q[j]).2.toArray] W fun e w' => e = .returned (.bool (bs j)) ∧ Below W.heap.size W w')
    (hN : ∀ j, j < n → bs j = false → b = false) (hY : (∀ j, j < n → bs j = true) → b = true) :
    ∀ W, Below w.heap.size w W → Calls Tryz.prog 130 #[.slice A n c, .slice A' n c', .func (.func 70) #[] #[]] W fun e w' => e = .returned (.bool b) ∧ Below W.heap.size W w' := by
  intro W0 hW0
  have HENT := Lib.hid (enter_fn Tryz.func70 (by as_aux_lemma => kernel_rfl) (by as_aux_lemma => kernel_rfl))
  have HN0 := Lib.hid hN
  have HY := Lib.hid hY
  have HIH : Hid (∀ j (h : j < P.length) (h' : j < Q.length), ∀ W, Below W0.heap.size W0 W → Calls Tryz.prog 70 #[.agg (P[j]).2.toArray, .agg (Q[j]).2.toArray] W fun e w' => e = .returned (.bool (bs j)) ∧ Below W.heap.size W w') := fun j h h' W hW => hbs j h h' W (hW0.trans (hW.mono hW0.size))
  have HRP := Lib.hid ((rP.below hW0).more hW0.size)
  have HRQ := Lib.hid ((rQ.below hW0).more hW0.size)
  obtain ⟨lo, aP⟩ := aP
  obtain ⟨lo', aQ⟩ := aQ
  have HLP : Hid (∀ q ∈ P, At W0 lo q.1 q.2) := fun q hq => (aP q hq).later hW0
  have HLQ : Hid (∀ q ∈ Q, At W0 lo' q.1 q.2) := fun q hq => (aQ q hq).later hW0
  have HNP := Lib.hid hnP
  have HNQ := Lib.hid hnQ
  clear hN hY hbs rP rQ aP aQ hnP hnQ hW0
  go_enter Tryz.func130, Tryz.ntmps130
  go_wp2
  go_loopw [17] (fun k' wr => ∃ j : Nat, j ≤ n ∧ k' = .int .i64 (j : Int) ∧ Hid (∀ z, z < j → bs z = true) ∧ Hid (Below W0.heap.size W0 wr)) (fun k' _ => n - (intOf k').toNat)
  case atStart => exact ⟨0, Nat.zero_le _, rfl, (by intro z hz; omega), Below.refl _ _⟩
  case round =>
    obtain ⟨j, hj, rfl, HK, HBr⟩ := hrel
    by_cases hlt : j < n
    · have hj1 : j < P.length := by rw [HNP.out]; exact hlt
      have hj2 : j < Q.length := by rw [HNQ.out]; exact hlt
      obtain ⟨ad, hA, hr1⟩ := rowAt (HRP.out.below HBr.out) HLP.out hj1 HNP.out
      obtain ⟨ad', hA', hr2⟩ := rowAt (HRQ.out.below HBr.out) HLQ.out hj2 HNQ.out
      subst hA hA'
      have hc := HIH.out j hj1 hj2
      have HN := Lib.hid (HN0.out j hlt)
      obtain ⟨rc, hrc⟩ : ∃ r, r = (P[j]).2 := ⟨_, rfl⟩
      obtain ⟨rd, hrd⟩ : ∃ r, r = (Q[j]).2 := ⟨_, rfl⟩
      obtain ⟨bj, hbj⟩ : ∃ r, r = bs j := ⟨_, rfl⟩
      rw [← hrc] at hr1 hc
      rw [← hrd] at hr2 hc
      rw [← hbj] at hc HN
      have HBJ := Lib.hid hbj
      have HR1 := Lib.hid hr1
      have HR2 : Hid (∀ {W}, Below wr.heap.size wr W → ∀ k v, rd[k]? = some v → W.cell? ((ad'.add (j * 22)).add k) = some v) := fun {W} hW k v hk => by
        have h1 := hr2.cells k v hk
        have hlt' := cell_lt h1
        exact (hW.cell hlt').trans h1
      have HRZ := Lib.hid hr2
      have CJ : Hid (∀ W, Below wr.heap.size wr W → Calls Tryz.prog 70 #[.agg rc.toArray, .agg rd.toArray] W fun e w' => e = .returned (.bool bj) ∧ Below W.heap.size W w') := fun W hW => hc W (HBr.out.trans (hW.mono HBr.out.size))
      have hent := HENT.out
      clear hr1 hr2 hc hrc hrd hbj hj1 hj2
      go_wp2_with (first
        | (refine wpList_load_at (by rfl) 33 (.tmp 20) rfl (ad.add (j * 22)) rfl rc _ HR1.out.cells Tryz.underlying33 rfl HR1.out.info ?_)
        | ((with_reducible show wpList _ _ _ (Oper.mk (some 8) _ _ _ _ _ :: _) _ _)
           refine wpList_newrow1 rfl rfl rfl 33 rfl 8 rfl (.tmp 19) rfl 7 rfl (by decide) (.tmp 21) rfl rfl (.int .i64 (j : Int)) (fun _ => rfl) rc.toArray (fun _ => rfl) (show 8 < 32 by decide) HR1.out.zero HR1.out.infoA HR1.out.one ?_
           obtain ⟨w2, hw2⟩ : ∃ x, wr.alloc (.cells rc.toArray 33) = x := ⟨_, rfl⟩
           rw [hw2]
           have hb2 : Below wr.heap.size wr w2 := (by rw [← hw2]; exact (Below.refl _ _).alloc (Nat.le_refl _) _)
           have HB2 := Lib.hid hb2
           have HK2 : Hid (Blk w2 wr.heap.size 33 rc.toArray) := (by unfold Hid; rw [← hw2]; exact Blk.new _ _ _)
           clear hw2 hb2)
        | (refine wpList_load_at (by rfl) 33 (.tmp 24) rfl (ad'.add (j * 22)) rfl rd _ (HR2.out HB2.out) Tryz.underlying33 rfl HRZ.out.info ?_)
        | ((with_reducible show wpList _ _ _ (Oper.mk (some 9) _ _ _ _ _ :: _) _ _)
           refine wpList_newrow rfl rfl 33 rfl 9 rfl (.tmp 25) rfl rfl rd.toArray (fun _ => rfl) (show 9 < 32 by decide) HRZ.out.zero HRZ.out.infoA HRZ.out.one ?_
           obtain ⟨w3, hw3⟩ : ∃ x, w2.alloc (.cells rd.toArray 33) = x := ⟨_, rfl⟩
           rw [hw3]
           have hb3 : Below w2.heap.size w2 w3 := (by rw [← hw3]; exact (Below.refl _ _).alloc (Nat.le_refl _) _)
           have HK3 : Hid (Blk w3 wr.heap.size 33 rc.toArray) := HK2.out.below hb3 HK2.out.lt
           have HM3 : Hid (Blk w3 w2.heap.size 33 rd.toArray) := (by unfold Hid; rw [← hw3]; exact Blk.new _ _ _)
           have HB3 := Lib.hid (HB2.out.trans (hb3.mono HB2.out.size))
           clear hw3 hb3)
        | ((with_reducible show wpList _ _ _ (Oper.mk (some 27) _ _ _ _ _ :: _) _ _)
           refine wpList_load_row rfl 33 (.tmp 8) rfl wr.heap.size rfl 33 _ _ _ HK3.out Tryz.underlying33 rfl HR1.out.infoA ?_)
        | ((with_reducible show wpList _ _ _ (Oper.mk (some 28) _ _ _ _ _ :: _) _ _)
           refine wpList_load_row rfl 33 (.tmp 9) rfl w2.heap.size rfl 33 _ _ _ HM3.out Tryz.underlying33 rfl HRZ.out.infoA ?_)
        | (refine (CJ.out _ HB3.out).mono ?_
           rintro e w4 ⟨rfl, hb⟩
           have HB4 := Lib.hid (HBr.out.trans ((HB3.out.trans (hb.mono HB3.out.size)).mono HBr.out.size))
           clear hb
           refine Hid.out ?_))
      clear hent
      cases bj
      · have hbf : b = false := HN.out rfl
        subst hbf
        refine Lib.hid ?_
        go_wp2
        go_ret
        exact ⟨rfl, HB4.out⟩
      · have HK2' : Hid (∀ z, z < j + 1 → bs z = true) := fun z hz => by
          rcases (by omega : z < j ∨ z = j) with hz | rfl
          · exact HK.out z hz
          · exact HBJ.out.symm
        clear HN HBJ HK
        refine Lib.hid ?_
        go_wp2
        go_roundw
        case rel => exact ⟨j + 1, by omega, by go_num, HK2', HB4.out⟩
        case measure => simp [intOf]; omega
    · have hbt : b = true := HY.out (fun z hz => HK.out z (by omega))
      subst hbt
      clear HK
      go_wp2
      go_ret
      exact ⟨rfl, HBr.out⟩
set_option maxRecDepth 100000 in
theorem eqFunc_no {w : World} {n n' c c' : Nat} {A A' : Option Addr} (F : Value) (hn : n ≤ 4611686018427387904) (hn' : n' ≤ 4611686018427387904) (hne : n ≠ n') (W : World) :
    Calls Tryz.prog 130 #[.slice A n c, .slice A' n' c', F] W fun e w' => e = .returned (.bool false) ∧ Below W.heap.size W w' := by
  have h : ((n : Int) != (n' : Int)) = true := by simp; omega
  have h2 : ¬ (n : Int) = (n' : Int) := by omega
  clear hne
  go_enter Tryz.func130, Tryz.ntmps130
  go_wp2
  go_ret
  exact ⟨rfl, Below.refl _ _⟩
end Go.Proofs.YtnbaajplelchjaaGreatDoor
