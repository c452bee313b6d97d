/- arborref11.flat: the parts, their rows copied. -/
import Derived.Test.YtpjjnmdfgcfnmaaGreatDoorOcb
import Derived.Test.YtpjjnmdfgcfnmaaGreatDoorOc1
set_option linter.unusedVariables false
set_option linter.unusedSimpArgs false
namespace Go.Proofs.YtpjjnmdfgcfnmaaGreatDoor
open Go.RowKit

def RFlat (w0 W : World) (L : List OpC) (e : Ending) (w' : World) : Prop := ∃ (A : Option Addr) (c : Nat) (R : List (OpC × List Value)), e = .returned (.slice A R.length c) ∧ R.map Prod.fst = L ∧ w'.ownsRow W.heap.size 29 19 (.slice A R.length c) R.length (R.flatMap Prod.snd) ∧ (∀ q ∈ R, At w0 none q.1 q.2) ∧ Below W.heap.size W w'
set_option maxRecDepth 100000 in
set_option maxHeartbeats 8000000 in
theorem refFlat_any {w0 : World} {lo : Option Nat} {x : OpC} {xs : List Value} (h : At w0 lo x xs) : ∀ (w : World), x.nodes ≤ 1000000 → Below w0.heap.size w0 w →
    Calls Tryz.prog 39 #[.agg xs.toArray] w (RFlat w0 w x.flat) := by
  induction h with
  | mk f d a k0 k1 k2 k3 k4 i s Q ok hd ha hk0 hk1 hk2 hk3 hk4 hi hs hQ ih =>
    intro w hn hb0
    have hat : At w0 lo (.mk f (Q.map Prod.fst)) (f.row d a k0 k1 k2 k3 k4 i s) := .mk f d a k0 k1 k2 k3 k4 i s Q ok hd ha hk0 hk1 hk2 hk3 hk4 hi hs hQ
    have HAT := Lib.hid hat.any
    obtain ⟨cl, hcl⟩ : ∃ cl : List Value, cl = f.row d a k0 k1 k2 k3 k4 i s := ⟨_, rfl⟩
    rw [← hcl] at HAT ⊢
    obtain ⟨cs, hcs⟩ : ∃ cs : Array Value, cs = cl.toArray := ⟨_, rfl⟩
    rw [← hcs]
    obtain ⟨w1, hw1⟩ : ∃ w1, w.alloc (.cells cs 29) = w1 := ⟨_, rfl⟩
    have hz1 : w1.heap.size = w.heap.size + 1 := by rw [← hw1]; simp
    have HB1 : Hid (Below w.heap.size w w1) := by unfold Hid; rw [← hw1]; exact (Below.refl _ _).alloc (Nat.le_refl _) _
    have HN1 : Hid (Blk w1 w.heap.size 29 cs) := by unfold Hid; rw [← hw1]; exact Blk.new _ _ _
    have HC0 : Hid (cs[0]? = some (.int .i32 f.t)) := by unfold Hid; rw [hcs, hcl]; rfl
    have HC18 : Hid (cs[18]? = some (.slice s.A s.n s.c)) := by unfold Hid; rw [hcs, hcl]; rfl
    have HC19 : Hid (cs.size = 19) := by unfold Hid; rw [hcs, hcl]; rfl
    have HCS := Lib.hid hcs
    have HZ : Hid ((Tryz.prog.info? 29).map (·.size) = some cs.size) := by unfold Hid; rw [HC19.out]; exact isz_29
    have HR : Hid (Reads w w0.heap.size 19 s.A s.n (Q.flatMap Prod.snd)) := hs.reads.below hb0
    have HQA : Hid (∀ q ∈ Q, At w0 lo q.1 q.2) := hQ
    have HSL : Hid (Q.length = s.n) := hs.len
    have HIH := Lib.hid ih
    have HB0 := Lib.hid hb0
    have hlen : s.n ≤ 4611686018427387904 := hs.bd (by decide)
    obtain ⟨S, hS⟩ : ∃ S, S = Q.map Prod.fst := ⟨_, rfl⟩
    have HSQ := Lib.hid hS
    rw [← hS] at hn HAT ⊢
    have hnl : nodesL S + 1 ≤ 1000000 := by rwa [OpC.nodes] at hn
    have HNL := Lib.hid hnl
    have c0 := blk_cell HN1.out 0 HC0.out
    clear hcs hcl hat ih hs hd ha hk0 hk1 hk2 hk3 hk4 hi hQ ok hb0 hS hn hnl
    obtain ⟨A, N, c⟩ := s
    dsimp only at HR HSL hlen HC18
    rw [OpC.flat]
    by_cases ht : f.t = 14
    rotate_left
    · rw [if_neg ht]
      go_enter Tryz.func39, Tryz.ntmps39
      go_wp2_with (first
        | (refine wpList_load_row rfl 29 (.tmp 1) rfl w.heap.size rfl 29 _ _ _ HN1.out Tryz.underlying29 rfl HZ.out ?_)
        | (refine wpList_build1 rfl 27 29 (.tmp 8) rfl (.agg cs) rfl 19 Tryz.underlying27 isz_29 zer_op (by decide) HC19.out ?_
           obtain ⟨w2, hw2⟩ : ∃ w2, w1.alloc (.cells cs 29) = w2 := ⟨_, rfl⟩
           have hc2 : (Value.agg cs).cells = cs := rfl
           rw [hc2, hw2]
           have HB2 := hidT HB1 (newB hw2)
           have HK2 := Lib.hid (newK hw2)
           clear hw2 hc2))
      go_ret
      refine ⟨_, 1, [(.mk f S, cl)], rfl, rfl, ?_, ?_, HB2.out⟩
      · refine ⟨by simp [HAT.out.len], .inr ⟨w.heap.size + 1, 1, cs, rfl, by omega, (by rw [← hz1]; exact HK2.out), Nat.le_refl _, by decide, by rw [HC19.out], ?_⟩⟩
        simp [HCS.out]
        rw [List.take_of_length_le (by rw [HAT.out.len]; exact Nat.le_refl _)]
      · intro q hq
        rw [List.mem_singleton] at hq
        subst hq
        exact HAT.out
    · rw [if_pos ht]
      obtain ⟨i0, hi0, hz0, hzi1, hzi2⟩ := info_parts op_info
      go_enter Tryz.func39, Tryz.ntmps39
      go_wp2
      clear c0
      go_loopw [3, 4] (fun v3 vi wr => ∃ (k n' : Nat) (A' : Option Addr) (c' : Nat) (R' : List (OpC × List Value)), k ≤ N ∧ n' ≤ 1000000 ∧ v3 = .slice A' n' c' ∧ vi = .int .i64 (k : Int) ∧ Hid (n' = R'.length) ∧ Hid (R'.map Prod.fst ++ flatL (S.drop k) = flatL S) ∧ Hid (R'.length + nodesL (S.drop k) ≤ nodesL S) ∧ Hid (wr.ownsRow w1.heap.size 29 19 (.slice A' n' c') n' (R'.flatMap Prod.snd)) ∧ Hid (∀ q ∈ R', At w0 none q.1 q.2) ∧ Hid (Below w1.heap.size w1 wr)) (fun _ vi _ => N - (intOf vi).toNat)
      case atStart => exact ⟨0, 0, none, 0, [], by omega, by omega, rfl, rfl, rfl, (by unfold Hid; simp), (by unfold Hid; simp), World.ownsRow_nil _ _ _ _, (fun _ hq => nomatch hq), Below.refl _ _⟩
      case round =>
        obtain ⟨k, n', A', c', R', hk, hn', rfl, rfl, HN', HM, HNB, HOW, HAR, HW⟩ := hrel
        have c18r := blk_cell (HN1.out.below HW.out HN1.out.lt) 18 HC18.out
        by_cases hkn : k < N
        · have hkQ : k < Q.length := by rw [HSL.out]; exact hkn
          have hbw : Below w.heap.size w wr := HB1.out.trans (HW.out.mono HB1.out.size)
          obtain ⟨ad, hA, hrow⟩ := rowAt (HR.out.below (hbw.mono HB0.out.size)) HQA.out hkQ HSL.out
          subst hA
          have hdrop : S.drop k = (Q[k]).1 :: S.drop (k + 1) := by
            rw [HSQ.out, List.drop_eq_getElem_cons (by simpa using hkQ)]
            simp
          have hih := HIH.out (Q[k]) (List.getElem_mem _)
          obtain ⟨⟨x, xc⟩, hx⟩ : ∃ x, x = Q[k] := ⟨_, rfl⟩
          rw [← hx] at hrow hdrop hih
          dsimp only at hrow hdrop hih
          have hnb := HNB.out
          have hnl := HNL.out
          rw [hdrop, nodesL] at hnb
          have HXN : Hid (R'.length + (x.nodes + nodesL (S.drop (k + 1))) ≤ nodesL S) := hnb
          have HDR := Lib.hid hdrop
          have HXL := Lib.hid (OpC.flat_len x)
          have HXC := Lib.hid (OpC.counts_le x).1
          have HIK := Lib.hid (hih wr (by omega) ((HB0.out.trans (hbw.mono HB0.out.size))))
          have HROW := Lib.hid hrow
          clear hx hrow hdrop hih hnb hnl hbw hkQ
          go_wp2_with (first
            | (refine wpList_load_at (by rfl) 29 (.tmp 21) rfl (ad.add (k * 19)) rfl xc _ HROW.out.cells Tryz.underlying29 rfl HROW.out.info ?_)
            | (go_at_call 39
               refine HIK.out.mono ?_
               rintro e w3 ⟨A3, c3, R3, rfl, hm3, ho3, ha3, hb3⟩
               obtain ⟨n3, hn3⟩ : ∃ n, n = R3.length := ⟨_, rfl⟩
               rw [← hn3] at ho3 ⊢
               have HN3 := Lib.hid hn3
               have HL3 : Hid (n3 ≤ x.nodes) := (by unfold Hid; have h1 := congrArg List.length hm3; rw [List.length_map] at h1; have h2 := HXL.out; have h3 := HXC.out; omega)
               have HM3 : Hid ((R' ++ R3).map Prod.fst ++ flatL (S.drop (k + 1)) = flatL S) := (by unfold Hid; rw [← HM.out, HDR.out, flatL, List.map_append, hm3, List.append_assoc])
               have HO3 := Lib.hid ho3
               have HA3 := Lib.hid ha3
               have HOW3 := Lib.hid (own_below HOW.out hb3)
               have HB3 : Hid (Below w1.heap.size w1 w3) := HW.out.trans (hb3.mono HW.out.size)
               have hb9 : n' + n3 ≤ 1000000 := (by have h1 := HXN.out; have h2 := HNL.out; have h3 := HN'.out; have h4 := HL3.out; omega)
               clear hn3 hm3 ho3 ha3 hb3)
            | (with_reducible refine wpAt 24 ?_
               refine wpList_append_any _ rfl (.tmp 17) (.tmp 23) _ rfl w1.heap.size 29 i0 _ 19 296 Tryz.underlying27 hi0 hz0 hzi1 hzi2 rfl (by decide) (.slice A' n' c') n' (R'.flatMap Prod.snd) rfl HOW3.out w3.heap.size A3 n3 c3 (R3.flatMap Prod.snd) rfl (Reads.of_own HO3.out) (opCells_one HA3.out) (by unfold maxLen; omega) (by omega) HB3.out.size ?_
               intro v4 w4 ho hg hat
               obtain ⟨A4, c4, rfl⟩ := slice_form ho
               have HOW4 : Hid (w4.ownsRow w1.heap.size 29 19 (.slice A4 (n' + n3) c4) (n' + n3) ((R' ++ R3).flatMap Prod.snd)) := (by unfold Hid; rw [List.flatMap_append]; exact ho)
               have HB4 : Hid (Below w1.heap.size w1 w4) := HB3.out.grown hg HB3.out.size (fun k hk => (HOW3.out.lt k hk).1)
               clear ho hg hat))
          go_roundw
          case rel => exact ⟨k + 1, n' + n3, A4, c4, R' ++ R3, by omega, hb9, rfl, by go_num, (by unfold Hid; rw [List.length_append, HN'.out, HN3.out]), HM3.out, (by unfold Hid; rw [List.length_append, ← HN3.out]; have h1 := HXN.out; have h2 := HL3.out; omega), HOW4.out, (fun q hq => (List.mem_append.1 hq).elim (HAR.out q) (HA3.out q)), HB4.out⟩
          case measure => simp [intOf]; omega
        · obtain rfl : k = N := by omega
          have HM2 : Hid (R'.map Prod.fst = flatL S) := by
            have h := HM.out
            rwa [List.drop_eq_nil_of_le (by rw [HSQ.out, List.length_map, HSL.out]; exact Nat.le_refl _), flatL, List.append_nil] at h
          clear HM HNB
          go_wp2
          go_ret
          refine ⟨A', c', R', (by rw [HN'.out]; rfl), HM2.out, ?_, HAR.out, HB1.out.trans (HW.out.mono HB1.out.size)⟩
          have h := HOW.out
          rw [HN'.out] at h
          exact own_lowO h (by omega)
end Go.Proofs.YtpjjnmdfgcfnmaaGreatDoor
