/- ops.flat: the parts, each in new memory. -/
import Derived.Test.YtpjjnmdfgcfnmaaGreatDoorOq10
set_option linter.unusedVariables false
set_option linter.unusedSimpArgs false
namespace Go.Proofs.YtpjjnmdfgcfnmaaGreatDoor
open Go.RowKit

mutual
def OpC.flat : OpC → List OpC
  | .mk f S => if f.t = 14 then flatL S else [.mk f S]
def flatL : List OpC → List OpC
  | [] => []
  | x :: r => x.flat ++ flatL r
end
mutual
theorem OpC.flat_len : ∀ x : OpC, x.flat.length = x.parts
  | .mk f S => by
    rw [OpC.flat, OpC.parts]
    split
    · exact flatL_len S
    · rfl
theorem flatL_len : ∀ S : List OpC, (flatL S).length = partsL S
  | [] => by rw [flatL, partsL]; rfl
  | x :: r => by rw [flatL, partsL, List.length_append, OpC.flat_len x, flatL_len r]
end
theorem SlAt.window {w W : World} {b : Nat} {e : TypeId} {size bytes len : Nat} {s : Sl} {xs : List Value} (h : SlAt w (some b) e size bytes s len xs) (hk : ∀ k, b ≤ k → k < w.heap.size → W.heap[k]? = w.heap[k]?) : SlAt W (some b) e size bytes s len xs := by
  have ho : W.ownsRow b e size s.v s.n xs := by
    obtain ⟨h1, h2⟩ := h.own b rfl
    refine ⟨h1, ?_⟩
    rcases h2 with h2 | ⟨g, cap, cur, e1, e2, e3, e4⟩
    · exact .inl h2
    · refine .inr ⟨g, cap, cur, e1, e2, ?_, e4⟩
      have hlt : g < w.heap.size := by
        rcases Nat.lt_or_ge g w.heap.size with hlt | hge
        · exact hlt
        · rw [Array.getElem?_eq_none hge] at e3; cases e3
      exact (hk g e2 hlt).trans e3
  exact ⟨h.nil, h.le, h.cap, h.reach, h.len, Reads.of_own ho, fun c hc => by injection hc with hc; subst hc; exact ho⟩
theorem At.window {w W : World} {x : OpC} {cs : List Value} {lo : Option Nat} (h : At w lo x cs) : ∀ {b : Nat}, lo = some b → (∀ k, b ≤ k → k < w.heap.size → W.heap[k]? = w.heap[k]?) → At W (some b) x cs := by
  induction h with
  | mk f d a k0 k1 k2 k3 k4 i s Q ok hd ha hk0 hk1 hk2 hk3 hk4 hi hs _ ih =>
    intro b hlo hk
    subst hlo
    exact .mk f d a k0 k1 k2 k3 k4 i s Q ok (hd.window hk) (ha.window hk) (hk0.window hk) (hk1.window hk) (hk2.window hk) (hk3.window hk) (hk4.window hk) (hi.window hk) (hs.window hk) fun q hq => ih q hq rfl hk
/-- an operation whose lists lie in the blocks from b up to e, which are as they were -/
def Win (W : World) (b e : Nat) (x : OpC) (cs : List Value) : Prop := ∃ w : World, At w (some b) x cs ∧ w.heap.size = e ∧ e ≤ W.heap.size ∧ ∀ k, b ≤ k → k < e → W.heap[k]? = w.heap[k]?
theorem Win.at_ {W : World} {b e : Nat} {x : OpC} {cs : List Value} (h : Win W b e x cs) : At W (some b) x cs := by
  obtain ⟨w, h1, h2, _, h4⟩ := h
  exact h1.window rfl fun k hk hl => h4 k hk (by omega)
theorem Win.new {W : World} {b : Nat} {x : OpC} {cs : List Value} (h : At W (some b) x cs) : Win W b W.heap.size x cs := ⟨W, h, rfl, Nat.le_refl _, fun _ _ _ => rfl⟩
theorem Win.later {W W' : World} {b e : Nat} {x : OpC} {cs : List Value} (h : Win W b e x cs) (hb : Below W.heap.size W W') : Win W' b e x cs := by
  obtain ⟨w, h1, h2, h3, h4⟩ := h
  exact ⟨w, h1, h2, Nat.le_trans h3 hb.size, fun k hk hl => (hb.block k (by omega)).trans (h4 k hk hl)⟩
theorem Win.grown {W W' : World} {b e : Nat} {row : Option Nat} {x : OpC} {cs : List Value} (h : Win W b e x cs) (hg : W.grownBy W' row) (hne : ∀ g, row = some g → g < b ∨ e ≤ g) : Win W' b e x cs := by
  obtain ⟨w, h1, h2, h3, h4⟩ := h
  refine ⟨w, h1, h2, Nat.le_trans h3 hg.size, fun k hk hl => (hg.block k (by omega) (fun e' => ?_)).trans (h4 k hk hl)⟩
  rcases hne k e'.symm with h | h <;> omega
/-- a list of operations in new memory, each by itself -/
structure FlatSt (base : Nat) (v : Value) (R : List (OpC × List Value)) (W : World) : Prop where
  own : W.ownsRow base 29 19 v R.length (R.flatMap Prod.snd)
  bs : base ≤ W.heap.size
  win : ∀ r ∈ R, ∃ b e, base ≤ b ∧ Win W b e r.1 r.2 ∧ ∀ g, v.ownBlock = some g → g < b ∨ e ≤ g
theorem FlatSt.later {base : Nat} {v : Value} {R : List (OpC × List Value)} {W W' : World} (h : FlatSt base v R W) (hb : Below W.heap.size W W') : FlatSt base v R W' :=
  ⟨own_below h.own hb, Nat.le_trans h.bs hb.size, fun r hr => by
    obtain ⟨b, e, h1, h2, h3⟩ := h.win r hr
    exact ⟨b, e, h1, h2.later hb, h3⟩⟩
theorem FlatSt.nil (W : World) : FlatSt W.heap.size (.slice none 0 0) [] W := ⟨World.ownsRow_nil _ _ _ _, Nat.le_refl _, fun _ hr => by cases hr⟩
theorem FlatSt.snoc {base b : Nat} {v v' : Value} {R : List (OpC × List Value)} {r : OpC × List Value} {W W' : World} (h : FlatSt base v R W) (hr : Win W b W.heap.size r.1 r.2) (hb : base ≤ b) (hv : ∀ g, v.ownBlock = some g → g < b)
    (hown : W'.ownsRow base 29 19 v' (R.length + 1) (R.flatMap Prod.snd ++ r.2)) (hg : W.grownBy W' v.ownBlock) (hat : v'.ownBlock = v.ownBlock ∨ v'.ownBlock = some W.heap.size) : FlatSt base v' (R ++ [r]) W' := by
  refine ⟨by simpa using hown, Nat.le_trans h.bs hg.size, fun q hq => ?_⟩
  rcases List.mem_append.1 hq with hq | hq
  · obtain ⟨b', e', h1, h2, h3⟩ := h.win q hq
    refine ⟨b', e', h1, h2.grown hg h3, fun g hgv => ?_⟩
    rcases hat with hat | hat
    · exact h3 g (by rw [← hat]; exact hgv)
    · rw [hat] at hgv
      injection hgv with hgv
      obtain ⟨_, _, _, h5, _⟩ := h2
      right
      omega
  · rw [List.mem_singleton] at hq
    subst hq
    refine ⟨b, W.heap.size, hb, hr.grown hg (fun g hgv => .inl (hv g hgv)), fun g hgv => ?_⟩
    rcases hat with hat | hat
    · exact .inl (hv g (by rw [← hat]; exact hgv))
    · rw [hat] at hgv
      injection hgv with hgv
      right
      omega
/-- what flat hands back -/
def Flatted (base : Nat) (W : World) (R : List (OpC × List Value)) (xs : List OpC) (e : Ending) (w' : World) : Prop :=
  ∃ A' c' R', e = .returned (.slice A' (R ++ R').length c') ∧ R'.map Prod.fst = xs ∧ FlatSt base (.slice A' (R ++ R').length c') (R ++ R') w' ∧ Below base W w'
theorem FlatSt.lt {base : Nat} {v : Value} {R : List (OpC × List Value)} {W : World} (h : FlatSt base v R W) {g : Nat} (hg : v.ownBlock = some g) : g < W.heap.size := (h.own.lt g hg).2

set_option maxRecDepth 100000 in
set_option maxHeartbeats 4000000 in
theorem flat_any {w0 : World} {lo : Option Nat} {x : OpC} {xs : List Value} (h : At w0 lo x xs) : ∀ (base : Nat) (W : World) (A : Option Addr) (n c : Nat) (R : List (OpC × List Value)), w0.heap.size ≤ base → Below base w0 W → FlatSt base (.slice A n c) R W → n = R.length → n + x.nodes ≤ 1000000 →
    Calls Tryz.prog 38 #[.slice A n c, .agg xs.toArray] W (Flatted base W R x.flat) := by
  induction h with
  | mk f d a k0 k1 k2 k3 k4 i s Q ok hd ha hk0 hk1 hk2 hk3 hk4 hi hs hQ ih =>
    intro base W A n c R hbase hW hF hn hb
    have hat : At w0 lo (.mk f (Q.map Prod.fst)) (f.row d a k0 k1 k2 k3 k4 i s) := .mk f d a k0 k1 k2 k3 k4 i s Q ok hd ha hk0 hk1 hk2 hk3 hk4 hi hs hQ
    obtain ⟨cs, hcs⟩ : ∃ cs : Array Value, cs = (f.row d a k0 k1 k2 k3 k4 i s).toArray := ⟨_, rfl⟩
    rw [← hcs]
    obtain ⟨w1, hw1⟩ : ∃ w1, W.alloc (.cells cs 29) = w1 := ⟨_, rfl⟩
    have hz1 : w1.heap.size = W.heap.size + 1 := by rw [← hw1]; simp
    have hb1 : Below W.heap.size W w1 := by rw [← hw1]; exact (Below.refl _ _).alloc (Nat.le_refl _) _
    have HN1 : Hid (Blk w1 W.heap.size 29 cs) := by unfold Hid; rw [← hw1]; exact Blk.new _ _ _
    have HC0 : Hid (cs[0]? = some (.int .i32 f.t)) := by unfold Hid; rw [hcs]; rfl
    have HC18 : Hid (cs[18]? = some (.slice s.A s.n s.c)) := by unfold Hid; rw [hcs]; rfl
    have HZ : Hid ((Tryz.prog.info? 29).map (·.size) = some cs.size) := by unfold Hid; rw [hcs, List.size_toArray, OpF.row_len]; exact isz_29
    have c0 := blk_cell HN1.out 0 HC0.out
    have c18 := blk_cell HN1.out 18 HC18.out
    have HF1 := Lib.hid (hF.later hb1)
    have HBW : Hid (Below base W w1) := hb1.mono hF.bs
    have HB0 := Lib.hid (hW.trans HBW.out)
    have HF := Lib.hid hF
    have HN := Lib.hid hn
    have HNO : Hid (n + (nodesL (Q.map Prod.fst) + 1) ≤ 1000000) := by rw [OpC.nodes] at hb; exact hb
    have hW0 : Below w0.heap.size w0 w1 := HB0.out.mono hbase
    have HCL : Hid (∀ W', Below w1.heap.size w1 W' → Calls Tryz.prog 31 #[.agg cs] W' (Cloned W' (.mk f (Q.map Prod.fst)))) := fun W' hW' => by rw [hcs]; exact opClone_any hat W' (hW0.trans (hW'.mono hW0.size))
    have hs1 := hs.later hW0
    have HRD : Hid (Reads w1 w0.heap.size 19 s.A s.n (Q.flatMap Prod.snd)) := hs.reads.below hW0
    have HQ := Lib.hid hQ
    have HSQ : Hid (Q.length = s.n) := hs.len
    have HIH := Lib.hid ih
    have HBASE := Lib.hid hbase
    have hsb : s.n ≤ 4611686018427387904 := hs.bd (by decide)
    have hnb : n ≤ 1000000 := by omega
    clear hat hcs hb1 hF hn hb hW hd ha hk0 hk1 hk2 hk3 hk4 hi hs hQ ih hW0 hs1 hbase ok
    rw [OpC.flat]
    by_cases ht : f.t = 14
    rotate_left
    · rw [if_neg ht]
      have hF1 := HF1.out
      go_enter Tryz.func38, Tryz.ntmps38
      obtain ⟨i0, hi0, hz0, hzi1, hzi2⟩ := info_parts op_info
      go_wp2_with (first
        | (refine wpList_load_row rfl 29 (.tmp 3) rfl W.heap.size rfl 29 _ _ _ HN1.out Tryz.underlying29 rfl HZ.out ?_)
        | (go_at_call 31
           refine (HCL.out _ (Below.refl _ _)).mono ?_
           rintro e w2 ⟨rc, rfl, hrc, hb2⟩
           have HRC := Lib.hid hrc
           have HF2 := Lib.hid (HF1.out.later hb2)
           have HB2 := Lib.hid (HBW.out.trans (hb2.mono HF1.out.bs))
           have HL2 : Hid (∀ g, (Value.slice A n c).ownBlock = some g → g < w1.heap.size) := fun g hg => HF1.out.lt hg
           have HRS : Hid ((Value.agg rc.toArray).cells.size = 19) := by unfold Hid; show rc.toArray.size = 19; rw [List.size_toArray, hrc.len]
           clear hb2 hrc)
        | (refine wpList_build1 rfl 27 29 (.tmp 12) rfl (.agg rc.toArray) rfl 19 Tryz.underlying27 isz_29 zer_op (by decide) HRS.out ?_
           obtain ⟨w3, hw3⟩ : ∃ w3, w2.alloc (.cells rc.toArray 29) = w3 := ⟨_, rfl⟩
           have hc3 : (Value.agg rc.toArray).cells = rc.toArray := rfl
           rw [hc3, hw3]
           have hb3 : Below w2.heap.size w2 w3 := (by rw [← hw3]; exact (Below.refl _ _).alloc (Nat.le_refl _) _)
           have hn3 : Blk w3 w2.heap.size 29 rc.toArray := (by rw [← hw3]; exact Blk.new _ _ _)
           have hz3 : w3.heap.size = w2.heap.size + 1 := (by rw [← hw3]; simp)
           have HF3 := Lib.hid (HF2.out.later hb3)
           have HB3 := Lib.hid (HB2.out.trans (hb3.mono HF2.out.bs))
           have HW3 : Hid (Win w3 w1.heap.size w3.heap.size (.mk f (Q.map Prod.fst)) rc) := Win.new (HRC.out.later hb3)
           have HR3 : Hid (Reads w3 w3.heap.size 19 (some ⟨w2.heap.size, 0, none⟩) 1 rc) := ⟨(by rw [HRC.out.len]), fun _ => ⟨⟨w2.heap.size, 0, none⟩, rfl, hn3.lt, fun j u hj => (by rw [Go.WideShapes.add_plain, Nat.zero_add, hn3.cell]; simpa using hj)⟩⟩
           have HO3 : Hid (∀ u ∈ rc, u.oneCell' = true) := fun v hv => (by
             have := HRC.out.one
             rw [Array.all_eq_true_iff_forall_mem] at this
             exact this v (by simpa using hv))
           have HOW : Hid (w3.ownsRow base 29 19 (.slice A n c) n (R.flatMap Prod.snd)) := (by unfold Hid; have := HF3.out.own; rwa [← HN.out] at this)
           clear hw3 hc3 hb3 hn3)
        | (at_builtin
           refine wpList_append_any _ rfl (.tmp 10) (.tmp 13) _ rfl base 29 i0 _ 19 296 Tryz.underlying27 hi0 hz0 hzi1 hzi2 rfl (by decide) (.slice A n c) n (R.flatMap Prod.snd) rfl HOW.out w3.heap.size (some ⟨w2.heap.size, 0, none⟩) 1 1 rc rfl HR3.out HO3.out (by unfold maxLen; omega) (by omega) HF3.out.bs ?_
           intro v4 w4 hown4 hg4 hat4
           obtain ⟨A4, c4, rfl⟩ := slice_form hown4
           have HOW4 := Lib.hid hown4
           have HG4 := Lib.hid hg4
           have HA4 := Lib.hid hat4
           clear hown4 hg4 hat4))
      go_ret
      refine ⟨A4, c4, [(.mk f (Q.map Prod.fst), rc)], by rw [List.length_append, HN.out]; rfl, rfl, ?_, ?_⟩
      · have h4 : w4.ownsRow base 29 19 (.slice A4 (n + 1) c4) (R.length + 1) (R.flatMap Prod.snd ++ rc) := by have := HOW4.out; rwa [HN.out] at this ⊢
        have := HF3.out.snoc (b := w1.heap.size) (r := (.mk f (Q.map Prod.fst), rc)) HW3.out HF1.out.bs HL2.out h4 HG4.out HA4.out
        rw [List.length_append, ← HN.out]
        exact this
      · exact HB3.out.grown HG4.out HF3.out.bs (fun k hk => (HOW.out.lt k hk).1)
    · rw [if_pos ht]
      obtain ⟨S, hS⟩ : ∃ S, S = Q.map Prod.fst := ⟨_, rfl⟩
      have HSM := Lib.hid hS
      rw [← hS] at HNO ⊢
      clear hS HCL
      obtain ⟨sA, N, sc⟩ := s
      dsimp only at HC18 c18 HRD HSQ hsb
      go_enter Tryz.func38, Tryz.ntmps38
      go_wp2
      clear c0 c18
      go_loopw [0, 18] (fun v0 vi wr => ∃ (k n' : Nat) (A' : Option Addr) (c' : Nat) (R' : List (OpC × List Value)), k ≤ N ∧ n' ≤ 1000000 ∧ v0 = .slice A' n' c' ∧ vi = .int .i64 (k : Int) ∧ Hid (n' = (R ++ R').length) ∧ Hid (FlatSt base (.slice A' n' c') (R ++ R') wr) ∧ Hid (R'.map Prod.fst ++ flatL (S.drop k) = flatL S) ∧ Hid (R'.length + nodesL (S.drop k) ≤ nodesL S) ∧ Hid (Below base w1 wr)) (fun _ vi _ => N - (intOf vi).toNat)
      case atStart => exact ⟨0, n, A, c, [], by omega, by omega, rfl, rfl, (by unfold Hid; rw [List.append_nil]; exact HN.out), (by unfold Hid; rw [List.append_nil]; exact HF1.out), (by unfold Hid; simp), (by unfold Hid; simp), Below.refl _ _⟩
      case round =>
        clear HF1 HF
        obtain ⟨k, n', A', c', R', hk, hn', rfl, rfl, HN', HFr, HM, HNB, HW⟩ := hrel
        by_cases hkn : k < N
        · have hkQ : k < Q.length := by rw [HSQ.out]; exact hkn
          have hb0 : Below w0.heap.size w0 w1 := HB0.out.mono HBASE.out
          have hbw : Below base w0 wr := HB0.out.trans HW.out
          have hb1 : Below w0.heap.size w0 wr := hbw.mono HBASE.out
          have hrd : Reads wr w0.heap.size 19 sA N (Q.flatMap Prod.snd) := HRD.out.keep fun p hp => HW.out.cell (Nat.lt_of_lt_of_le hp HBASE.out)
          obtain ⟨ad, hA, hrow⟩ := rowAt hrd HQ.out hkQ HSQ.out
          subst hA
          have hdrop : S.drop k = (Q[k]).1 :: S.drop (k + 1) := by
            rw [HSM.out, List.drop_eq_getElem_cons (by simpa using hkQ)]
            simp
          have hih := HIH.out (Q[k]) (List.getElem_mem _)
          obtain ⟨⟨x, xc⟩, hx⟩ : ∃ x, x = Q[k] := ⟨_, rfl⟩
          rw [← hx] at hrow hdrop hih
          dsimp only at hrow hdrop hih
          have hnb := HNB.out
          have hno := HNO.out
          have hnl := HN'.out
          have hnn := HN.out
          rw [List.length_append] at hnl
          rw [hdrop, nodesL] at hnb
          have HNX : Hid (n' + x.nodes ≤ 1000000) := by unfold Hid; omega
          have HROW := Lib.hid hrow
          have HDR := Lib.hid hdrop
          have HIK := Lib.hid hih
          have HBR := Lib.hid hbw
          have HXN : Hid (R'.length + (x.nodes + nodesL (S.drop (k + 1))) ≤ nodesL S) := hnb
          have HXL := Lib.hid (OpC.flat_len x)
          have HXC := Lib.hid (OpC.counts_le x).1
          obtain ⟨w2, hw2⟩ : ∃ w2, wr.alloc (.cells xc.toArray 29) = w2 := ⟨_, rfl⟩
          have HN2 : Hid (Blk w2 wr.heap.size 29 xc.toArray) := by unfold Hid; rw [← hw2]; exact Blk.new _ _ _
          have hb2 : Below wr.heap.size wr w2 := by rw [← hw2]; exact (Below.refl _ _).alloc (Nat.le_refl _) _
          have HF2 := Lib.hid (HFr.out.later hb2)
          have HW2 : Hid (Below base w1 w2) := HW.out.trans (hb2.mono HFr.out.bs)
          clear hx hrow hdrop hih hbw hkQ hb0 hb1 hrd hnb hno hnl hnn hb2
          go_wp2_with (first
            | (refine wpList_load_at (by rfl) 29 (.tmp 20) rfl (ad.add (k * 19)) rfl xc _ HROW.out.cells Tryz.underlying29 rfl HROW.out.info ?_)
            | (refine wpList_newrow rfl rfl 29 rfl 6 rfl (.tmp 21) rfl rfl xc.toArray (fun _ => rfl) (show 6 < 27 by decide) HROW.out.zero HROW.out.infoA HROW.out.one ?_
               rw [hw2])
            | (refine wpList_load_row rfl 29 (.tmp 6) rfl wr.heap.size rfl 29 _ _ _ HN2.out Tryz.underlying29 rfl HROW.out.infoA ?_)
            | (go_at_call 38
               refine (HIK.out base _ A' n' c' (R ++ R') HBASE.out (HB0.out.trans HW2.out) HF2.out HN'.out HNX.out).mono ?_
               rintro e w3 ⟨A3, c3, R3, rfl, hm3, hF3, hb3⟩
               rw [List.append_assoc] at hF3
               have HF3 := Lib.hid hF3
               have HM3 : Hid ((R' ++ R3).map Prod.fst ++ flatL (S.drop (k + 1)) = flatL S) := (by unfold Hid; rw [← HM.out, HDR.out, flatL, List.map_append, hm3, List.append_assoc])
               have HL3 : Hid (R3.length ≤ x.nodes) := (by unfold Hid; have h1 := congrArg List.length hm3; rw [List.length_map] at h1; have h2 := HXL.out; have h3 := HXC.out; omega)
               have HW3 : Hid (Below base w1 w3) := HW2.out.trans hb3
               clear hb3 hF3 hm3))
          have hbnd : (R ++ R' ++ R3).length ≤ 1000000 := by
            have h1 := HL3.out
            have h2 := HXN.out
            have h3 := HNO.out
            have h4 := HN.out
            simp only [List.length_append]
            omega
          have HNN : Hid ((R ++ R' ++ R3).length = (R ++ (R' ++ R3)).length) := by unfold Hid; rw [List.append_assoc]
          have HXN2 : Hid ((R' ++ R3).length + nodesL (S.drop (k + 1)) ≤ nodesL S) := by
            have h1 := HL3.out
            have h2 := HXN.out
            unfold Hid
            rw [List.length_append]
            omega
          rw [HNN.out] at hbnd
          go_roundw
          case rel => exact ⟨k + 1, (R ++ (R' ++ R3)).length, A3, c3, R' ++ R3, by omega, hbnd, by simp [List.length_append], by go_num, rfl, HF3.out, HM3.out, HXN2.out, HW3.out⟩
          case measure => simp [intOf]; omega
        · obtain rfl : k = N := by omega
          have HM2 : Hid (R'.map Prod.fst = flatL S) := by
            have h := HM.out
            rw [List.drop_eq_nil_of_le (by rw [HSM.out, List.length_map, HSQ.out]; exact Nat.le_refl _), flatL, List.append_nil] at h
            exact h
          clear HM HNB
          go_wp2
          go_ret
          exact ⟨A', c', R', by rw [← HN'.out]; rfl, HM2.out, by rw [← HN'.out]; exact HFr.out, HBW.out.trans HW.out⟩
end Go.Proofs.YtpjjnmdfgcfnmaaGreatDoor
