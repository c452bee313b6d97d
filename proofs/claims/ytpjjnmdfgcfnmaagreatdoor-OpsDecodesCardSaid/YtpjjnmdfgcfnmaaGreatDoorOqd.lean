/- How many stand in an operation: the law's count; the kinds of types. -/
import Derived.Test.YtpjjnmdfgcfnmaaGreatDoorOq5
import Derived.Test.YtpjjnmdfgcfnmaaGreatDoorOqb
set_option linter.unusedVariables false
set_option linter.unusedSimpArgs false
namespace Go.Proofs.YtpjjnmdfgcfnmaaGreatDoor
open Go.RowKit

mutual
/-- how many stand in it, it too: counted no further than 3000 and one -/
def OpC.cnt : OpC → Nat → Nat
  | .mk _ S, n => cntL S (n + 1)
def cntL : List OpC → Nat → Nat
  | [], n => n
  | x :: r, n => if n ≤ 3000 then cntL r (x.cnt n) else n
end
def kindL : List (Int × Int) := [(1, 3), (15, 3), (19, 3), (21, 3), (2, 3), (13, 3), (5, 3), (7, 3), (120, 3), (121, 3), (14, 2), (-10, 4), (-11, 4), (20, 5), (3, 1), (4, 1), (8, 1), (12, 1), (6, 1), (9, 1), (103, 1), (104, 1), (106, 1), (11, 1), (18, 1), (101, 1), (22, 1), (107, 1)]
/-- the kind of a type -/
def kindN (t : Int) : Int := ((kindL.find? fun x => x.1 == t).map (·.2)).getD 0
set_option maxRecDepth 100000 in
theorem kind_in : ∀ x ∈ kindL, ∀ w, Calls Tryz.prog 11 #[.int .i32 x.1] w fun e w' => e = .returned (.int .i64 x.2) ∧ w' = w := by
  intro x hx w
  simp only [kindL, List.mem_cons, List.not_mem_nil, or_false] at hx
  rcases hx with rfl | rfl | rfl | rfl | rfl | rfl | rfl | rfl | rfl | rfl | rfl | rfl | rfl | rfl | rfl | rfl | rfl | rfl | rfl | rfl | rfl | rfl | rfl | rfl | rfl | rfl | rfl | rfl
  all_goals
    go_enter Tryz.func11, Tryz.ntmps11
    go_wp2
    go_ret
    exact ⟨rfl, rfl⟩
set_option maxRecDepth 100000 in
theorem kind_out (t : Int) (h : ∀ x ∈ kindL, ¬ t = x.1) (w : World) : Calls Tryz.prog 11 #[.int .i32 t] w fun e w' => e = .returned (.int .i64 0) ∧ w' = w := by
  simp only [kindL, List.forall_mem_cons, List.not_mem_nil, false_implies, implies_true, and_true] at h
  obtain ⟨h0, h1, h2, h3, h4, h5, h6, h7, h8, h9, h10, h11, h12, h13, h14, h15, h16, h17, h18, h19, h20, h21, h22, h23, h24, h25, h26, h27⟩ := h
  go_enter Tryz.func11, Tryz.ntmps11
  go_wp2
  go_ret
  exact ⟨rfl, rfl⟩
theorem kind_any (t : Int) (w : World) : Calls Tryz.prog 11 #[.int .i32 t] w fun e w' => e = .returned (.int .i64 (kindN t)) ∧ w' = w := by
  obtain ⟨k, hk⟩ : ∃ k, k = kindN t := ⟨_, rfl⟩
  rw [← hk]
  unfold kindN at hk
  rcases hf : kindL.find? (fun x => x.1 == t) with _ | x
  · rw [hf] at hk
    simp only [Option.map_none, Option.getD_none] at hk
    subst hk
    rw [List.find?_eq_none] at hf
    exact kind_out t (fun x hx e => hf x hx (by simp [e])) w
  · rw [hf] at hk
    simp only [Option.map_some, Option.getD_some] at hk
    subst hk
    have h1 := List.mem_of_find?_eq_some hf
    have h2 := List.find?_some hf
    have h3 : x.1 = t := by simpa using h2
    rw [← h3]
    exact kind_in x h1 w

def mayN (t i : Int) : Bool := if i = 22 then t == 3 || t == 4 || t == 6 || t == 8 || t == 12 else kindN t == 3 || kindN t == 2
set_option maxRecDepth 100000 in
theorem may_any (t i : Int) (w : World) : Calls Tryz.prog 72 #[.int .i32 t, .int .i32 i] w fun e w' => e = .returned (.bool (mayN t i)) ∧ w' = w := by
  by_cases hi : i = 22
  · subst hi
    have hm : mayN t 22 = (t == 3 || t == 4 || t == 6 || t == 8 || t == 12) := rfl
    rw [hm]
    by_cases h : t = 3 ∨ t = 4 ∨ t = 6 ∨ t = 8 ∨ t = 12
    · rcases h with rfl | rfl | rfl | rfl | rfl
      all_goals
        go_enter Tryz.func72, Tryz.ntmps72
        go_wp2
        go_ret
        exact ⟨rfl, rfl⟩
    · have h3 : ¬ t = 3 := fun e => h (.inl e)
      have h4 : ¬ t = 4 := fun e => h (.inr (.inl e))
      have h6 : ¬ t = 6 := fun e => h (.inr (.inr (.inl e)))
      have h8 : ¬ t = 8 := fun e => h (.inr (.inr (.inr (.inl e))))
      have h12 : ¬ t = 12 := fun e => h (.inr (.inr (.inr (.inr e))))
      have hf : (t == 3 || t == 4 || t == 6 || t == 8 || t == 12) = false := by simp [h3, h4, h6, h8, h12]
      rw [hf]
      clear h hm hf
      go_enter Tryz.func72, Tryz.ntmps72
      go_wp2
      go_ret
      exact ⟨by simp [h3, h4, h6, h8, h12], rfl⟩
  · have hm : mayN t i = (kindN t == 3 || kindN t == 2) := by unfold mayN; rw [if_neg hi]
    rw [hm]
    have HK := Lib.hid (fun W => kind_any t W)
    generalize kindN t = k at HK ⊢
    clear hm
    by_cases h3 : k = 3
    · subst h3
      go_enter Tryz.func72, Tryz.ntmps72
      go_wp2_with (go_at_call 11; refine (HK.out _).mono ?_; rintro e w2 ⟨rfl, rfl⟩)
      go_ret
      exact ⟨rfl, rfl⟩
    · go_enter Tryz.func72, Tryz.ntmps72
      go_wp2_with (go_at_call 11; refine (HK.out _).mono ?_; rintro e w2 ⟨rfl, rfl⟩)
      go_ret
      exact ⟨by simp [h3], rfl⟩
end Go.Proofs.YtpjjnmdfgcfnmaaGreatDoor
/- ops.Count: parts, multis, the depth. -/
namespace Go.Proofs.YtpjjnmdfgcfnmaaGreatDoor
open Go.RowKit

theorem At.one {w : World} {lo : Option Nat} {x : OpC} {cs : List Value} (h : At w lo x cs) : cs.toArray.all (·.oneCell') = true := by
  cases h
  simp [OpF.row, Sl.v, Value.oneCell']
theorem zer_op : ((Tryz.prog.info? 29).bind (·.zero)).map (·.cells.size) = some 19 := by kernel_rfl
/-- what a row of a list is good for -/
structure RowAt (wr : World) (ad : Addr) (k : Nat) (xc : List Value) : Prop where
  cells : ∀ j v, xc[j]? = some v → wr.cell? ((ad.add (k * 19)).add j) = some v
  info : (Tryz.prog.info? 29).map (·.size) = some xc.length
  infoA : (Tryz.prog.info? 29).map (·.size) = some xc.toArray.size
  zero : ((Tryz.prog.info? 29).bind (·.zero)).map (·.cells.size) = some xc.toArray.size
  one : xc.toArray.all (·.oneCell') = true
theorem rowAt {w0 w : World} {lo : Option Nat} {B n : Nat} {A : Option Addr} {Q : List (OpC × List Value)} (h : Reads w B 19 A n (Q.flatMap Prod.snd)) (hQ : ∀ q ∈ Q, At w0 lo q.1 q.2) {j : Nat} (hj : j < Q.length) (hn : Q.length = n) :
    ∃ ad, A = some ad ∧ RowAt w ad j (Q[j]).2 := by
  obtain ⟨ad, hA, hc⟩ := subs_cells h (fun q hq => (hQ q hq).len) hj hn
  have h19 := (hQ _ (List.getElem_mem hj)).len
  exact ⟨ad, hA, hc, by rw [h19]; exact isz_29, by rw [List.size_toArray, h19]; exact isz_29, by rw [List.size_toArray, h19]; exact zer_op, (hQ _ (List.getElem_mem hj)).one⟩
mutual
/-- how many stand in it, it too -/
def OpC.nodes : OpC → Nat
  | .mk _ S => nodesL S + 1
def nodesL : List OpC → Nat
  | [] => 0
  | x :: r => x.nodes + nodesL r
end
mutual
def OpC.parts : OpC → Nat
  | .mk f S => if f.t = 14 then partsL S else 1
def partsL : List OpC → Nat
  | [] => 0
  | x :: r => x.parts + partsL r
end
mutual
def OpC.multis : OpC → Nat
  | .mk f S => if f.t = 14 then 1 + multisL S else 0
def multisL : List OpC → Nat
  | [] => 0
  | x :: r => x.multis + multisL r
end
mutual
def OpC.depth : OpC → Nat
  | .mk f S => if f.t = 14 then depthL S + 1 else 0
def depthL : List OpC → Nat
  | [] => 0
  | x :: r => max x.depth (depthL r)
end
mutual
theorem OpC.counts_le : ∀ (x : OpC), x.parts ≤ x.nodes ∧ x.multis ≤ x.nodes ∧ x.depth ≤ x.nodes
  | .mk f S => by
    have h := counts_leL S
    rw [OpC.parts, OpC.multis, OpC.depth, OpC.nodes]
    split <;> omega
theorem counts_leL : ∀ (S : List OpC), partsL S ≤ nodesL S ∧ multisL S ≤ nodesL S ∧ depthL S ≤ nodesL S
  | [] => by rw [partsL, multisL, depthL, nodesL]; omega
  | x :: r => by
    have h := OpC.counts_le x
    have h' := counts_leL r
    rw [partsL, multisL, depthL, nodesL]
    omega
end
theorem nodesL_mem {S : List OpC} {x : OpC} (h : x ∈ S) : x.nodes ≤ nodesL S := by
  induction S with
  | nil => cases h
  | cons y r ih =>
    rw [nodesL]
    rcases List.mem_cons.1 h with rfl | h
    · omega
    · have := ih h; omega
mutual
theorem OpC.nodes_bulk : ∀ (x : OpC), x.nodes ≤ x.bulk
  | .mk f S => by
    have := nodes_bulkL S
    rw [OpC.nodes, OpC.bulk]
    unfold OpF.bulk
    omega
theorem nodes_bulkL : ∀ (S : List OpC), nodesL S ≤ bulkL S
  | [] => by rw [nodesL, bulkL]; exact Nat.le_refl _
  | x :: r => by
    have h1 := OpC.nodes_bulk x
    have h2 := nodes_bulkL r
    rw [nodesL, bulkL]
    omega
end
def countV (x : OpC) : Value := .tuple #[.int .i64 (x.parts : Int), .int .i64 (x.multis : Int), .int .i64 (x.depth : Int)]
set_option maxRecDepth 100000 in
set_option maxHeartbeats 4000000 in
theorem counts_any {w0 : World} {lo : Option Nat} {x : OpC} {xs : List Value} (h : At w0 lo x xs) : ∀ (w : World), x.nodes ≤ 1000000000 → Below w0.heap.size w0 w →
    Calls Tryz.prog 16 #[.agg xs.toArray] w fun e w' => e = .returned (countV x) ∧ Below w.heap.size w w' := by
  induction h with
  | mk f d a k0 k1 k2 k3 k4 i s Q ok hd ha hk0 hk1 hk2 hk3 hk4 hi hs hQ ih =>
    intro w hn hb0
    obtain ⟨cs, hcs⟩ : ∃ cs : Array Value, cs = (f.row d a k0 k1 k2 k3 k4 i s).toArray := ⟨_, rfl⟩
    rw [← hcs]
    obtain ⟨w1, hw1⟩ : ∃ w1, w.alloc (.cells cs 29) = w1 := ⟨_, rfl⟩
    have hz1 : w1.heap.size = w.heap.size + 1 := by rw [← hw1]; simp
    have HB1 : Hid (Below w.heap.size w w1) := by unfold Hid; rw [← hw1]; exact (Below.refl _ _).alloc (Nat.le_refl _) _
    have HN1 : Hid (Blk w1 w.heap.size 29 cs) := by unfold Hid; rw [← hw1]; exact Blk.new _ _ _
    have HC0 : Hid (cs[0]? = some (.int .i32 f.t)) := by unfold Hid; rw [hcs]; rfl
    have HC18 : Hid (cs[18]? = some (.slice s.A s.n s.c)) := by unfold Hid; rw [hcs]; rfl
    have HR : Hid (Reads w w0.heap.size 19 s.A s.n (Q.flatMap Prod.snd)) := hs.reads.below hb0
    have HQA : Hid (∀ q ∈ Q, At w0 lo q.1 q.2) := hQ
    have HSL : Hid (Q.length = s.n) := hs.len
    have HIH : Hid (∀ q ∈ Q, ∀ (W : World), q.1.nodes ≤ 1000000000 → Below w0.heap.size w0 W → Calls Tryz.prog 16 #[.agg q.2.toArray] W fun e w' => e = .returned (countV q.1) ∧ Below W.heap.size W w') := ih
    have HB0 := Lib.hid hb0
    have hlen : s.n ≤ 4611686018427387904 := hs.bd (by decide)
    obtain ⟨S, hS⟩ : ∃ S, S = Q.map Prod.fst := ⟨_, rfl⟩
    have HSQ := Lib.hid hS
    rw [← hS] at hn ⊢
    have hnl : nodesL S + 1 ≤ 1000000000 := by rwa [OpC.nodes] at hn
    have HNL := Lib.hid hnl
    have c0 := blk_cell HN1.out 0 HC0.out
    have c18 := blk_cell HN1.out 18 HC18.out
    unfold countV
    rw [OpC.parts, OpC.multis, OpC.depth]
    clear hcs ih hs hd ha hk0 hk1 hk2 hk3 hk4 hi hQ ok hb0 hS hn hnl
    obtain ⟨A, N, c⟩ := s
    dsimp only at HR HSL hlen HC18 c18
    by_cases ht : f.t = 14
    rotate_left
    · rw [if_neg ht, if_neg ht, if_neg ht]
      go_enter Tryz.func16, Tryz.ntmps16
      go_wp2
      go_ret3
      exact ⟨rfl, HB1.out⟩
    rw [if_pos ht, if_pos ht, if_pos ht]
    go_enter Tryz.func16, Tryz.ntmps16
    go_wp2
    go_loopw [5, 6, 7, 19] (fun vp vm vd vi wr => ∃ (k p m dd : Nat), k ≤ N ∧ p + m + dd ≤ 3000000001 ∧ vp = .int .i64 (p : Int) ∧ vm = .int .i64 (m : Int) ∧ vd = .int .i64 (dd : Int) ∧ vi = .int .i64 (k : Int) ∧ Hid (partsL S = p + partsL (S.drop k) ∧ 1 + multisL S = m + multisL (S.drop k) ∧ depthL S = max dd (depthL (S.drop k))) ∧ Hid (Below w1.heap.size w1 wr)) (fun _ _ _ vi _ => N - (intOf vi).toNat)
    case atStart => exact ⟨0, 0, 1, 0, by omega, by omega, by go_num, by go_num, by go_num, by go_num, (by unfold Hid; simp), Below.refl _ _⟩
    case round =>
      obtain ⟨k, p, m, dd, hk, hpm, rfl, rfl, rfl, rfl, HK, HW⟩ := hrel
      by_cases hkn : k < N
      · have hkQ : k < Q.length := by rw [HSL.out]; exact hkn
        have hbw : Below w.heap.size w wr := HB1.out.trans (HW.out.mono HB1.out.size)
        obtain ⟨ad, hA, hrow⟩ := rowAt (HR.out.below (hbw.mono HB0.out.size)) HQA.out hkQ HSL.out
        subst hA
        have hdrop : S.drop k = (Q[k]).1 :: S.drop (k + 1) := by
          rw [HSQ.out, List.drop_eq_getElem_cons (by simpa using hkQ)]
          simp
        have hmem : (Q[k]).1 ∈ S := by rw [HSQ.out]; exact List.mem_map.2 ⟨_, List.getElem_mem _, rfl⟩
        have hih := HIH.out (Q[k]) (List.getElem_mem _)
        obtain ⟨⟨x, xc⟩, hx⟩ : ∃ x, x = Q[k] := ⟨_, rfl⟩
        rw [← hx] at hrow hdrop hih hmem
        dsimp only at hrow hdrop hih hmem
        have hxn := nodesL_mem hmem
        have hxc := OpC.counts_le x
        have hsl := counts_leL S
        have hnl := HNL.out
        have hk' := HK.out
        rw [hdrop, partsL, multisL, depthL] at hk'
        obtain ⟨xp, hxp⟩ : ∃ z, z = x.parts := ⟨_, rfl⟩
        obtain ⟨xm, hxm⟩ : ∃ z, z = x.multis := ⟨_, rfl⟩
        obtain ⟨xd, hxd⟩ : ∃ z, z = x.depth := ⟨_, rfl⟩
        have hih2 : ∀ W, Below wr.heap.size wr W → Calls Tryz.prog 16 #[.agg xc.toArray] W fun e w' => e = .returned (.tuple #[.int .i64 (xp : Int), .int .i64 (xm : Int), .int .i64 (xd : Int)]) ∧ Below W.heap.size W w' := fun W hW => by
          have h := hih W (by omega) ((HB0.out.trans (hbw.mono HB0.out.size)).trans (hW.mono (Nat.le_trans HB0.out.size hbw.size)))
          unfold countV at h
          rw [← hxp, ← hxm, ← hxd] at h
          exact h
        rw [← hxp, ← hxm, ← hxd] at hk'
        rw [← hxp, ← hxm, ← hxd] at hxc
        have hb1 : xp ≤ 1000000000 := by omega
        have hb2 : xm ≤ 1000000000 := by omega
        have hb3 : xd ≤ 1000000000 := by omega
        have hb4 : p + xp ≤ 1000000000 := by omega
        have hb5 : m + xm ≤ 1000000001 := by omega
        have hb6 : dd ≤ 1000000000 := by omega
        have HK' : Hid (partsL S = (p + xp) + partsL (S.drop (k + 1)) ∧ 1 + multisL S = (m + xm) + multisL (S.drop (k + 1)) ∧ depthL S = max (max dd xd) (depthL (S.drop (k + 1)))) := ⟨by omega, by omega, by omega⟩
        have HROW := Lib.hid hrow
        have HBW := Lib.hid hbw
        have HIK := Lib.hid hih2
        clear hx hrow hdrop hbw hkQ hih hih2 hmem hxp hxm hxd hk' hsl hnl hxn hxc HK
        obtain ⟨w2, hw2⟩ : ∃ w2, wr.alloc (.cells xc.toArray 29) = w2 := ⟨_, rfl⟩
        have HN2 : Hid (Blk w2 wr.heap.size 29 xc.toArray) := by unfold Hid; rw [← hw2]; exact Blk.new _ _ _
        have HB2 : Hid (Below wr.heap.size wr w2) := by unfold Hid; rw [← hw2]; exact (Below.refl _ _).alloc (Nat.le_refl _) _
        rcases Nat.lt_or_ge dd xd with hdx | hdx
        all_goals
          go_wp2_with (first
            | (refine wpList_load_at (by rfl) 29 (.tmp 21) rfl (ad.add (k * 19)) rfl xc _ HROW.out.cells Tryz.underlying29 rfl HROW.out.info ?_)
            | (refine wpList_newrow rfl rfl 29 rfl 9 rfl (.tmp 22) rfl rfl xc.toArray (fun _ => rfl) (show 9 < 43 by decide) HROW.out.zero HROW.out.infoA HROW.out.one ?_
               rw [hw2])
            | (refine wpList_load_row rfl 29 (.tmp 9) rfl wr.heap.size rfl 29 _ _ _ HN2.out Tryz.underlying29 rfl HROW.out.infoA ?_)
            | (go_at_call 16
               refine (HIK.out _ HB2.out).mono ?_
               rintro e w3 ⟨rfl, hb⟩
               have HW3 : Hid (Below w1.heap.size w1 w3) := (HW.out.trans (HB2.out.mono HW.out.size)).trans (hb.mono (Nat.le_trans HW.out.size HB2.out.size))
               clear hb))
        · go_roundw
          case rel => exact ⟨k + 1, p + xp, m + xm, xd, by omega, by omega, by go_num, by go_num, by go_num, by go_num, (by have h := HK'.out; rwa [Nat.max_eq_right (by omega : dd ≤ xd)] at h), HW3⟩
          case measure => simp [intOf]; omega
        · go_roundw
          case rel => exact ⟨k + 1, p + xp, m + xm, dd, by omega, by omega, by go_num, by go_num, by go_num, by go_num, (by have h := HK'.out; rwa [Nat.max_eq_left (by omega : xd ≤ dd)] at h), HW3⟩
          case measure => simp [intOf]; omega
      · have hkk : k = N := by omega
        subst hkk
        have HK2 : Hid (partsL S = p ∧ 1 + multisL S = m ∧ depthL S = dd) := by
          have h := HK.out
          rw [List.drop_eq_nil_of_le (by rw [HSQ.out, List.length_map, HSL.out]; exact Nat.le_refl _), partsL, multisL, depthL] at h
          exact ⟨by omega, by omega, by omega⟩
        have HBW : Hid (Below w.heap.size w wr) := HB1.out.trans (HW.out.mono HB1.out.size)
        have hdd : dd ≤ 3000000001 := by omega
        clear HK
        go_wp2
        go_ret3
        rw [HK2.out.1, HK2.out.2.1, HK2.out.2.2]
        exact ⟨rfl, HBW.out⟩
end Go.Proofs.YtpjjnmdfgcfnmaaGreatDoor
