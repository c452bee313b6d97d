/- ops.all: the error of an operation and of all that stands in it. ops.Right, ops.Flatten. -/
import Derived.Test.YtpjjnmdfgcfnmaaGreatDoorOq15
import Derived.Test.YtpjjnmdfgcfnmaaGreatDoorOq11
set_option linter.unusedVariables false
set_option linter.unusedSimpArgs false
namespace Go.Proofs.YtpjjnmdfgcfnmaaGreatDoor
open Go.RowKit

mutual
def OpC.allE : OpC → Int
  | .mk f S => if ownE f S.length ≠ 0 then ownE f S.length else allL f.t S
def allL (t : Int) : List OpC → Int
  | [] => 0
  | x :: r => if mayN x.f.t t = false then 110 else if x.allE ≠ 0 then x.allE else allL t r
end
def OpC.rightE (x : OpC) : Int := if x.allE ≠ 0 then x.allE else if (decide ((x.depth : Int) > 8) || decide ((x.parts : Int) > 1024)) || decide ((x.multis : Int) > 1024) then 3 else 0
theorem bulkS_len (L : List ByteArray) : L.length ≤ bulkS L := by
  unfold bulkS
  induction L with
  | nil => exact Nat.le_refl _
  | cons x r ih => rw [List.map_cons, List.sum_cons, List.length_cons]; omega
theorem bulkI_len (L : List (ByteArray × ByteArray)) : L.length ≤ bulkI L := by
  unfold bulkI
  induction L with
  | nil => exact Nat.le_refl _
  | cons x r ih => rw [List.map_cons, List.sum_cons, List.length_cons]; omega
theorem bulkA_len (L : List AclT) : L.length ≤ bulkA L := by
  unfold bulkA
  induction L with
  | nil => exact Nat.le_refl _
  | cons x r ih => rw [List.map_cons, List.sum_cons, List.length_cons]; omega
theorem OpF.sums {f : OpF} (h : f.bulk ≤ 1000000000) : f.texts.length * 16 ≤ 140737488355328 ∧ (f.I.length + f.L.length) * 32 ≤ 140737488355328 := by
  have h0 := bulkS_len f.K0
  have h1 := bulkS_len f.K1
  have h2 := bulkS_len f.K2
  have h3 := bulkS_len f.K3
  have h4 := bulkS_len f.K4
  have h5 := bulkI_len f.I
  have h6 := bulkA_len f.L
  unfold OpF.bulk at h
  unfold OpF.texts
  simp only [List.length_append]
  constructor <;> omega
theorem bulkL_mem {S : List OpC} {x : OpC} (h : x ∈ S) : x.bulk ≤ bulkL S := by
  induction S with
  | nil => cases h
  | cons y r ih =>
    rw [bulkL]
    rcases List.mem_cons.1 h with rfl | h
    · omega
    · have := ih h; omega
theorem At.c0 {w : World} {lo : Option Nat} {x : OpC} {cs : List Value} (h : At w lo x cs) : cs[0]? = some (.int .i32 x.f.t) := by
  cases h
  rfl
set_option maxRecDepth 100000 in
set_option maxHeartbeats 4000000 in
theorem opAll_any {w0 : World} {lo : Option Nat} {x : OpC} {xs : List Value} (h : At w0 lo x xs) (E : Env w0) : ∀ (w : World), x.bulk ≤ 1000000000 → Below w0.heap.size w0 w →
    Calls Tryz.prog 33 #[.agg xs.toArray] w fun e w' => e = .returned (.int .i64 x.allE) ∧ Below w.heap.size w w' := by
  induction h with
  | mk f d a k0 k1 k2 k3 k4 i s Q ok hd ha hk0 hk1 hk2 hk3 hk4 hi hs hQ ih =>
    intro w hn hb0
    obtain ⟨cs, hcs⟩ : ∃ cs : Array Value, cs = (f.row d a k0 k1 k2 k3 k4 i s).toArray := ⟨_, rfl⟩
    rw [← hcs]
    obtain ⟨w1, hw1⟩ : ∃ w1, w.alloc (.cells cs 29) = w1 := ⟨_, rfl⟩
    have hz1 : w1.heap.size = w.heap.size + 1 := by rw [← hw1]; simp
    have HB1 : Hid (Below w.heap.size w w1) := by unfold Hid; rw [← hw1]; exact (Below.refl _ _).alloc (Nat.le_refl _) _
    have HN1 : Hid (Blk w1 w.heap.size 29 cs) := by unfold Hid; rw [← hw1]; exact Blk.new _ _ _
    have HC0 : Hid (cs[0]? = some (.int .i32 f.t)) := by unfold Hid; rw [hcs]; rfl
    have HC18 : Hid (cs[18]? = some (.slice s.A s.n s.c)) := by unfold Hid; rw [hcs]; rfl
    have HI19 : Hid ((Tryz.prog.info? 29).map (·.size) = some cs.size) := by unfold Hid; rw [hcs]; exact isz_29
    have HR : Hid (Reads w w0.heap.size 19 s.A s.n (Q.flatMap Prod.snd)) := hs.reads.below hb0
    have HQA : Hid (∀ q ∈ Q, At w0 lo q.1 q.2) := hQ
    have HSL : Hid (Q.length = s.n) := hs.len
    have HIH : Hid (∀ q ∈ Q, ∀ (W : World), q.1.bulk ≤ 1000000000 → Below w0.heap.size w0 W → Calls Tryz.prog 33 #[.agg q.2.toArray] W fun e w' => e = .returned (.int .i64 q.1.allE) ∧ Below W.heap.size W w') := ih
    have HB0 := Lib.hid hb0
    have hlen : s.n ≤ 4611686018427387904 := hs.bd (by decide)
    obtain ⟨S, hS⟩ : ∃ S, S = Q.map Prod.fst := ⟨_, rfl⟩
    have HSQ := Lib.hid hS
    rw [← hS] at hn ⊢
    have hfb : f.bulk + bulkL S ≤ 1000000000 := by rwa [OpC.bulk] at hn
    have HNL : Hid (bulkL S ≤ 1000000000) := by unfold Hid; omega
    have hfs := OpF.sums (f := f) (by omega)
    have HOWN : Hid (∀ W, Below w0.heap.size w0 W → Calls Tryz.prog 71 #[.agg cs] W fun e w' => e = .returned (.int .i64 (ownE f s.n)) ∧ Below W.heap.size W w') := fun W hW =>
      own_any f d a k0 k1 k2 k3 k4 i s W ((⟨hd, ha, hk0, hk1, hk2, hk3, hk4, hi⟩ : FAt w0 lo f d a k0 k1 k2 k3 k4 i).later hW) (hs.later hW) ok (E.below hW) hfs.1 hfs.2 cs hcs
    have c0 := blk_cell HN1.out 0 HC0.out
    have c18 := blk_cell HN1.out 18 HC18.out
    rw [OpC.allE, show S.length = s.n by rw [hS, List.length_map, hs.len]]
    clear hcs ih hs hd ha hk0 hk1 hk2 hk3 hk4 hi hQ ok hb0 hS hn hfb hfs E
    obtain ⟨A, N, c⟩ := s
    dsimp only at HR HSL hlen HC18 c18 HOWN
    dsimp only
    generalize ownE f N = oe at HOWN ⊢
    have HBO : Hid (Below w0.heap.size w0 w1) := HB0.out.trans (HB1.out.mono HB0.out.size)
    by_cases ho : oe = 0
    rotate_left
    · rw [if_pos ho]
      have hob : (oe != 0) = true := by simpa using ho
      clear ho c18
      go_enter Tryz.func33, Tryz.ntmps33
      go_wp2_with (first
        | (refine wpList_load_row rfl 29 (.tmp 1) rfl w.heap.size rfl 29 _ _ _ HN1.out Tryz.underlying29 rfl HI19.out ?_)
        | (go_at_call 71
           refine (HOWN.out _ HBO.out).mono ?_
           rintro e w3 ⟨rfl, hb⟩
           have HB3 : Hid (Below w.heap.size w w3) := HB1.out.trans (hb.mono HB1.out.size)
           clear hb))
      go_ret
      exact ⟨rfl, HB3.out⟩
    rw [if_neg (by simpa using ho)]
    subst ho
    go_enter Tryz.func33, Tryz.ntmps33
    go_wp2_with (first
        | (refine wpList_load_row rfl 29 (.tmp 1) rfl w.heap.size rfl 29 _ _ _ HN1.out Tryz.underlying29 rfl HI19.out ?_)
        | (go_at_call 71
           refine (HOWN.out _ HBO.out).mono ?_
           rintro e w2 ⟨rfl, hb⟩
           have HB2 : Hid (Below w1.heap.size w1 w2) := hb
           have d18 := blk_cell (HN1.out.below hb HN1.out.lt) 18 HC18.out
           clear hb c0 c18))
    clear d18
    go_loopw [15] (fun vi wr => ∃ (k : Nat), k ≤ N ∧ vi = .int .i64 (k : Int) ∧ Hid (allL f.t S = allL f.t (S.drop k)) ∧ Hid (Below w1.heap.size w1 wr)) (fun vi _ => N - (intOf vi).toNat)
    case atStart => exact ⟨0, by omega, by go_num, (by unfold Hid; simp), HB2.out⟩
    case round =>
      clear HB2
      obtain ⟨k, hk, rfl, HK, HW⟩ := hrel
      by_cases hkn : k < N
      · have hkQ : k < Q.length := by rw [HSL.out]; exact hkn
        have hbw : Below w.heap.size w wr := HB1.out.trans (HW.out.mono HB1.out.size)
        obtain ⟨ad, hA, hrow⟩ := rowAt (HR.out.below (hbw.mono HB0.out.size)) HQA.out hkQ HSL.out
        subst hA
        have hdrop : S.drop k = (Q[k]).1 :: S.drop (k + 1) := by
          rw [HSQ.out, List.drop_eq_getElem_cons (by simpa using hkQ)]
          simp
        have hmem : (Q[k]).1 ∈ S := by rw [HSQ.out]; exact List.mem_map.2 ⟨_, List.getElem_mem _, rfl⟩
        have hih := HIH.out (Q[k]) (List.getElem_mem _)
        have hx0 := (HQA.out (Q[k]) (List.getElem_mem _)).c0
        obtain ⟨⟨x, xc⟩, hx⟩ : ∃ x, x = Q[k] := ⟨_, rfl⟩
        rw [← hx] at hrow hdrop hih hmem hx0
        dsimp only at hrow hdrop hih hmem hx0
        have hxb := bulkL_mem hmem
        have hnl := HNL.out
        have hk' := HK.out
        rw [hdrop, allL] at hk'
        have hih2 : ∀ W, Below wr.heap.size wr W → Calls Tryz.prog 33 #[.agg xc.toArray] W fun e w' => e = .returned (.int .i64 x.allE) ∧ Below W.heap.size W w' := fun W hW =>
          hih W (by omega) ((HB0.out.trans (hbw.mono HB0.out.size)).trans (hW.mono (Nat.le_trans HB0.out.size hbw.size)))
        have HROW := Lib.hid hrow
        have HIK := Lib.hid hih2
        obtain ⟨w2, hw2⟩ : ∃ w2, wr.alloc (.cells xc.toArray 29) = w2 := ⟨_, rfl⟩
        have hn2 : Blk w2 wr.heap.size 29 xc.toArray := by rw [← hw2]; exact Blk.new _ _ _
        have HB2 : Hid (Below wr.heap.size wr w2) := by unfold Hid; rw [← hw2]; exact (Below.refl _ _).alloc (Nat.le_refl _) _
        have cx0 := blk_cell hn2 0 (by simpa using hx0)
        have HN1w : Hid (Blk wr w.heap.size 29 cs) := HN1.out.below HW.out HN1.out.lt
        have cr0 := blk_cell (HN1w.out.below HB2.out HN1w.out.lt) 0 HC0.out
        have HN2 := Lib.hid hn2
        have HM : Hid (∀ W, Calls Tryz.prog 72 #[.int .i32 x.f.t, .int .i32 f.t] W fun e w' => e = .returned (.bool (mayN x.f.t f.t)) ∧ w' = W) := fun W => may_any _ _ W
        generalize mayN x.f.t f.t = mb at HM hk'
        generalize x.f.t = xt at HM cx0
        generalize x.allE = xe at HIK hk'
        clear hx hrow hdrop hbw hkQ hih hih2 hmem hn2 hx0 hxb hnl
        cases mb
        · have HK2 : Hid (allL f.t S = 110) := hk'
          clear hk'
          go_wp2_with (first
            | (refine wpList_load_at (by rfl) 29 (.tmp 17) rfl (ad.add (k * 19)) rfl xc _ HROW.out.cells Tryz.underlying29 rfl HROW.out.info ?_)
            | (refine wpList_newrow rfl rfl 29 rfl 5 rfl (.tmp 18) rfl rfl xc.toArray (fun _ => rfl) (show 5 < 31 by decide) HROW.out.zero HROW.out.infoA HROW.out.one ?_
               rw [hw2])
            | (go_at_call 72
               refine (HM.out _).mono ?_
               rintro e w3 ⟨rfl, he⟩
               obtain rfl := he.symm))
          go_ret
          rw [HK2.out]
          exact ⟨rfl, (HB1.out.trans (HW.out.mono HB1.out.size)).trans (HB2.out.mono (Nat.le_trans HB1.out.size HW.out.size))⟩
        · rw [if_neg (by decide)] at hk'
          by_cases hxe : xe = 0
          · rw [if_neg (by simpa using hxe)] at hk'
            have HK2 := Lib.hid hk'
            subst hxe
            clear hk' HK
            go_wp2_with (first
              | (refine wpList_load_at (by rfl) 29 (.tmp 17) rfl (ad.add (k * 19)) rfl xc _ HROW.out.cells Tryz.underlying29 rfl HROW.out.info ?_)
              | (refine wpList_newrow rfl rfl 29 rfl 5 rfl (.tmp 18) rfl rfl xc.toArray (fun _ => rfl) (show 5 < 31 by decide) HROW.out.zero HROW.out.infoA HROW.out.one ?_
                 rw [hw2])
              | (go_at_call 72
                 refine (HM.out _).mono ?_
                 rintro e w3 ⟨rfl, he⟩
                 obtain rfl := he.symm)
              | (refine wpList_load_row rfl 29 (.tmp 5) rfl wr.heap.size rfl 29 _ _ _ HN2.out Tryz.underlying29 rfl HROW.out.infoA ?_)
              | (go_at_call 33
                 refine (HIK.out _ HB2.out).mono ?_
                 rintro e w3 ⟨rfl, hb⟩
                 have HW3 : Hid (Below w1.heap.size w1 w3) := (HW.out.trans (HB2.out.mono HW.out.size)).trans (hb.mono (Nat.le_trans HW.out.size HB2.out.size))
                 clear hb))
            go_roundw
            case rel => exact ⟨k + 1, by omega, by go_num, HK2.out, HW3⟩
            case measure => simp [intOf]; omega
          · rw [if_pos hxe] at hk'
            have HK2 := Lib.hid hk'
            have hxb : (xe != 0) = true := by simpa using hxe
            clear hk' HK hxe
            go_wp2_with (first
              | (refine wpList_load_at (by rfl) 29 (.tmp 17) rfl (ad.add (k * 19)) rfl xc _ HROW.out.cells Tryz.underlying29 rfl HROW.out.info ?_)
              | (refine wpList_newrow rfl rfl 29 rfl 5 rfl (.tmp 18) rfl rfl xc.toArray (fun _ => rfl) (show 5 < 31 by decide) HROW.out.zero HROW.out.infoA HROW.out.one ?_
                 rw [hw2])
              | (go_at_call 72
                 refine (HM.out _).mono ?_
                 rintro e w3 ⟨rfl, he⟩
                 obtain rfl := he.symm)
              | (refine wpList_load_row rfl 29 (.tmp 5) rfl wr.heap.size rfl 29 _ _ _ HN2.out Tryz.underlying29 rfl HROW.out.infoA ?_)
              | (go_at_call 33
                 refine (HIK.out _ HB2.out).mono ?_
                 rintro e w3 ⟨rfl, hb⟩
                 have HW3 : Hid (Below w1.heap.size w1 w3) := (HW.out.trans (HB2.out.mono HW.out.size)).trans (hb.mono (Nat.le_trans HW.out.size HB2.out.size))
                 clear hb))
            go_ret
            rw [HK2.out]
            exact ⟨rfl, HB1.out.trans (HW3.out.mono HB1.out.size)⟩
      · have hkk : k = N := by omega
        subst hkk
        have HK2 : Hid (allL f.t S = 0) := by
          have h := HK.out
          rwa [List.drop_eq_nil_of_le (by rw [HSQ.out, List.length_map, HSL.out]; exact Nat.le_refl _), allL] at h
        have HBW : Hid (Below w.heap.size w wr) := HB1.out.trans (HW.out.mono HB1.out.size)
        clear HK
        go_wp2
        go_ret
        rw [HK2.out]
        exact ⟨rfl, HBW.out⟩
end Go.Proofs.YtpjjnmdfgcfnmaaGreatDoor
/- ops.Right, ops.Flatten. -/
namespace Go.Proofs.YtpjjnmdfgcfnmaaGreatDoor
open Go.RowKit

set_option maxRecDepth 100000 in
set_option maxHeartbeats 4000000 in
theorem right_any {w : World} {lo : Option Nat} {x : OpC} {xs : List Value} (h : At w lo x xs) (E : Env w) (hb : x.bulk ≤ 1000000000) :
    Calls Tryz.prog 13 #[.agg xs.toArray] w fun e w' => e = .returned (.int .i64 x.rightE) ∧ Below w.heap.size w w' := by
  have HALL : Hid (∀ W, Below w.heap.size w W → Calls Tryz.prog 33 #[.agg xs.toArray] W fun e w' => e = .returned (.int .i64 x.allE) ∧ Below W.heap.size W w') := fun W hW => opAll_any h E W hb hW
  have HCO : Hid (∀ W, Below w.heap.size w W → Calls Tryz.prog 16 #[.agg xs.toArray] W fun e w' => e = .returned (countV x) ∧ Below W.heap.size W w') := fun W hW => counts_any h W (Nat.le_trans x.nodes_bulk hb) hW
  have hcl := x.counts_le
  have hnb := x.nodes_bulk
  unfold OpC.rightE
  unfold countV at HCO
  obtain ⟨cs, hcs⟩ : ∃ cs : Array Value, cs = xs.toArray := ⟨_, rfl⟩
  have HI19 : Hid ((Tryz.prog.info? 29).map (·.size) = some cs.size) := by unfold Hid; rw [hcs, List.size_toArray, h.len]; exact isz_29
  rw [← hcs] at HALL HCO ⊢
  obtain ⟨w1, hw1⟩ : ∃ w1, w.alloc (.cells cs 29) = w1 := ⟨_, rfl⟩
  have HB1 : Hid (Below w.heap.size w w1) := by unfold Hid; rw [← hw1]; exact (Below.refl _ _).alloc (Nat.le_refl _) _
  have HN1 : Hid (Blk w1 w.heap.size 29 cs) := by unfold Hid; rw [← hw1]; exact Blk.new _ _ _
  generalize x.allE = ae at HALL ⊢
  generalize x.parts = p at HCO hcl ⊢
  generalize x.multis = m at HCO hcl ⊢
  generalize x.depth = d at HCO hcl ⊢
  have hp : p ≤ 1000000000 := by omega
  have hm : m ≤ 1000000000 := by omega
  have hd : d ≤ 1000000000 := by omega
  clear hcl hnb h E hb hcs
  by_cases ho : ae = 0
  rotate_left
  · rw [if_pos ho]
    have hob : (ae != 0) = true := by simpa using ho
    clear ho HCO
    go_enter Tryz.func13, Tryz.ntmps13
    go_wp2_with (first
      | (refine wpList_load_row rfl 29 (.tmp 1) rfl w.heap.size rfl 29 _ _ _ HN1.out Tryz.underlying29 rfl HI19.out ?_)
      | (go_at_call 33
         refine (HALL.out _ HB1.out).mono ?_
         rintro e w3 ⟨rfl, hb⟩
         have HB3 : Hid (Below w.heap.size w w3) := HB1.out.trans (hb.mono HB1.out.size)
         clear hb))
    go_ret
    exact ⟨rfl, HB3.out⟩
  rw [if_neg (by simpa using ho)]
  subst ho
  rcases Nat.lt_or_ge 8 d with h1 | h1
  case' inl => have hr : ((decide ((d : Int) > 8) || decide ((p : Int) > 1024)) || decide ((m : Int) > 1024)) = true := by simp; omega
  case' inr =>
    rcases Nat.lt_or_ge 1024 p with h2 | h2
    case' inl => have hr : ((decide ((d : Int) > 8) || decide ((p : Int) > 1024)) || decide ((m : Int) > 1024)) = true := by simp; omega
    case' inr =>
      rcases Nat.lt_or_ge 1024 m with h3 | h3
      case' inl => have hr : ((decide ((d : Int) > 8) || decide ((p : Int) > 1024)) || decide ((m : Int) > 1024)) = true := by simp; omega
      case' inr => have hr : ((decide ((d : Int) > 8) || decide ((p : Int) > 1024)) || decide ((m : Int) > 1024)) = false := by simp; omega
  all_goals
    rw [hr]
    clear hr
    go_enter Tryz.func13, Tryz.ntmps13
    go_wp2_with (first
      | (refine wpList_load_row rfl 29 (.tmp 1) rfl w.heap.size rfl 29 _ _ _ HN1.out Tryz.underlying29 rfl HI19.out ?_)
      | (go_at_call 33
         refine (HALL.out _ HB1.out).mono ?_
         rintro e w3 ⟨rfl, hb⟩
         have HB3 : Hid (Below w.heap.size w w3) := HB1.out.trans (hb.mono HB1.out.size)
         have HN3 : Hid (Blk w3 w.heap.size 29 cs) := HN1.out.below hb HN1.out.lt
         clear hb)
      | (refine wpList_load_row rfl 29 (.tmp 1) rfl w.heap.size rfl 29 _ _ _ HN3.out Tryz.underlying29 rfl HI19.out ?_)
      | (go_at_call 16
         refine (HCO.out _ HB3.out).mono ?_
         rintro e w4 ⟨rfl, hb⟩
         have HB4 : Hid (Below w.heap.size w w4) := HB3.out.trans (hb.mono HB3.out.size)
         clear hb))
    go_ret
    exact ⟨rfl, HB4.out⟩
/-- a list of operations in memory of its own -/
def Listed (w : World) (xs : List OpC) (e : Ending) (w' : World) : Prop :=
  ∃ A c R base, e = .returned (.slice A R.length c) ∧ R.map Prod.fst = xs ∧ w.heap.size ≤ base ∧ FlatSt base (.slice A R.length c) R w' ∧ Below w.heap.size w w'
def OpC.flatten (x : OpC) : List OpC := if x.rightE ≠ 0 then [] else x.flat
set_option maxRecDepth 100000 in
set_option maxHeartbeats 4000000 in
theorem flatten_any {w : World} {lo : Option Nat} {x : OpC} {xs : List Value} (h : At w lo x xs) (E : Env w) (hb : x.bulk ≤ 1000000000) (hn : x.nodes ≤ 1000000) :
    Calls Tryz.prog 19 #[.agg xs.toArray] w (Listed w x.flatten) := by
  have HR : Hid (∀ W, Below w.heap.size w W → Calls Tryz.prog 13 #[.agg xs.toArray] W fun e w' => e = .returned (.int .i64 x.rightE) ∧ Below W.heap.size W w') := fun W hW => right_any (h.later hW) (E.below hW) hb
  have HF : Hid (∀ W, Below w.heap.size w W → Calls Tryz.prog 38 #[.slice none 0 0, .agg xs.toArray] W (Flatted W.heap.size W [] x.flat)) := fun W hW => flat_any (h.later hW) W.heap.size W none 0 0 [] (Nat.le_refl _) (Below.refl _ _) (FlatSt.nil W) rfl (by omega)
  unfold OpC.flatten
  obtain ⟨cs, hcs⟩ : ∃ cs : Array Value, cs = xs.toArray := ⟨_, rfl⟩
  have HI19 : Hid ((Tryz.prog.info? 29).map (·.size) = some cs.size) := by unfold Hid; rw [hcs, List.size_toArray, h.len]; exact isz_29
  rw [← hcs] at HR HF ⊢
  obtain ⟨w1, hw1⟩ : ∃ w1, w.alloc (.cells cs 29) = w1 := ⟨_, rfl⟩
  have HB1 : Hid (Below w.heap.size w w1) := by unfold Hid; rw [← hw1]; exact (Below.refl _ _).alloc (Nat.le_refl _) _
  have HN1 : Hid (Blk w1 w.heap.size 29 cs) := by unfold Hid; rw [← hw1]; exact Blk.new _ _ _
  generalize x.rightE = re at HR ⊢
  clear h E hb hn hcs
  by_cases ho : re = 0
  rotate_left
  · rw [if_pos ho]
    have hob : (re != 0) = true := by simpa using ho
    clear ho HF
    go_enter Tryz.func19, Tryz.ntmps19
    go_wp2_with (first
      | (refine wpList_load_row rfl 29 (.tmp 1) rfl w.heap.size rfl 29 _ _ _ HN1.out Tryz.underlying29 rfl HI19.out ?_)
      | (go_at_call 13
         refine (HR.out _ HB1.out).mono ?_
         rintro e w3 ⟨rfl, hb⟩
         have HB3 : Hid (Below w.heap.size w w3) := HB1.out.trans (hb.mono HB1.out.size)
         clear hb))
    go_ret
    exact ⟨none, 0, [], _, rfl, rfl, HB3.out.size, FlatSt.nil _, HB3.out⟩
  rw [if_neg (by simpa using ho)]
  subst ho
  go_enter Tryz.func19, Tryz.ntmps19
  go_wp2_with (first
      | (refine wpList_load_row rfl 29 (.tmp 1) rfl w.heap.size rfl 29 _ _ _ HN1.out Tryz.underlying29 rfl HI19.out ?_)
      | (go_at_call 13
         refine (HR.out _ HB1.out).mono ?_
         rintro e w3 ⟨rfl, hb⟩
         have HB3 : Hid (Below w.heap.size w w3) := HB1.out.trans (hb.mono HB1.out.size)
         have HN3 : Hid (Blk w3 w.heap.size 29 cs) := HN1.out.below hb HN1.out.lt
         clear hb)
      | (refine wpList_load_row rfl 29 (.tmp 1) rfl w.heap.size rfl 29 _ _ _ HN3.out Tryz.underlying29 rfl HI19.out ?_)
      | (go_at_call 38
         refine (HF.out _ HB3.out).mono ?_
         rintro e w4 ⟨A', c', R', rfl, hR, hF, hb⟩
         have HRR := Lib.hid hR
         have HFF := Lib.hid hF
         have HB4 := Lib.hid hb
         clear hR hF hb))
  go_ret
  exact ⟨A', c', R', _, rfl, HRR.out, HB3.out.size, HFF.out, HB3.out.trans (HB4.out.mono HB3.out.size)⟩
end Go.Proofs.YtpjjnmdfgcfnmaaGreatDoor
