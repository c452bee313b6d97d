/- arborref11.Kind, arborref11.Count. (printed by gen_c2.py) -/
import Derived.Test.YtpjjnmdfgcfnmaaGreatDoorOqd
import Derived.Test.YtpjjnmdfgcfnmaaGreatDoorOc1
set_option linter.unusedVariables false
set_option linter.unusedSimpArgs false
namespace Go.Proofs.YtpjjnmdfgcfnmaaGreatDoor
open Go.RowKit

set_option maxRecDepth 100000 in
theorem rkind_in : ∀ x ∈ kindL, ∀ w, Calls Tryz.prog 12 #[.int .i32 x.1] w fun e w' => e = .returned (.int .i64 x.2) ∧ w' = w := by
  intro x hx w
  simp only [kindL, List.mem_cons, List.not_mem_nil, or_false] at hx
  rcases hx with rfl | rfl | rfl | rfl | rfl | rfl | rfl | rfl | rfl | rfl | rfl | rfl | rfl | rfl | rfl | rfl | rfl | rfl | rfl | rfl | rfl | rfl | rfl | rfl | rfl | rfl | rfl | rfl
  all_goals
    go_enter Tryz.func12, Tryz.ntmps12
    go_wp2
    go_ret
    exact ⟨rfl, rfl⟩
set_option maxRecDepth 100000 in
theorem rkind_out (t : Int) (h : ∀ x ∈ kindL, ¬ t = x.1) (w : World) : Calls Tryz.prog 12 #[.int .i32 t] w fun e w' => e = .returned (.int .i64 0) ∧ w' = w := by
  simp only [kindL, List.forall_mem_cons, List.not_mem_nil, false_implies, implies_true, and_true] at h
  obtain ⟨h0, h1, h2, h3, h4, h5, h6, h7, h8, h9, h10, h11, h12, h13, h14, h15, h16, h17, h18, h19, h20, h21, h22, h23, h24, h25, h26, h27⟩ := h
  go_enter Tryz.func12, Tryz.ntmps12
  go_wp2
  go_ret
  exact ⟨rfl, rfl⟩
theorem refKind_any (t : Int) (w : World) : Calls Tryz.prog 12 #[.int .i32 t] w fun e w' => e = .returned (.int .i64 (kindN t)) ∧ w' = w := by
  obtain ⟨k, hk⟩ : ∃ k, k = kindN t := ⟨_, rfl⟩
  rw [← hk]
  unfold kindN at hk
  rcases hf : kindL.find? (fun x => x.1 == t) with _ | x
  · rw [hf] at hk
    simp only [Option.map_none, Option.getD_none] at hk
    subst hk
    rw [List.find?_eq_none] at hf
    exact rkind_out t (fun x hx e => hf x hx (by simp [e])) w
  · rw [hf] at hk
    simp only [Option.map_some, Option.getD_some] at hk
    subst hk
    have h1 := List.mem_of_find?_eq_some hf
    have h2 := List.find?_some hf
    have h3 : x.1 = t := by simpa using h2
    rw [← h3]
    exact rkind_in x h1 w

set_option maxRecDepth 100000 in
set_option maxHeartbeats 4000000 in
theorem refCount_any {w0 : World} {lo : Option Nat} {x : OpC} {xs : List Value} (h : At w0 lo x xs) : ∀ (w : World), x.nodes ≤ 1000000000 → Below w0.heap.size w0 w →
    Calls Tryz.prog 17 #[.agg xs.toArray] w fun e w' => e = .returned (countV x) ∧ Below w.heap.size w w' := by
  induction h with
  | mk f d a k0 k1 k2 k3 k4 i s Q ok hd ha hk0 hk1 hk2 hk3 hk4 hi hs hQ ih =>
    intro w hn hb0
    obtain ⟨cs, hcs⟩ : ∃ cs : Array Value, cs = (f.row d a k0 k1 k2 k3 k4 i s).toArray := ⟨_, rfl⟩
    rw [← hcs]
    obtain ⟨w1, hw1⟩ : ∃ w1, w.alloc (.cells cs 29) = w1 := ⟨_, rfl⟩
    have hz1 : w1.heap.size = w.heap.size + 1 := by rw [← hw1]; simp
    have HB1 : Hid (Below w.heap.size w w1) := by unfold Hid; rw [← hw1]; exact (Below.refl _ _).alloc (Nat.le_refl _) _
    have HN1 : Hid (Blk w1 w.heap.size 29 cs) := by unfold Hid; rw [← hw1]; exact Blk.new _ _ _
    have HC0 : Hid (cs[0]? = some (.int .i32 f.t)) := by unfold Hid; rw [hcs]; rfl
    have HC18 : Hid (cs[18]? = some (.slice s.A s.n s.c)) := by unfold Hid; rw [hcs]; rfl
    have HR : Hid (Reads w w0.heap.size 19 s.A s.n (Q.flatMap Prod.snd)) := hs.reads.below hb0
    have HQA : Hid (∀ q ∈ Q, At w0 lo q.1 q.2) := hQ
    have HSL : Hid (Q.length = s.n) := hs.len
    have HIH : Hid (∀ q ∈ Q, ∀ (W : World), q.1.nodes ≤ 1000000000 → Below w0.heap.size w0 W → Calls Tryz.prog 17 #[.agg q.2.toArray] W fun e w' => e = .returned (countV q.1) ∧ Below W.heap.size W w') := ih
    have HB0 := Lib.hid hb0
    have hlen : s.n ≤ 4611686018427387904 := hs.bd (by decide)
    obtain ⟨S, hS⟩ : ∃ S, S = Q.map Prod.fst := ⟨_, rfl⟩
    have HSQ := Lib.hid hS
    rw [← hS] at hn ⊢
    have hnl : nodesL S + 1 ≤ 1000000000 := by rwa [OpC.nodes] at hn
    have HNL := Lib.hid hnl
    have c0 := blk_cell HN1.out 0 HC0.out
    have c18 := blk_cell HN1.out 18 HC18.out
    unfold countV
    rw [OpC.parts, OpC.multis, OpC.depth]
    clear hcs ih hs hd ha hk0 hk1 hk2 hk3 hk4 hi hQ ok hb0 hS hn hnl
    obtain ⟨A, N, c⟩ := s
    dsimp only at HR HSL hlen HC18 c18
    by_cases ht : f.t = 14
    rotate_left
    · rw [if_neg ht, if_neg ht, if_neg ht]
      go_enter Tryz.func17, Tryz.ntmps17
      go_wp2
      go_ret3
      exact ⟨rfl, HB1.out⟩
    rw [if_pos ht, if_pos ht, if_pos ht]
    go_enter Tryz.func17, Tryz.ntmps17
    go_wp2
    go_loopw [5, 6, 7, 8] (fun vp vm vd vi wr => ∃ (k p m dd : Nat), k ≤ N ∧ p + m + dd ≤ 3000000001 ∧ vp = .int .i64 (p : Int) ∧ vm = .int .i64 (m : Int) ∧ vd = .int .i64 ((dd : Int) + 1) ∧ vi = .int .i64 (k : Int) ∧ Hid (partsL S = p + partsL (S.drop k) ∧ 1 + multisL S = m + multisL (S.drop k) ∧ depthL S = max dd (depthL (S.drop k))) ∧ Hid (Below w1.heap.size w1 wr)) (fun _ _ _ vi _ => N - (intOf vi).toNat)
    case atStart => exact ⟨0, 0, 1, 0, by omega, by omega, by go_num, by go_num, by go_num, by go_num, (by unfold Hid; simp), Below.refl _ _⟩
    case round =>
      obtain ⟨k, p, m, dd, hk, hpm, rfl, rfl, rfl, rfl, HK, HW⟩ := hrel
      have c18r := blk_cell (HN1.out.below HW.out HN1.out.lt) 18 HC18.out
      by_cases hkn : k < N
      · have hkQ : k < Q.length := by rw [HSL.out]; exact hkn
        have hbw : Below w.heap.size w wr := HB1.out.trans (HW.out.mono HB1.out.size)
        obtain ⟨ad, hA, hrow⟩ := rowAt (HR.out.below (hbw.mono HB0.out.size)) HQA.out hkQ HSL.out
        subst hA
        have hdrop : S.drop k = (Q[k]).1 :: S.drop (k + 1) := by
          rw [HSQ.out, List.drop_eq_getElem_cons (by simpa using hkQ)]
          simp
        have hmem : (Q[k]).1 ∈ S := by rw [HSQ.out]; exact List.mem_map.2 ⟨_, List.getElem_mem _, rfl⟩
        have hih := HIH.out (Q[k]) (List.getElem_mem _)
        obtain ⟨⟨x, xc⟩, hx⟩ : ∃ x, x = Q[k] := ⟨_, rfl⟩
        rw [← hx] at hrow hdrop hih hmem
        dsimp only at hrow hdrop hih hmem
        have hxn := nodesL_mem hmem
        have hxc := OpC.counts_le x
        have hsl := counts_leL S
        have hnl := HNL.out
        have hk' := HK.out
        rw [hdrop, partsL, multisL, depthL] at hk'
        obtain ⟨xp, hxp⟩ : ∃ z, z = x.parts := ⟨_, rfl⟩
        obtain ⟨xm, hxm⟩ : ∃ z, z = x.multis := ⟨_, rfl⟩
        obtain ⟨xd, hxd⟩ : ∃ z, z = x.depth := ⟨_, rfl⟩
        have hih2 : ∀ W, Below wr.heap.size wr W → Calls Tryz.prog 17 #[.agg xc.toArray] W fun e w' => e = .returned (.tuple #[.int .i64 (xp : Int), .int .i64 (xm : Int), .int .i64 (xd : Int)]) ∧ Below W.heap.size W w' := fun W hW => by
          have h := hih W (by omega) ((HB0.out.trans (hbw.mono HB0.out.size)).trans (hW.mono (Nat.le_trans HB0.out.size hbw.size)))
          unfold countV at h
          rw [← hxp, ← hxm, ← hxd] at h
          exact h
        rw [← hxp, ← hxm, ← hxd] at hk'
        rw [← hxp, ← hxm, ← hxd] at hxc
        have hb1 : xp ≤ 1000000000 := by omega
        have hb2 : xm ≤ 1000000000 := by omega
        have hb3 : xd ≤ 1000000000 := by omega
        have hb4 : p + xp ≤ 1000000000 := by omega
        have hb5 : m + xm ≤ 1000000001 := by omega
        have hb6 : dd ≤ 1000000000 := by omega
        have HK' : Hid (partsL S = (p + xp) + partsL (S.drop (k + 1)) ∧ 1 + multisL S = (m + xm) + multisL (S.drop (k + 1)) ∧ depthL S = max (max dd xd) (depthL (S.drop (k + 1)))) := ⟨by omega, by omega, by omega⟩
        have HROW := Lib.hid hrow
        have HBW := Lib.hid hbw
        have HIK := Lib.hid hih2
        clear hx hrow hdrop hbw hkQ hih hih2 hmem hxp hxm hxd hk' hsl hnl hxn hxc HK
        rcases Nat.lt_or_ge dd xd with hdx | hdx
        all_goals
          go_wp2_with (first
            | (refine wpList_load_at (by rfl) 29 (.tmp 26) rfl (ad.add (k * 19)) rfl xc _ HROW.out.cells Tryz.underlying29 rfl HROW.out.info ?_)
            | (go_at_call 17
               refine (HIK.out _ (Below.refl _ _)).mono ?_
               rintro e w3 ⟨rfl, hb⟩
               have HW3 : Hid (Below w1.heap.size w1 w3) := HW.out.trans (hb.mono HW.out.size)
               clear hb))
        · go_roundw
          case rel => exact ⟨k + 1, p + xp, m + xm, xd, by omega, by omega, by go_num, by go_num, by go_num, by go_num, (by have h := HK'.out; rwa [Nat.max_eq_right (by omega : dd ≤ xd)] at h), HW3⟩
          case measure => simp [intOf]; omega
        · go_roundw
          case rel => exact ⟨k + 1, p + xp, m + xm, dd, by omega, by omega, by go_num, by go_num, by go_num, by go_num, (by have h := HK'.out; rwa [Nat.max_eq_left (by omega : xd ≤ dd)] at h), HW3⟩
          case measure => simp [intOf]; omega
      · have hkk : k = N := by omega
        subst hkk
        have HK2 : Hid (partsL S = p ∧ 1 + multisL S = m ∧ depthL S = dd) := by
          have h := HK.out
          rw [List.drop_eq_nil_of_le (by rw [HSQ.out, List.length_map, HSL.out]; exact Nat.le_refl _), partsL, multisL, depthL] at h
          exact ⟨by omega, by omega, by omega⟩
        have HBW : Hid (Below w.heap.size w wr) := HB1.out.trans (HW.out.mono HB1.out.size)
        have hdd : dd ≤ 3000000001 := by omega
        clear HK
        go_wp2
        go_ret3
        rw [HK2.out.1, HK2.out.2.1, HK2.out.2.2]
        exact ⟨rfl, HBW.out⟩
end Go.Proofs.YtpjjnmdfgcfnmaaGreatDoor
/- The document's Fields, has, Many, inner. (printed by gen_c4.py) -/
namespace Go.Proofs.YtpjjnmdfgcfnmaaGreatDoor
open Go.RowKit

def fieldsL : List (Int × List UInt8) := [(1, [112, 100, 97, 102]), (15, [112, 100, 97, 102]), (19, [112, 100, 97, 102]), (21, [112, 100, 97, 102, 108]), (2, [112, 118]), (13, [112, 118]), (5, [112, 100, 118]), (7, [112, 97, 118]), (120, [112, 99]), (121, [112]), (6, [112]), (9, [112]), (103, [112]), (104, [112]), (20, [112]), (14, [115]), (22, [115]), (101, [122, 107]), (-10, [116, 105]), (3, [112, 119]), (4, [112, 119]), (8, [112, 119]), (12, [112, 119]), (106, [112, 102]), (18, [112, 102])]
/-- the letters of a type's fields -/
def fieldsN (t : Int) : List UInt8 := ((fieldsL.find? fun x => x.1 == t).map (·.2)).getD []
set_option maxRecDepth 100000 in
theorem fields_in : ∀ x ∈ fieldsL, ∀ w, Calls Tryz.prog 54 #[.int .i32 x.1] w fun e w' => e = .returned (.string ⟨x.2.toArray⟩) ∧ w' = w := by
  intro x hx w
  simp only [fieldsL, List.mem_cons, List.not_mem_nil, or_false] at hx
  rcases hx with rfl | rfl | rfl | rfl | rfl | rfl | rfl | rfl | rfl | rfl | rfl | rfl | rfl | rfl | rfl | rfl | rfl | rfl | rfl | rfl | rfl | rfl | rfl | rfl | rfl
  all_goals
    go_enter Tryz.func54, Tryz.ntmps54
    go_wp2
    go_ret
    exact ⟨rfl, rfl⟩
set_option maxRecDepth 100000 in
theorem fields_out (t : Int) (h : ∀ x ∈ fieldsL, ¬ t = x.1) (w : World) : Calls Tryz.prog 54 #[.int .i32 t] w fun e w' => e = .returned (.string ⟨#[]⟩) ∧ w' = w := by
  simp only [fieldsL, List.forall_mem_cons, List.not_mem_nil, false_implies, implies_true, and_true] at h
  obtain ⟨h0, h1, h2, h3, h4, h5, h6, h7, h8, h9, h10, h11, h12, h13, h14, h15, h16, h17, h18, h19, h20, h21, h22, h23, h24⟩ := h
  go_enter Tryz.func54, Tryz.ntmps54
  go_wp2
  go_ret
  exact ⟨rfl, rfl⟩
theorem fields_any (t : Int) (w : World) : Calls Tryz.prog 54 #[.int .i32 t] w fun e w' => e = .returned (.string ⟨(fieldsN t).toArray⟩) ∧ w' = w := by
  obtain ⟨k, hk⟩ : ∃ k, k = fieldsN t := ⟨_, rfl⟩
  rw [← hk]
  unfold fieldsN at hk
  rcases hf : fieldsL.find? (fun x => x.1 == t) with _ | x
  · rw [hf] at hk
    simp only [Option.map_none, Option.getD_none] at hk
    subst hk
    rw [List.find?_eq_none] at hf
    exact fields_out t (fun x hx e => hf x hx (by simp [e])) w
  · rw [hf] at hk
    simp only [Option.map_some, Option.getD_some] at hk
    subst hk
    have h1 := List.mem_of_find?_eq_some hf
    have h2 := List.find?_some hf
    have h3 : x.1 = t := by simpa using h2
    rw [← h3]
    exact fields_in x h1 w


def manyN (t : Int) : Bool := t == 3 || t == 4 || t == 6 || t == 8 || t == 12
set_option maxRecDepth 100000 in
theorem refMany_any (t : Int) (w : World) : Calls Tryz.prog 117 #[.int .i32 t] w fun e w' => e = .returned (.bool (manyN t)) ∧ w' = w := by
  unfold manyN
  by_cases h : t = 3 ∨ t = 4 ∨ t = 6 ∨ t = 8 ∨ t = 12
  · rcases h with rfl | rfl | rfl | rfl | rfl
    all_goals
      go_enter Tryz.func117, Tryz.ntmps117
      go_wp2
      go_ret
      exact ⟨rfl, rfl⟩
  · have h3 : ¬ t = 3 := fun e => h (.inl e)
    have h4 : ¬ t = 4 := fun e => h (.inr (.inl e))
    have h6 : ¬ t = 6 := fun e => h (.inr (.inr (.inl e)))
    have h8 : ¬ t = 8 := fun e => h (.inr (.inr (.inr (.inl e))))
    have h12 : ¬ t = 12 := fun e => h (.inr (.inr (.inr (.inr e))))
    have hf : (t == 3 || t == 4 || t == 6 || t == 8 || t == 12) = false := by simp [h3, h4, h6, h8, h12]
    rw [hf]
    clear h hf
    go_enter Tryz.func117, Tryz.ntmps117
    go_wp2
    go_ret
    exact ⟨by simp [h3, h4, h6, h8, h12], rfl⟩
set_option maxRecDepth 100000 in
theorem refInner_any (t i : Int) (w : World) : Calls Tryz.prog 75 #[.int .i32 i, .int .i32 t] w fun e w' => e = .returned (.bool (mayN t i)) ∧ w' = w := by
  by_cases hi : i = 22
  · subst hi
    have hm : mayN t 22 = manyN t := rfl
    rw [hm]
    have HM := Lib.hid (fun W => refMany_any t W)
    generalize manyN t = b at HM ⊢
    clear hm
    go_enter Tryz.func75, Tryz.ntmps75
    go_wp2_with (go_at_call 117; refine (HM.out _).mono ?_; rintro e w2 ⟨rfl, rfl⟩)
    go_ret
    exact ⟨rfl, rfl⟩
  · have hm : mayN t i = (kindN t == 3 || kindN t == 2) := by unfold mayN; rw [if_neg hi]
    rw [hm]
    have HK := Lib.hid (fun W => refKind_any t W)
    generalize kindN t = k at HK ⊢
    clear hm
    by_cases h3 : k = 3
    · subst h3
      go_enter Tryz.func75, Tryz.ntmps75
      go_wp2_with (go_at_call 12; refine (HK.out _).mono ?_; rintro e w2 ⟨rfl, rfl⟩)
      go_ret
      exact ⟨rfl, rfl⟩
    · go_enter Tryz.func75, Tryz.ntmps75
      go_wp2_with (go_at_call 12; refine (HK.out _).mono ?_; rintro e w2 ⟨rfl, rfl⟩)
      go_ret
      exact ⟨by simp [h3], rfl⟩
theorem has_val {l : List UInt8} {c : UInt8} (h : ∀ j (hj : j < l.length), ¬ l[j] = c) : ¬ c ∈ l := by
  intro hc
  obtain ⟨j, hj, e⟩ := List.mem_iff_getElem.1 hc
  exact h j hj e
set_option maxRecDepth 100000 in
set_option maxHeartbeats 4000000 in
theorem refHas_any (l : List UInt8) (c : UInt8) (w : World) (hl : l.length ≤ 1000) : Calls Tryz.prog 116 #[.string ⟨l.toArray⟩, .int .u8 (c.toNat : Int)] w fun e w' => e = .returned (.bool (decide (c ∈ l))) ∧ w' = w := by
  obtain ⟨s, hs⟩ : ∃ s : ByteArray, s = ⟨l.toArray⟩ := ⟨_, rfl⟩
  have hsz : s.size = l.length := by rw [hs]; simp [ByteArray.size]
  have HIX : Hid (∀ W (k : Nat) (hk : k < l.length), (Instr.index 9 (.string s) (.int .i64 (k : Int))).run Tryz.prog W = .ok (.int .u8 ((l[k]).toNat : Int)) W) := fun W k hk => by
    have hks : k < s.size := by rw [hsz]; exact hk
    rw [run_index_string W _ s .i64 k Tryz.underlying9, dif_pos ⟨by omega, by omega⟩]
    subst hs
    rfl
  rw [← hs]
  have HS := Lib.hid hs
  clear hs
  go_enter Tryz.func116, Tryz.ntmps116
  go_wp2
  go_loop [5] (fun vi => ∃ k : Nat, k ≤ l.length ∧ vi = .int .i64 (k : Int) ∧ Hid (∀ j (hj : j < l.length), j < k → ¬ l[j] = c)) (fun vi => l.length - (intOf vi).toNat)
  case atStart => exact ⟨0, by omega, rfl, fun j _ h => absurd h (by omega)⟩
  case round =>
    obtain ⟨k, hk, rfl, HN⟩ := hrel
    by_cases hlt : k < l.length
    · have hx := HIX.out w k hlt
      by_cases he : l[k] = c
      · have hc : c ∈ l := by rw [← he]; exact List.getElem_mem _
        rw [he] at hx
        have HC := Lib.hid hc
        clear hc he HIX
        go_wp2
        go_ret
        exact ⟨by rw [decide_eq_true HC.out]; rfl, rfl⟩
      · have hne : ¬ (((l[k]).toNat : Int) = (c.toNat : Int)) := fun e => he (UInt8.toNat_inj.1 (by omega))
        have hnb : ((((l[k]).toNat : Int)) == (c.toNat : Int)) = false := by simpa using hne
        have HN' : Hid (∀ j (hj : j < l.length), j < k + 1 → ¬ l[j] = c) := fun j hj hjk => by
          rcases Nat.lt_or_ge j k with h | h
          · exact HN.out j hj h
          · obtain rfl : j = k := by omega
            exact he
        clear he
        go_wp2
        go_round
        case rel => exact ⟨k + 1, by omega, by go_num, HN'.out⟩
        case measure => simp [intOf]; omega
    · have hc : ¬ c ∈ l := has_val fun j hj => HN.out j hj (by omega)
      have HC := Lib.hid hc
      clear hc
      go_wp2
      go_ret
      exact ⟨by rw [decide_eq_false HC.out]; rfl, rfl⟩
end Go.Proofs.YtpjjnmdfgcfnmaaGreatDoor
/- The document's size: whether an operation's own fields are too great: plain. -/
namespace Go.Proofs.YtpjjnmdfgcfnmaaGreatDoor
open Go.RowKit

theorem big_kl {f : OpF} {n j : Nat} (hj : j < 5) (h : 1024 < (f.lists[j]'hj).length) : bigB f n = true := by
  have : (f.lists.any fun l => decide ((l.length : Int) > 1024)) = true := List.any_eq_true.2 ⟨_, List.getElem_mem hj, decide_eq_true (by omega)⟩
  simp [bigB, manyB, this]
theorem mem_texts {f : OpF} {j : Nat} (hj : j < 5) {x : ByteArray} (h : x ∈ f.lists[j]'hj) : x ∈ f.texts := by
  rcases (by omega : j = 0 ∨ j = 1 ∨ j = 2 ∨ j = 3 ∨ j = 4) with rfl | rfl | rfl | rfl | rfl <;> simp [OpF.lists, OpF.texts] at h ⊢ <;> simp [h]
theorem big_kt {f : OpF} {n j : Nat} (hj : j < 5) {x : ByteArray} (hx : x ∈ f.lists[j]'hj) (h : 4096 < x.size) : bigB f n = true := by
  have : f.texts.any longP = true := List.any_eq_true.2 ⟨x, mem_texts hj hx, by unfold longP; exact decide_eq_true (by omega)⟩
  simp [bigB, manyB, this]
theorem strCells_map (L : List ByteArray) : strCells L = L.map Value.string := by
  unfold strCells
  induction L with
  | nil => rfl
  | cons x r ih => rw [List.flatMap_cons, ih]; rfl
theorem str_cellO {w : World} {B n : Nat} {A : Option Addr} {L : List ByteArray} (h : Reads w B 1 A n (strCells L)) (hn : L.length = n) {j : Nat} (hj : j < L.length) : ∃ ad, A = some ad ∧ w.cell? (ad.add j) = some (.string L[j]) := by
  obtain ⟨ad, hA, _, hc⟩ := h.2 (by omega)
  refine ⟨ad, hA, hc j _ ?_⟩
  rw [strCells_map, List.getElem?_map, List.getElem?_eq_getElem hj]
  rfl
theorem id_cellsO {w : World} {B n : Nat} {A : Option Addr} {L : List (ByteArray × ByteArray)} (h : Reads w B 2 A n (idCells L)) (hn : L.length = n) {j : Nat} (hj : j < L.length) : ∃ ad, A = some ad ∧ w.cell? (ad.add (j * 2)) = some (.string L[j].1) ∧ w.cell? (ad.add (j * 2 + 1)) = some (.string L[j].2) := by
  obtain ⟨ad, hA, _, hc⟩ := h.2 (by omega)
  have hx : ∀ (L : List (ByteArray × ByteArray)) (j : Nat) (hj : j < L.length), (idCells L)[j * 2]? = some (.string L[j].1) ∧ (idCells L)[j * 2 + 1]? = some (.string L[j].2) := by
    intro L
    induction L with
    | nil => intro j hj; simp at hj
    | cons x r ih =>
      intro j hj
      cases j with
      | zero => exact ⟨rfl, rfl⟩
      | succ j =>
        have := ih j (by simpa using hj)
        have e : idCells (x :: r) = [.string x.1, .string x.2] ++ idCells r := rfl
        rw [e, List.getElem?_append_right (by simp; omega), List.getElem?_append_right (by simp; omega)]
        simpa [show (j + 1) * 2 - 2 = j * 2 from by omega, show (j + 1) * 2 + 1 - 2 = j * 2 + 1 from by omega] using this
  exact ⟨ad, hA, hc _ _ (hx L j hj).1, hc _ _ (hx L j hj).2⟩
end Go.Proofs.YtpjjnmdfgcfnmaaGreatDoor
