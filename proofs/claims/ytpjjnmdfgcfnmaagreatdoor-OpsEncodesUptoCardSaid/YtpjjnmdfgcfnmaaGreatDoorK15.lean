/- Part 15 of a proof: lemmas and walks. -/
import Derived.Test.YtpjjnmdfgcfnmaaGreatDoorK3
import Derived.Test.YtpjjnmdfgcfnmaaGreatDoorK14
import Derived.Test.YtpjjnmdfgcfnmaaGreatDoorK4
import Derived.Lib.AppendStr
import Derived.Test.YtpjjnmdfgcfnmaaGreatDoorK1
set_option linter.unusedVariables false
set_option linter.unusedSimpArgs false
set_option maxRecDepth 100000
set_option maxHeartbeats 8000000
namespace Go.Proofs.YtpjjnmdfgcfnmaaGreatDoor
open Go.RowKit

theorem rkind_in : ∀ x ∈ kindL, ∀ w, Calls Tryz.prog 12 #[.int .i32 x.1] w fun e w' => e = .returned (.int .i64 x.2) ∧ w' = w := by
 intro x hx w
 simp only [kindL, zH, zI, or_false] at hx
 rcases hx with rfl | rfl | rfl | rfl | rfl | rfl | rfl | rfl | rfl | rfl | rfl | rfl | rfl | rfl | rfl | rfl | rfl | rfl | rfl | rfl | rfl | rfl | rfl | rfl | rfl | rfl | rfl | rfl
 all_goals
  go_enter Tryz.func12, Tryz.ntmps12
  go_wp2
  go_ret
  exact ⟨rfl, rfl⟩
theorem rkind_out (t : Int) (h : ∀ x ∈ kindL, ¬ t = x.1) (w : World) : Calls Tryz.prog 12 #[.int .i32 t] w fun e w' => e = .returned (.int .i64 0) ∧ w' = w := by
 simp only [kindL, List.forall_mem_cons, zI, false_implies, implies_true, and_true] at h
 obtain ⟨h0, h1, h2, h3, h4, h5, h6, h7, h8, h9, h10, h11, h12, h13, h14, h15, h16, h17, h18, h19, h20, h21, h22, h23, h24, h25, h26, h27⟩ := h
 go_enter Tryz.func12, Tryz.ntmps12
 go_wp2
 go_ret
 exact ⟨rfl, rfl⟩
theorem refKind_any (t : Int) (w : World) : Calls Tryz.prog 12 #[.int .i32 t] w fun e w' => e = .returned (.int .i64 (kindN t)) ∧ w' = w := by
 obtain ⟨k, hk⟩ : ∃ k, k = kindN t := ⟨_, rfl⟩
 rw [← hk]
 unfold kindN at hk
 rcases hf : kindL.find? (fun x => x.1 == t) with _ | x
 · rw [hf] at hk
   simp only [Option.map_none, Option.getD_none] at hk
   subst hk
   rw [List.find?_eq_none] at hf
   exact rkind_out t (fun x hx e => hf x hx (by simp [e])) w
 · rw [hf] at hk
   simp only [Option.map_some, Option.getD_some] at hk
   subst hk
   have h1 := List.mem_of_find?_eq_some hf
   have h2 := List.find?_some hf
   have h3 : x.1 = t := by simpa using h2
   rw [← h3]
   exact rkind_in x h1 w

theorem refCount_any {w0 : World} {lo : Option Nat} {x : OpC} {xs : List Value} (h : At w0 lo x xs) : ∀ (w : World), x.nodes ≤ 1000000000 → Below w0.heap.size w0 w →
 Calls Tryz.prog 17 #[.agg xs.toArray] w fun e w' => e = .returned (countV x) ∧ Below w.heap.size w w' := by
 induction h with
 | mk f d a k0 k1 k2 k3 k4 i s Q ok hd ha hk0 hk1 hk2 hk3 hk4 hi hs hQ ih =>
   intro w hn hb0
   obtain ⟨cs, hcs⟩ : ∃ cs : Array Value, cs = (f.row d a k0 k1 k2 k3 k4 i s).toArray := ⟨_, rfl⟩
   rw [← hcs]
   obtain ⟨w1, hw1⟩ := xa w cs 29
   have hz1 : w1.heap.size = w.heap.size + 1 := by rw [← hw1]; simp
   have HB1 := Hi (zV hw1)
   have HN1 := Hi (zW hw1)
   have HC0 : Hid (cs[0]? = some (.int .i32 f.t)) := by unfold Hid; rw [hcs]; rfl
   have HC18 : Hid (cs[18]? = some (.slice s.A s.n s.c)) := by unfold Hid; rw [hcs]; rfl
   have HR : Hid (Reads w w0.heap.size 19 s.A s.n (Q.flatMap Prod.snd)) := hs.reads.below hb0
   have HQA : Hid (∀ q ∈ Q, At w0 lo q.1 q.2) := hQ
   have HSL : Hid (Q.length = s.n) := hs.len
   have HIH : Hid (∀ q ∈ Q, ∀ (W : World), q.1.nodes ≤ 1000000000 → Below w0.heap.size w0 W → Calls Tryz.prog 17 #[.agg q.2.toArray] W fun e w' => e = .returned (countV q.1) ∧ Below W.heap.size W w') := ih
   have HB0 := Hi hb0
   have hlen : s.n ≤ 4611686018427387904 := hs.bd (by decide)
   obtain ⟨S, hS⟩ : ∃ S, S = Q.map Prod.fst := ⟨_, rfl⟩
   have HSQ := Hi hS
   rw [← hS] at hn ⊢
   have hnl : nodesL S + 1 ≤ 1000000000 := by rwa [OpC.nodes] at hn
   have HNL := Hi hnl
   have c0 := yC HN1.out 0 HC0.out
   have c18 := yC HN1.out 18 HC18.out
   unfold countV
   rw [OpC.parts, OpC.multis, OpC.depth]
   clear hcs ih hs hd ha hk0 hk1 hk2 hk3 hk4 hi hQ ok hb0 hS hn hnl
   obtain ⟨A, N, c⟩ := s
   dsimp only at HR HSL hlen HC18 c18
   by_cases ht : f.t = 14
   rotate_left
   · rw [if_neg ht, if_neg ht, if_neg ht]
     go_enter Tryz.func17, Tryz.ntmps17
     go_wp2
     go_ret3
     exact ⟨rfl, HB1.out⟩
   rw [if_pos ht, if_pos ht, if_pos ht]
   go_enter Tryz.func17, Tryz.ntmps17
   go_wp2
   go_loopw [5, 6, 7, 8] (fun vp vm vd vi wr => ∃ (k p m dd : Nat), k ≤ N ∧ p + m + dd ≤ 3000000001 ∧ vp = .int .i64 (p : Int) ∧ vm = .int .i64 (m : Int) ∧ vd = .int .i64 ((dd : Int) + 1) ∧ vi = .int .i64 (k : Int) ∧ Hid (partsL S = p + partsL (S.drop k) ∧ 1 + multisL S = m + multisL (S.drop k) ∧ depthL S = max dd (depthL (S.drop k))) ∧ Hid (Below w1.heap.size w1 wr)) (fun _ _ _ vi _ => N - (intOf vi).toNat)
   case atStart => exact ⟨0, 0, 1, 0, by omega, by omega, by go_num, by go_num, by go_num, by go_num, (by unfold Hid; simp), Below.refl _ _⟩
   case round =>
    obtain ⟨k, p, m, dd, hk, hpm, rfl, rfl, rfl, rfl, HK, HW⟩ := hrel
    have c18r := yC (HN1.out.below HW.out HN1.out.lt) 18 HC18.out
    by_cases hkn : k < N
    · have hkQ : k < Q.length := by rw [HSL.out]; exact hkn
      have hbw : Below w.heap.size w wr := HB1.out.trans (HW.out.mono HB1.out.size)
      obtain ⟨ad, hA, hrow⟩ := rowAt (HR.out.below (hbw.mono HB0.out.size)) HQA.out hkQ HSL.out
      subst hA
      have hdrop : S.drop k = (Q[k]).1 :: S.drop (k + 1) := by
       rw [HSQ.out, List.drop_eq_getElem_cons (by simpa using hkQ)]
       simp
      have hmem : (Q[k]).1 ∈ S := by rw [HSQ.out]; exact List.mem_map.2 ⟨_, List.getElem_mem _, rfl⟩
      have hih := HIH.out (Q[k]) (List.getElem_mem _)
      obtain ⟨⟨x, xc⟩, hx⟩ : ∃ x, x = Q[k] := ⟨_, rfl⟩
      rw [← hx] at hrow hdrop hih hmem
      dsimp only at hrow hdrop hih hmem
      have hxn := nodesL_mem hmem
      have hxc := OpC.counts_le x
      have hsl := counts_leL S
      have hnl := HNL.out
      have hk' := HK.out
      rw [hdrop, partsL, multisL, depthL] at hk'
      obtain ⟨xp, hxp⟩ : ∃ z, z = x.parts := ⟨_, rfl⟩
      obtain ⟨xm, hxm⟩ : ∃ z, z = x.multis := ⟨_, rfl⟩
      obtain ⟨xd, hxd⟩ : ∃ z, z = x.depth := ⟨_, rfl⟩
      have hih2 : ∀ W, Below wr.heap.size wr W → Calls Tryz.prog 17 #[.agg xc.toArray] W fun e w' => e = .returned (.tuple #[.int .i64 (xp : Int), .int .i64 (xm : Int), .int .i64 (xd : Int)]) ∧ Below W.heap.size W w' := fun W hW => by
       have h := hih W (by omega) ((HB0.out.trans (hbw.mono HB0.out.size)).trans (hW.mono (Nat.le_trans HB0.out.size hbw.size)))
       unfold countV at h
       rw [← hxp, ← hxm, ← hxd] at h
       exact h
      rw [← hxp, ← hxm, ← hxd] at hk'
      rw [← hxp, ← hxm, ← hxd] at hxc
      have hb1 : xp ≤ 1000000000 := by omega
      have hb2 : xm ≤ 1000000000 := by omega
      have hb3 : xd ≤ 1000000000 := by omega
      have hb4 : p + xp ≤ 1000000000 := by omega
      have hb5 : m + xm ≤ 1000000001 := by omega
      have hb6 : dd ≤ 1000000000 := by omega
      have HK' : Hid (partsL S = (p + xp) + partsL (S.drop (k + 1)) ∧ 1 + multisL S = (m + xm) + multisL (S.drop (k + 1)) ∧ depthL S = max (max dd xd) (depthL (S.drop (k + 1)))) := ⟨by omega, by omega, by omega⟩
      have HROW := Hi hrow
      have HBW := Hi hbw
      have HIK := Hi hih2
      clear hx hrow hdrop hbw hkQ hih hih2 hmem hxp hxm hxd hk' hsl hnl hxn hxc HK
      rcases Nat.lt_or_ge dd xd with hdx | hdx
      all_goals
       go_wp2_with (first
        | (refine wpList_load_at (by rfl) 29 (.tmp 26) rfl (ad.add (k * 19)) rfl xc _ HROW.out.cells zU29 rfl HROW.out.info ?_)
        | (go_at_call 17
           refine (HIK.out _ zT).mono ?_
           rintro e w3 ⟨rfl, hb⟩
           have HW3 : Hid (Below w1.heap.size w1 w3) := HW.out.trans (hb.mono HW.out.size)
           clear hb))
      · go_roundw
        case rel => exact ⟨k + 1, p + xp, m + xm, xd, by omega, by omega, by go_num, by go_num, by go_num, by go_num, (by have h := HK'.out; rwa [Nat.max_eq_right (by omega : dd ≤ xd)] at h), HW3⟩
        case measure => simp [intOf]; omega
      · go_roundw
        case rel => exact ⟨k + 1, p + xp, m + xm, dd, by omega, by omega, by go_num, by go_num, by go_num, by go_num, (by have h := HK'.out; rwa [Nat.max_eq_left (by omega : xd ≤ dd)] at h), HW3⟩
        case measure => simp [intOf]; omega
    · have hkk : k = N := by omega
      subst hkk
      have HK2 : Hid (partsL S = p ∧ 1 + multisL S = m ∧ depthL S = dd) := by
       have h := HK.out
       rw [List.drop_eq_nil_of_le (by rw [HSQ.out, List.length_map, HSL.out]; exact Nat.le_refl _), partsL, multisL, depthL] at h
       exact ⟨by omega, by omega, by omega⟩
      have HBW : Hid (Below w.heap.size w wr) := HB1.out.trans (HW.out.mono HB1.out.size)
      have hdd : dd ≤ 3000000001 := by omega
      clear HK
      go_wp2
      go_ret3
      rw [HK2.out.1, HK2.out.2.1, HK2.out.2.2]
      exact ⟨rfl, HBW.out⟩

def fieldsL : List (Int × List UInt8) := [(1, [112, 100, 97, 102]), (15, [112, 100, 97, 102]), (19, [112, 100, 97, 102]), (21, [112, 100, 97, 102, 108]), (2, [112, 118]), (13, [112, 118]), (5, [112, 100, 118]), (7, [112, 97, 118]), (120, [112, 99]), (121, [112]), (6, [112]), (9, [112]), (103, [112]), (104, [112]), (20, [112]), (14, [115]), (22, [115]), (101, [122, 107]), (-10, [116, 105]), (3, [112, 119]), (4, [112, 119]), (8, [112, 119]), (12, [112, 119]), (106, [112, 102]), (18, [112, 102])]
def fieldsN (t : Int) : List UInt8 := ((fieldsL.find? fun x => x.1 == t).map (·.2)).getD []
theorem fields_in : ∀ x ∈ fieldsL, ∀ w, Calls Tryz.prog 54 #[.int .i32 x.1] w fun e w' => e = .returned (.string ⟨x.2.toArray⟩) ∧ w' = w := by
 intro x hx w
 simp only [fieldsL, zH, zI, or_false] at hx
 rcases hx with rfl | rfl | rfl | rfl | rfl | rfl | rfl | rfl | rfl | rfl | rfl | rfl | rfl | rfl | rfl | rfl | rfl | rfl | rfl | rfl | rfl | rfl | rfl | rfl | rfl
 all_goals
  go_enter Tryz.func54, Tryz.ntmps54
  go_wp2
  go_ret
  exact ⟨rfl, rfl⟩
theorem fields_out (t : Int) (h : ∀ x ∈ fieldsL, ¬ t = x.1) (w : World) : Calls Tryz.prog 54 #[.int .i32 t] w fun e w' => e = .returned (.string ⟨#[]⟩) ∧ w' = w := by
 simp only [fieldsL, List.forall_mem_cons, zI, false_implies, implies_true, and_true] at h
 obtain ⟨h0, h1, h2, h3, h4, h5, h6, h7, h8, h9, h10, h11, h12, h13, h14, h15, h16, h17, h18, h19, h20, h21, h22, h23, h24⟩ := h
 go_enter Tryz.func54, Tryz.ntmps54
 go_wp2
 go_ret
 exact ⟨rfl, rfl⟩
theorem fields_any (t : Int) (w : World) : Calls Tryz.prog 54 #[.int .i32 t] w fun e w' => e = .returned (.string ⟨(fieldsN t).toArray⟩) ∧ w' = w := by
 obtain ⟨k, hk⟩ : ∃ k, k = fieldsN t := ⟨_, rfl⟩
 rw [← hk]
 unfold fieldsN at hk
 rcases hf : fieldsL.find? (fun x => x.1 == t) with _ | x
 · rw [hf] at hk
   simp only [Option.map_none, Option.getD_none] at hk
   subst hk
   rw [List.find?_eq_none] at hf
   exact fields_out t (fun x hx e => hf x hx (by simp [e])) w
 · rw [hf] at hk
   simp only [Option.map_some, Option.getD_some] at hk
   subst hk
   have h1 := List.mem_of_find?_eq_some hf
   have h2 := List.find?_some hf
   have h3 : x.1 = t := by simpa using h2
   rw [← h3]
   exact fields_in x h1 w


def manyN (t : Int) : Bool := t == 3 || t == 4 || t == 6 || t == 8 || t == 12
theorem refMany_any (t : Int) (w : World) : Calls Tryz.prog 117 #[.int .i32 t] w fun e w' => e = .returned (.bool (manyN t)) ∧ w' = w := by
 unfold manyN
 by_cases h : t = 3 ∨ t = 4 ∨ t = 6 ∨ t = 8 ∨ t = 12
 · rcases h with rfl | rfl | rfl | rfl | rfl
   all_goals
    go_enter Tryz.func117, Tryz.ntmps117
    go_wp2
    go_ret
    exact ⟨rfl, rfl⟩
 · have h3 : ¬ t = 3 := fun e => h (.inl e)
   have h4 : ¬ t = 4 := fun e => h (.inr (.inl e))
   have h6 : ¬ t = 6 := fun e => h (.inr (.inr (.inl e)))
   have h8 : ¬ t = 8 := fun e => h (.inr (.inr (.inr (.inl e))))
   have h12 : ¬ t = 12 := fun e => h (.inr (.inr (.inr (.inr e))))
   have hf : (t == 3 || t == 4 || t == 6 || t == 8 || t == 12) = false := by simp [h3, h4, h6, h8, h12]
   rw [hf]
   clear h hf
   go_enter Tryz.func117, Tryz.ntmps117
   go_wp2
   go_ret
   exact ⟨by simp [h3, h4, h6, h8, h12], rfl⟩
theorem refInner_any (t i : Int) (w : World) : Calls Tryz.prog 75 #[.int .i32 i, .int .i32 t] w fun e w' => e = .returned (.bool (mayN t i)) ∧ w' = w := by
 by_cases hi : i = 22
 · subst hi
   have hm : mayN t 22 = manyN t := rfl
   rw [hm]
   have HM := Hi (fun W => refMany_any t W)
   generalize manyN t = b at HM ⊢
   clear hm
   go_enter Tryz.func75, Tryz.ntmps75
   go_wp2_with (go_at_call 117; refine (HM.out _).mono ?_; rintro e w2 ⟨rfl, rfl⟩)
   go_ret
   exact ⟨rfl, rfl⟩
 · have hm : mayN t i = (kindN t == 3 || kindN t == 2) := by unfold mayN; rw [if_neg hi]
   rw [hm]
   have HK := Hi (fun W => refKind_any t W)
   generalize kindN t = k at HK ⊢
   clear hm
   by_cases h3 : k = 3
   · subst h3
     go_enter Tryz.func75, Tryz.ntmps75
     go_wp2_with (go_at_call 12; refine (HK.out _).mono ?_; rintro e w2 ⟨rfl, rfl⟩)
     go_ret
     exact ⟨rfl, rfl⟩
   · go_enter Tryz.func75, Tryz.ntmps75
     go_wp2_with (go_at_call 12; refine (HK.out _).mono ?_; rintro e w2 ⟨rfl, rfl⟩)
     go_ret
     exact ⟨by simp [h3], rfl⟩
theorem has_val {l : List UInt8} {c : UInt8} (h : ∀ j (hj : j < l.length), ¬ l[j] = c) : ¬ c ∈ l := by
 intro hc
 obtain ⟨j, hj, e⟩ := List.mem_iff_getElem.1 hc
 exact h j hj e
theorem refHas_any (l : List UInt8) (c : UInt8) (w : World) (hl : l.length ≤ 1000) : Calls Tryz.prog 116 #[.string ⟨l.toArray⟩, .int .u8 (c.toNat : Int)] w fun e w' => e = .returned (.bool (decide (c ∈ l))) ∧ w' = w := by
 obtain ⟨s, hs⟩ : ∃ s : ByteArray, s = ⟨l.toArray⟩ := ⟨_, rfl⟩
 have hsz : s.size = l.length := by rw [hs]; simp [ByteArray.size]
 have HIX : Hid (∀ W (k : Nat) (hk : k < l.length), (Instr.index 9 (.string s) (.int .i64 (k : Int))).run Tryz.prog W = .ok (.int .u8 ((l[k]).toNat : Int)) W) := fun W k hk => by
  have hks : k < s.size := by rw [hsz]; exact hk
  rw [run_index_string W _ s .i64 k zU9, dif_pos ⟨by omega, by omega⟩]
  subst hs
  rfl
 rw [← hs]
 have HS := Hi hs
 clear hs
 go_enter Tryz.func116, Tryz.ntmps116
 go_wp2
 go_loop [5] (fun vi => ∃ k : Nat, k ≤ l.length ∧ vi = .int .i64 (k : Int) ∧ Hid (∀ j (hj : j < l.length), j < k → ¬ l[j] = c)) (fun vi => l.length - (intOf vi).toNat)
 case atStart => exact ⟨0, by omega, rfl, fun j _ h => absurd h (by omega)⟩
 case round =>
  obtain ⟨k, hk, rfl, HN⟩ := hrel
  by_cases hlt : k < l.length
  · have hx := HIX.out w k hlt
    by_cases he : l[k] = c
    · have hc : c ∈ l := by rw [← he]; exact List.getElem_mem _
      rw [he] at hx
      have HC := Hi hc
      clear hc he HIX
      go_wp2
      go_ret
      exact ⟨by rw [decide_eq_true HC.out]; rfl, rfl⟩
    · have hne : ¬ (((l[k]).toNat : Int) = (c.toNat : Int)) := fun e => he (UInt8.toNat_inj.1 (by omega))
      have hnb : ((((l[k]).toNat : Int)) == (c.toNat : Int)) = false := by simpa using hne
      have HN' : Hid (∀ j (hj : j < l.length), j < k + 1 → ¬ l[j] = c) := fun j hj hjk => by
       rcases Nat.lt_or_ge j k with h | h
       · exact HN.out j hj h
       · obtain rfl : j = k := by omega
         exact he
      clear he
      go_wp2
      go_round
      case rel => exact ⟨k + 1, by omega, by go_num, HN'.out⟩
      case measure => simp [intOf]; omega
  · have hc : ¬ c ∈ l := has_val fun j hj => HN.out j hj (by omega)
    have HC := Hi hc
    clear hc
    go_wp2
    go_ret
    exact ⟨by rw [decide_eq_false HC.out]; rfl, rfl⟩

theorem big_kl {f : OpF} {n j : Nat} (hj : j < 5) (h : 1024 < (f.lists[j]'hj).length) : bigB f n = true := by
 have : (f.lists.any fun l => decide ((l.length : Int) > 1024)) = true := List.any_eq_true.2 ⟨_, List.getElem_mem hj, decide_eq_true (by omega)⟩
 simp [bigB, manyB, this]
theorem mem_texts {f : OpF} {j : Nat} (hj : j < 5) {x : ByteArray} (h : x ∈ f.lists[j]'hj) : x ∈ f.texts := by
 rcases (by omega : j = 0 ∨ j = 1 ∨ j = 2 ∨ j = 3 ∨ j = 4) with rfl | rfl | rfl | rfl | rfl <;> simp [OpF.lists, OpF.texts] at h ⊢ <;> simp [h]
theorem big_kt {f : OpF} {n j : Nat} (hj : j < 5) {x : ByteArray} (hx : x ∈ f.lists[j]'hj) (h : 4096 < x.size) : bigB f n = true := by
 have : f.texts.any longP = true := List.any_eq_true.2 ⟨x, mem_texts hj hx, by unfold longP; exact decide_eq_true (by omega)⟩
 simp [bigB, manyB, this]
theorem strCells_map (L : List ByteArray) : strCells L = L.map Value.string := by
 unfold strCells
 induction L with
 | nil => rfl
 | cons x r ih => rw [List.flatMap_cons, ih]; rfl
theorem str_cellO {w : World} {B n : Nat} {A : Option Addr} {L : List ByteArray} (h : Reads w B 1 A n (strCells L)) (hn : L.length = n) {j : Nat} (hj : j < L.length) : ∃ ad, A = some ad ∧ w.cell? (ad.add j) = some (.string L[j]) := by
 obtain ⟨ad, hA, _, hc⟩ := h.2 (by omega)
 refine ⟨ad, hA, hc j _ ?_⟩
 rw [strCells_map, List.getElem?_map, List.getElem?_eq_getElem hj]
 rfl
theorem id_cellsO {w : World} {B n : Nat} {A : Option Addr} {L : List (ByteArray × ByteArray)} (h : Reads w B 2 A n (idCells L)) (hn : L.length = n) {j : Nat} (hj : j < L.length) : ∃ ad, A = some ad ∧ w.cell? (ad.add (j * 2)) = some (.string L[j].1) ∧ w.cell? (ad.add (j * 2 + 1)) = some (.string L[j].2) := by
 obtain ⟨ad, hA, _, hc⟩ := h.2 (by omega)
 have hx : ∀ (L : List (ByteArray × ByteArray)) (j : Nat) (hj : j < L.length), (idCells L)[j * 2]? = some (.string L[j].1) ∧ (idCells L)[j * 2 + 1]? = some (.string L[j].2) := by
  intro L
  induction L with
  | nil => intro j hj; simp at hj
  | cons x r ih =>
    intro j hj
    cases j with
    | zero => exact ⟨rfl, rfl⟩
    | succ j =>
      have := ih j (by simpa using hj)
      have e : idCells (x :: r) = [.string x.1, .string x.2] ++ idCells r := rfl
      rw [e, List.getElem?_append_right (by simp; omega), List.getElem?_append_right (by simp; omega)]
      simpa [show (j + 1) * 2 - 2 = j * 2 from by omega, show (j + 1) * 2 + 1 - 2 = j * 2 + 1 from by omega] using this
 exact ⟨ad, hA, hc _ _ (hx L j hj).1, hc _ _ (hx L j hj).2⟩

def OpAt (w : World) (base pb : Nat) (x : OpC) : Prop := ∃ cs : List Value, Blk w pb 29 cs.toArray ∧ At w (some base) x cs
def DidG (B : Nat → Prop) (R c : Nat) (A : Option Addr) (l : List UInt8) (pb : Nat) (r : (OpC × Nat) ⊕ (Int × Nat)) (w : World) (e : Ending) (w' : World) : Prop :=
 match r with
 | .inl (x, q) => (∃ v, e = .returned v) ∧ OpAt w' w.heap.size pb x ∧ Kp [R, pb] w w' ∧ Rdr w' B R A c l q
 | .inr (er, q) => e = .panicked (fails R er) ∧ Kp [R, pb] w w' ∧ Rdr w' B R A c l q
theorem getsQ_any (B : Nat → Prop) (R c p ob pb : Nat) (A : Option Addr) (l : List UInt8) (t : Int) (old : Array Value) (w : World) (HG : GetT t (l.length + 1)) (ht : (Lit.int .i32 t).wf = true) (h : Rdr w B R A c l p) (ho : w.cell? ⟨ob, 0, none⟩ = some (.int .i32 t)) (hp : Blk w pb 29 old) (hz : old.size = 19) (hne : R ≠ pb) (hB : ¬ B pb) :
 Calls Tryz.prog 51 #[.pointer (some ⟨R, 0, none⟩), .pointer (some ⟨ob, 0, none⟩), .pointer (some ⟨pb, 0, none⟩)] w fun e w' => DidG B R c A l pb (gOp t l p) w e w' := by
 have hg := opGet_any B R c p A l t w HG ht h
 have hlt := hp.lt
 have HP := Hi hp
 have HZ := Hi hz
 have HN := Hi hne
 have HB := Hi hB
 unfold DidG
 rcases h1 : gOp t l p with ⟨x, q⟩ | ⟨er, q⟩
 rotate_left
 · rw [h1] at hg
   have HC := Hi hg
   clear hg h1 HG ht h hp hz hne hB
   go_enter Tryz.func51, Tryz.ntmps51
   go_wp2_with (go_at_call 52; refine HC.out.mono ?_; rintro e w5 ⟨rfl, hkp, hR⟩; have HK := Hi hkp; have HR := Hi hR; clear hkp hR)
   exact ⟨rfl, rfl, HK.out.mono (fun x hx _ => by simp at hx; simp [hx]), HR.out⟩
 rw [h1] at hg
 have HC := Hi hg
 clear hg h1 HG ht h hp hz hne hB
 go_enter Tryz.func51, Tryz.ntmps51
 go_wp2_with (first
  | (go_at_call 52
     refine HC.out.mono ?_
     rintro e w5 ⟨⟨v, rfl, cs, rfl, hat⟩, hkp, hR⟩
     have HAT := Hi hat
     have HK := Hi hkp
     have HR := Hi hR
     have HB5 := Hi (HP.out.kp hkp (by have := HN.out; simp; omega))
     have HIS : Hid ((Tryz.prog.info? 29).map (·.size) = some cs.toArray.size) := (by unfold Hid; rw [zO, hat.len]; exact isz_29)
     have HSZ : Hid (old.size = cs.toArray.size) := (by unfold Hid; rw [HZ.out, zO, hat.len])
     have HON := Hi hat.one
     clear hat hkp hR)
  | (with_reducible refine wpSt 2 ?_
     refine wpList_store_row rfl 29 (.tmp 2) (.tmp 7) rfl pb cs.toArray rfl rfl 29 _ HB5.out HIS.out HSZ.out HON.out ?_
     have hbz := cells_setRow (cs := cs.toArray) HB5.out
     have hkz : Kp [pb] _ _ := Kp.setRow (w := w5) pb cs.toArray
     have hgz := only_setRow' w5 pb cs.toArray
     generalize hww : World.setRow _ _ _ = wz at hkz hbz hgz ⊢
     have HBZ := Hi hbz
     have HKZ := Hi hkz
     have HGZ := Hi hgz
     clear hww hkz hbz hgz))
 go_end0
 exact ⟨⟨_, rfl⟩, ⟨cs, HBZ.out, HAT.out.grown rfl HGZ.out (by omega)⟩, HK.out.to HKZ.out (fun y hy _ => by simp at hy; simp [hy]) (fun y hy _ => by simp at hy; simp [hy]), HR.out.kp HKZ.out (by have := HN.out; simp; omega) (fun y hy => by simp at hy; subst hy; exact HB.out)⟩
theorem getsQ_enters (args : Array Value) (W : World) : (callFunc 51 args).run Tryz.prog W = .ok (.enter 51 args) W := by
 have hn : (Tryz.f51.name == "runtime.NumGoroutine") = false := by as_aux_lemma => kernel_rfl
 have hb : Tryz.f51.body.isNone = false := by as_aux_lemma => kernel_rfl
 have hn' : ¬ Tryz.f51.name = "runtime.NumGoroutine" := by simpa using hn
 have hb' : ¬ Tryz.f51.body = none := fun h => by rw [h] at hb; cases hb
 simp [callFunc, Tryz.func51, hn', hb']
theorem allG_any (c n ob pb b0 : Nat) (A : Option Addr) (l : List UInt8) (t : Int) (old oc : Array Value) (w : World) (HG : GetT t (l.length + 1)) (ht : (Lit.int .i32 t).wf = true) (hr : Reads w b0 1 A n (bcells l)) (hnc : n ≤ c) (hn : n ≤ 140737488355328) (hnil : A = none → c = 0) (hE : Env w)
 (hb0 : b0 ≤ pb) (hg : 0 < b0 ∧ 1 < b0) (ho : Blk w ob 29 oc) (hoc : oc[0]? = some (.int .i32 t)) (hN : Blk w pb 29 old) (hz : old.size = 19) :
 Calls Tryz.prog 50 #[.slice A n c, .func (.func 51) #[] #[.pointer (some ⟨ob, 0, none⟩), .pointer (some ⟨pb, 0, none⟩)]] w fun e w' => e = .returned (.tuple #[.int .i64 (allAtO (gOp t l 0)), .int .i64 (allE l (gOp t l 0))]) ∧ Kp [pb] w w' ∧ ∀ x q, gOp t l 0 = .inl (x, q) → OpAt w' w.heap.size pb x := by
 have hnl := hN.lt
 refine (all_any (fun x => x < b0) c n A l 51 #[] #[.pointer (some ⟨ob, 0, none⟩), .pointer (some ⟨pb, 0, none⟩)] [pb] (fun W => ∀ x q, gOp t l 0 = .inl (x, q) → OpAt W (w.heap.size + 4) pb x) (rOf (gOp t l 0)) w (hr.more (by omega)) hnc hn hnil (fun x hx => by omega) hE.tab hg
  (fun h ad e => by obtain ⟨ad', e', hb, _⟩ := hr.2 h; rw [e] at e'; cases e'; exact hb) (fun x hx => by simp at hx; omega) getsQ_enters (fun W hk hzz hR => ?_)).mono ?_
 · refine (getsQ_any (fun x => x < b0) (w.heap.size + 1 + 1) c 0 ob pb A l t old W HG ht hR (yC (ho.kp hk (by simp)) 0 hoc) (hN.kp hk (by simp)) hz (by omega) (by omega)).mono fun e w' h => ?_
   unfold Did
   unfold DidG at h
   rcases hres : gOp t l 0 with ⟨x, q⟩ | ⟨er, q⟩
   · rw [hres] at h
     obtain ⟨h1, h2, h3, h4⟩ := h
     rw [hzz] at h2
     exact ⟨h1, fun x' q' hx => by cases hx; exact h2, h3, h4⟩
   · rw [hres] at h
     obtain ⟨h1, h3, h4⟩ := h
     exact ⟨h1, (fun x' q' hx => by cases hx), h3, h4⟩
 · rintro e w' ⟨rfl, hk, ⟨W', hP, hk2, hrd, hzz⟩, _⟩
   refine ⟨by rw [rAllE_of (sure_gOp t), rAtO_of], hk, fun x q hx => ?_⟩
   obtain ⟨cs, hb, ha⟩ := hP x q hx
   exact ⟨cs, hb.kp hk2 (by simp; omega), (ha.kp' hk2 (by simp)).lo rfl (by omega)⟩
theorem encE_pq {x : OpC} (h : x.encE = 0) : x.rightE = 0 ∧ kindN x.f.t ≠ 5 := by
 unfold OpC.encE at h
 split at h
 · exact absurd h ‹_›
 rename_i h1
 split at h
 · cases h
 · exact ⟨by simpa using h1, by assumption⟩
theorem rightE_pq {x : OpC} (h : x.rightE = 0) : x.allE = 0 ∧ x.depth ≤ 8 ∧ x.parts ≤ 1024 ∧ x.multis ≤ 1024 := by
 unfold OpC.rightE at h
 split at h
 · exact absurd h ‹_›
 rename_i h1
 split at h
 · cases h
 rename_i h2
 simp only [Bool.or_eq_true, decide_eq_true_eq, not_or] at h2
 exact ⟨by simpa using h1, by omega, by omega, by omega⟩
theorem op_back0 {x : OpC} (h : x.rightE = 0) (h5 : kindN x.f.t ≠ 5) (hg : x.good) : gOp x.f.t x.putB 0 = .inl (x, x.putB.length) := by
 obtain ⟨a1, a2, a3, a4⟩ := rightE_pq h
 have e3 := op_back x (x.putB.length + 1) ⟨0, 1, 0⟩ x.putB 0 a1 hg h5 (fun ht => by
  obtain ⟨f, S⟩ := x
  have ht : f.t = 14 := ht
  rw [OpC.depth, if_pos ht] at a2
  rw [OpC.parts, if_pos ht] at a3
  rw [OpC.multis, if_pos ht] at a4
  show 0 + partsL S ≤ 1024 ∧ 1 + multisL S ≤ 1024 ∧ 0 + 1 + depthL S ≤ 8
  omega) (Atb.all _) (by omega)
 unfold gOp Rg.map
 rw [e3]
 simp only [Nat.zero_add]
theorem op_none {t : Int} (h : kindN t = 0 ∨ kindN t = 5) (l : List UInt8) : gOp t l 0 = .inr (110, 0) := by
 unfold gOp Rg.map opWith
 rw [if_pos h]
 rfl
theorem gets_any {w : World} {lo : Option Nat} {x : OpC} {xs : List Value} (h : At w lo x xs) (hgood : x.good) (hwf : (Lit.int .i32 x.f.t).wf = true) (A : Option Addr) (n c : Nat) (hl : x.putB.length = n) (hr : Reads w w.heap.size 1 A n (bcells x.putB)) (hnc : n ≤ c) (hn : n ≤ 140737488355328) (hnil : A = none → c = 0) (hE : Env w) :
 Calls Tryz.prog 24 #[.slice A n c, .agg xs.toArray, .int .i64 x.encE] w fun e w' => e = .returned (.bool true) ∧ Below w.heap.size w w' := by
 have h19 := h.len
 have hx0 := h.c0
 obtain ⟨w1, hw1⟩ := xa w (xs.toArray) 29
 have hb1 := newB hw1
 have hk1 := newK hw1
 have hz1 : w1.heap.size = w.heap.size + 1 := by rw [← hw1]; simp
 have HK1 := Hi hk1
 have HB1 := Hi hb1
 obtain ⟨l, hll⟩ : ∃ l, l = x.putB := ⟨_, rfl⟩
 rw [← hll] at hl hr
 obtain ⟨t, htt⟩ : ∃ t, t = x.f.t := ⟨_, rfl⟩
 obtain ⟨ee, hee⟩ : ∃ z, z = x.encE := ⟨_, rfl⟩
 have HIX : Hid ((Tryz.prog.info? 29).map (·.size) = some xs.length) := by unfold Hid; rw [h19]; exact isz_29
 have HX0 : Hid (xs.toArray[0]? = some (.int .i32 t)) := by unfold Hid; rw [htt]; simpa using hx0
 have HALL : Hid (∀ W old, Below w1.heap.size w1 W → Blk W (w.heap.size + 1) 29 old → old.size = 19 → Calls Tryz.prog 50 #[.slice A n c, .func (.func 51) #[] #[.pointer (some ⟨w.heap.size, 0, none⟩), .pointer (some ⟨w.heap.size + 1, 0, none⟩)]] W fun e w' => e = .returned (.tuple #[.int .i64 (allAtO (gOp t l 0)), .int .i64 (allE l (gOp t l 0))]) ∧ Kp [w.heap.size + 1] W w' ∧ ∀ x q, gOp t l 0 = .inl (x, q) → OpAt w' W.heap.size (w.heap.size + 1) x) := fun W old hW hB hz =>
  allG_any c n w.heap.size (w.heap.size + 1) w.heap.size A l t old xs.toArray W (get_allT t _) (by rw [htt]; exact hwf) (hr.below (hb1.trans (hW.mono hb1.size))) hnc hn hnil (hE.below (hb1.trans (hW.mono hb1.size))) (by omega) ⟨hE.g1, hE.g2⟩ (hk1.below hW hk1.lt) HX0.out hB hz
 have HKI : Hid (∀ W, Calls Tryz.prog 12 #[.int .i32 t] W fun e w' => e = .returned (.int .i64 (kindN t)) ∧ w' = W) := fun W => refKind_any t W
 have HT : Hid (∀ W, Below w.heap.size w W → At W lo x xs) := fun W hW => h.later hW
 have hmf : ∀ (fn : Fn) (first cap : Array Value) (w : World), (Instr.makeFunc fn first cap).run Tryz.prog w = .ok (.func fn first cap) w := fun _ _ _ _ => rfl
 have c0 := yC hk1 0 HX0.out
 have hres : (kindN t = 0 ∨ kindN t = 5) ∨ (kindN t ≠ 0 ∧ kindN t ≠ 5 ∧ ee ≠ 0) ∨ (kindN t ≠ 0 ∧ kindN t ≠ 5 ∧ ee = 0 ∧ gOp t l 0 = .inl (x, l.length)) := by
  by_cases h0 : kindN t = 0
  · exact .inl (.inl h0)
  by_cases h5 : kindN t = 5
  · exact .inl (.inr h5)
  by_cases he : ee = 0
  · refine .inr (.inr ⟨h0, h5, he, ?_⟩)
    rw [hee] at he
    rw [htt, hll]
    exact op_back0 (encE_pq he).1 (encE_pq he).2 hgood
  · exact .inr (.inl ⟨h0, h5, he⟩)
 rw [← hee]
 clear h hgood hwf hr hnc hnil hE hll htt hee hk1 hb1 h19 hx0
 obtain ⟨kn, hkn⟩ : ∃ k, k = kindN t := ⟨_, rfl⟩
 rw [← hkn] at HKI
 rcases hres with hk | ⟨hk0, hk5, he⟩ | ⟨hk0, hk5, he, hg⟩
 · have hg := op_none hk l
   rw [hg] at HALL
   rw [← hkn] at hk
   have HAL : Hid (∀ W old, Below w1.heap.size w1 W → Blk W (w.heap.size + 1) 29 old → old.size = 19 → Calls Tryz.prog 50 #[.slice A n c, .func (.func 51) #[] #[.pointer (some ⟨w.heap.size, 0, none⟩), .pointer (some ⟨w.heap.size + 1, 0, none⟩)]] W fun e w' => e = .returned (.tuple #[.int .i64 0, .int .i64 110]) ∧ Kp [w.heap.size + 1] W w') := fun W old h1 h2 h3 => (HALL.out W old h1 h2 h3).mono fun e w' h => ⟨h.1, h.2.1⟩
   clear HALL hg hkn
   have hkb : (kn == 0) = true ∨ ((kn == 0) = false ∧ (kn == 5) = true) := by
    rcases hk with rfl | rfl
    · exact .inl rfl
    · exact .inr ⟨rfl, rfl⟩
   clear hk
   rcases hkb with hk0 | ⟨hk0, hk5⟩
   all_goals
    go_enter Tryz.func24, Tryz.ntmps24
    go_wp2_with (first
     | (refine wpList_new rfl 29 rfl zer_op ?_
        intro old hold
        obtain ⟨w2, hw2⟩ := xa w1 old 29
        rw [hw2]
        have HN2 := Hi (newB hw2)
        have HB2 := hidT HB1 HN2.out
        have HK2 : Hid (Blk w2 (w.heap.size + 1) 29 old) := (by unfold Hid; rw [← hz1]; exact newK hw2)
        have HO2 : Hid (old.size = 19) := hold
        have hz2 : w2.heap.size = w.heap.size + 2 := (by rw [← hw2]; simp [hz1])
        clear hw2 hold)
     | (go_at_call 50
        refine (HAL.out _ old HN2.out HK2.out HO2.out).mono ?_
        rintro e w3 ⟨rfl, hk⟩
        have HB3 : Hid (Below w.heap.size w w3) := HB2.out.trans (hk.below (by simp) (by omega))
        have d0 := yC (((HK1.out.below HN2.out HK1.out.lt).kp hk (by simp))) 0 HX0.out
        clear hk)
     | (go_at_call 12
        refine (HKI.out _).mono ?_
        rintro e w4 ⟨rfl, hw⟩
        obtain rfl := hw.symm))
    go_ret
    exact ⟨rfl, HB3.out⟩
 · have hk0b : (kn == 0) = false := by rw [hkn]; simpa using hk0
   have hk5b : (kn == 5) = false := by rw [hkn]; simpa using hk5
   have heb : (ee != 0) = true := by simpa using he
   generalize allAtO (gOp t l 0) = q1 at HALL
   generalize allE l (gOp t l 0) = q2 at HALL
   clear hk0 hk5 he hkn
   go_enter Tryz.func24, Tryz.ntmps24
   go_wp2_with (first
    | (refine wpList_new rfl 29 rfl zer_op ?_
       intro old hold
       obtain ⟨w2, hw2⟩ := xa w1 old 29
       rw [hw2]
       have HN2 := Hi (newB hw2)
       have HB2 := hidT HB1 HN2.out
       have HK2 : Hid (Blk w2 (w.heap.size + 1) 29 old) := (by unfold Hid; rw [← hz1]; exact newK hw2)
       have HO2 : Hid (old.size = 19) := hold
       have hz2 : w2.heap.size = w.heap.size + 2 := (by rw [← hw2]; simp [hz1])
       clear hw2 hold)
    | (go_at_call 50
       refine (HALL.out _ old HN2.out HK2.out HO2.out).mono ?_
       rintro e w3 ⟨rfl, hk, -⟩
       have HB3 : Hid (Below w.heap.size w w3) := HB2.out.trans (hk.below (by simp) (by omega))
       have d0 := yC (((HK1.out.below HN2.out HK1.out.lt).kp hk (by simp))) 0 HX0.out
       clear hk)
    | (go_at_call 12
       refine (HKI.out _).mono ?_
       rintro e w4 ⟨rfl, hw⟩
       obtain rfl := hw.symm))
   go_ret
   exact ⟨rfl, HB3.out⟩
 · have hk0b : (kn == 0) = false := by rw [hkn]; simpa using hk0
   have hk5b : (kn == 5) = false := by rw [hkn]; simpa using hk5
   rw [hg] at HALL
   have hlt : ¬ l.length < l.length := by omega
   have HAL : Hid (∀ W old, Below w1.heap.size w1 W → Blk W (w.heap.size + 1) 29 old → old.size = 19 → Calls Tryz.prog 50 #[.slice A n c, .func (.func 51) #[] #[.pointer (some ⟨w.heap.size, 0, none⟩), .pointer (some ⟨w.heap.size + 1, 0, none⟩)]] W fun e w' => e = .returned (.tuple #[.int .i64 (n : Int), .int .i64 0]) ∧ Kp [w.heap.size + 1] W w' ∧ OpAt w' W.heap.size (w.heap.size + 1) x) := fun W old h1 h2 h3 => (HALL.out W old h1 h2 h3).mono fun e w' h => by
    refine ⟨?_, h.2.1, h.2.2 x _ rfl⟩
    rw [h.1]
    unfold allE allAtO
    dsimp only
    rw [if_neg hlt, hl]
   have HSM : Hid (∀ W c, At W none x c → Below w.heap.size w W → Calls Tryz.prog 15 #[.agg c.toArray, .agg xs.toArray] W fun e w' => e = .returned (.bool true) ∧ Below W.heap.size W w') := fun W c h1 hW => by
    obtain ⟨b', h3, h4⟩ := same_any h1 (HT.out W hW)
    obtain rfl : b' = true := h3.2 rfl
    exact h4 W zT
   have hnn : ((n : Int) == (n : Int)) = true := by simp
   subst he
   clear HALL hk0 hk5 hg hkn hlt hl
   go_enter Tryz.func24, Tryz.ntmps24
   go_wp2_with (first
    | (refine wpList_new rfl 29 rfl zer_op ?_
       intro old hold
       obtain ⟨w2, hw2⟩ := xa w1 old 29
       rw [hw2]
       have HN2 := Hi (newB hw2)
       have HB2 := hidT HB1 HN2.out
       have HK2 : Hid (Blk w2 (w.heap.size + 1) 29 old) := (by unfold Hid; rw [← hz1]; exact newK hw2)
       have HO2 : Hid (old.size = 19) := hold
       have hz2 : w2.heap.size = w.heap.size + 2 := (by rw [← hw2]; simp [hz1])
       clear hw2 hold)
    | (go_at_call 50
       refine (HAL.out _ old HN2.out HK2.out HO2.out).mono ?_
       rintro e w3 ⟨rfl, hk, cs, hcb, hca⟩
       have HB3 : Hid (Below w.heap.size w w3) := HB2.out.trans (hk.below (by simp) (by omega))
       have HO3 := Hi ((HK1.out.below HN2.out HK1.out.lt).kp hk (by simp))
       have d0 := yC HO3.out 0 HX0.out
       have HC3 := Hi hcb
       have HA3 := Hi hca.any
       have HIC : Hid ((Tryz.prog.info? 29).map (·.size) = some cs.length) := (by unfold Hid; rw [hca.len]; exact isz_29)
       clear hk hcb hca)
    | (go_at_call 12
       refine (HKI.out _).mono ?_
       rintro e w4 ⟨rfl, hw⟩
       obtain rfl := hw.symm)
    | (with_reducible refine wpAt 44 ?_
       refine wpList_load_at (by rfl) 29 (.tmp 7) rfl ⟨w.heap.size + 1, 0, none⟩ rfl cs _ (row_cells HC3.out) zU29 rfl HIC.out ?_)
    | (with_reducible refine wpAt 45 ?_
       refine wpList_load_at (by rfl) 29 (.tmp 4) rfl ⟨w.heap.size, 0, none⟩ rfl xs _ (row_cells HO3.out) zU29 rfl HIX.out ?_)
    | (go_at_call 15
       refine (HSM.out _ cs HA3.out HB3.out).mono ?_
       rintro e w5 ⟨rfl, hb⟩
       have HB5 := hidT HB3 hb
       clear hb))
   go_ret
   exact ⟨rfl, HB5.out⟩

def Rb (w : World) (base : Nat) (v : Value) (l : List UInt8) : Prop := w.ownsRow base 5 1 v l.length (bcells l)
theorem Rb.later {w w' : World} {base : Nat} {v : Value} {l : List UInt8} (h : Rb w base v l) (hb : Below w.heap.size w w') : Rb w' base v l := own_kp h (Kp.of_below (X := []) hb) (fun _ h => by cases h)
theorem Rb.nil (w : World) (base : Nat) : Rb w base (.slice none 0 0) [] := World.ownsRow_nil _ _ _ _
def Keeps (w w' : World) : Prop := ∀ g t cs, t ≠ 5 → Blk w g t cs → Blk w' g t cs
theorem Keeps.refl (w : World) : Keeps w w := fun _ _ _ _ h => h
theorem Keeps.trans {w w1 w2 : World} (h : Keeps w w1) (h2 : Keeps w1 w2) : Keeps w w2 := fun g t cs ht hb => h2 g t cs ht (h g t cs ht hb)
theorem Keeps.alloc {w w' : World} (h : Keeps w w') (o : Obj) : Keeps w (w'.alloc o) := fun g t cs ht hb => (h g t cs ht hb).alloc o
theorem Keeps.grown {w w1 w2 : World} {base n : Nat} {v : Value} {xs : List Value} (h : Keeps w w1) (hv : w1.ownsRow base 5 1 v n xs) (hg : w1.grownBy w2 v.ownBlock) : Keeps w w2 := fun g t cs ht hb =>
 (h g t cs ht hb).grown hg (fun e => own_blk_ne hv (h g t cs ht hb) ht.symm e.symm)
theorem str_cells (s : ByteArray) : Go.Lib.strCells s = bcells s.data.toList := by simp [Go.Lib.strCells, bcells]

theorem refPut_any (base : Nat) (v : Value) (l : List UInt8) (n k : Nat) (w : World) (h : Rb w base v l) (hn : n < 18446744073709551616) (hk : k ≤ 8) (hbase : base ≤ w.heap.size) (hsz : l.length + 8 ≤ 140737488355328) :
 Calls Tryz.prog 41 #[v, .int .u64 n, .int .i64 k] w fun e w' => ∃ v', e = .returned v' ∧ Rb w' base v' (l ++ beBytes n k) ∧ Below base w w' ∧ Keeps w w' := by
 obtain ⟨i0, hi0, hz0, hz1, hz2⟩ := info_parts u8_info
 have H0 := Hi h
 clear h
 go_enter Tryz.func41, Tryz.ntmps41
 go_wp2
 go_loopw [0, 7] (fun u i wr => ∃ (j : Nat) (d : List UInt8) (v1 : Value), j ≤ k ∧ u = v1 ∧ i = .int .i64 ((j : Int) - 1) ∧ Hid (d ++ beBytes n j = beBytes n k) ∧ Rb wr base v1 (l ++ d) ∧ Below base w wr ∧ Keeps w wr) (fun _ i _ => (intOf i + 1).toNat)
 case atStart => exact ⟨k, [], v, Nat.le_refl _, rfl, rfl, rfl, by simpa using H0.out, Below.refl _ _, Keeps.refl _⟩
 case round =>
  obtain ⟨j, d, v1, hj, rfl, rfl, HD, hR, hB, hK⟩ := hrel
  have HK := Hi hK
  have HR := Hi hR
  have HB := Hi hB
  have hbw := Nat.le_trans hbase hB.size
  clear hR hB hK
  by_cases hlt : 0 < j
  · obtain ⟨j, rfl⟩ : ∃ j', j = j' + 1 := ⟨j - 1, by omega⟩
    have hl : (l ++ d).length + 1 ≤ 140737488355328 := by
     have h1 := congrArg List.length HD.out
     rw [zG, beBytes_length, beBytes_length] at h1
     rw [zG]; omega
    have HC : Hid (bcells [UInt8.ofNat (n / 256 ^ j)] = [.int .u8 ((n : Int) / 2 ^ (8 * j) % 256)]) := byte_cell n j
    go_wp2_with (at_builtin
                 refine wpList_append_any _ rfl (.tmp 14) (.tmp 21) _ rfl base 5 i0 _ 1 1 zU22 hi0 hz0 hz1 hz2 rfl (by decide) _ (l ++ d).length (bcells (l ++ d)) rfl (World.ownsRow.alloc HR.out _) (wr.heap.size + 1) (some ⟨wr.heap.size, 0, none⟩) 1 1 (bcells [UInt8.ofNat (n / 256 ^ j)]) rfl (by rw [HC.out]; exact reads_lit wr 5 [_]) (bcells_one _) (by simp only [maxLen]; omega) (by omega) (by simp; omega) ?_
                 intro v2 w2 ho2 hg2 hat2
                 have HO2 : Hid (Rb w2 base v2 (l ++ (d ++ [UInt8.ofNat (n / 256 ^ j)]))) := (by unfold Hid Rb; rw [← zL, bcells_append, show (l ++ d ++ [UInt8.ofNat (n / 256 ^ j)]).length = (l ++ d).length + 1 by (rw [zG]; rfl)]; exact ho2)
                 have HB2 : Hid (Below base w w2) := HB.out.trans ((zT.alloc hbw _).grown hg2 (by simp; omega) (fun x hx => (HR.out.lt x hx).1))
                 have HK2 : Hid (Keeps w w2) := (HK.out.alloc _).grown (World.ownsRow.alloc HR.out _) hg2
                 clear ho2 hg2 hat2)
    go_roundw
    case rel => exact ⟨j, d ++ [UInt8.ofNat (n / 256 ^ j)], v2, by omega, rfl, by go_num, by show _ = _; rw [← HD.out]; simp [beBytes], HO2.out, HB2.out, HK2.out⟩
    case measure => simp [intOf]
  · obtain rfl : j = 0 := by omega
    go_wp2
    go_ret
    have e := HD.out
    simp only [beBytes, List.append_nil] at e
    exact ⟨_, rfl, e ▸ HR.out, HB.out, HK.out⟩

theorem refText_any (base : Nat) (v : Value) (l : List UInt8) (s : ByteArray) (w : World) (h : Rb w base v l) (hbase : base ≤ w.heap.size) (hsz : l.length + s.size + 8 ≤ 140737488355328) :
 Calls Tryz.prog 55 #[v, .string s] w fun e w' => ∃ v', e = .returned v' ∧ Rb w' base v' (l ++ bBuf s.data.toList) ∧ Below base w w' ∧ Keeps w w' := by
 obtain ⟨i0, hi0, hz0, hz1, hz2⟩ := info_parts u8_info
 have H0 := Hi h
 have HU : Hid (beBytes ((s.size : Int) % 4294967296).toNat 4 = bInt s.data.toList.length) := by unfold Hid bInt u32N; rw [bsize_eq]
 clear h
 go_enter Tryz.func55, Tryz.ntmps55
 go_wp2_with (first
  | (go_at_call 41
     have hrd := refPut_any base v l ((s.size : Int) % 4294967296).toNat 4 w H0.out (by omega) (by omega) hbase (by omega)
     rw [HU.out] at hrd
     refine hrd.mono ?_
     clear hrd
     rintro e w1 ⟨v1, rfl, hr1, hb1, hk1⟩
     have HK1 := Hi hk1
     have HR1 := Hi hr1
     have HB1 := Hi hb1
     clear hr1 hb1 hk1)
  | (at_builtin
     refine Lib.wpList_append_own_string _ rfl (.tmp 11) (.tmp 12) _ _ rfl base 5 i0 zU22 zU9 hi0 hz0 hz1 hz2 v1 (l ++ bInt s.data.toList.length).length (bcells (l ++ bInt s.data.toList.length)) rfl HR1.out s rfl (by simp only [maxLen, zG, bInt_len]; omega) (by simp only [zG, bInt_len]; omega) (Nat.le_trans hbase HB1.out.size) ?_
     intro v2 w2 ho2 hg2 hnn2
     have HO2 : Hid (Rb w2 base v2 (l ++ bBuf s.data.toList)) := (by
      unfold Hid Rb bBuf
      rw [← zL, bcells_append, show (l ++ bInt s.data.toList.length ++ s.data.toList).length = (l ++ bInt s.data.toList.length).length + s.size by (rw [zG, bsize_eq]), ← str_cells s]
      exact ho2)
     have HB2 : Hid (Below base w w2) := HB1.out.grown hg2 (Nat.le_trans hbase HB1.out.size) (fun x hx => (HR1.out.lt x hx).1)
     have HK2 : Hid (Keeps w w2) := HK1.out.grown HR1.out hg2
     clear ho2 hg2 hnn2))
 go_ret
 exact ⟨_, rfl, HO2.out, HB2.out, HK2.out⟩

theorem u8_mod (a b : Nat) (h : a % 256 = b % 256) : UInt8.ofNat a = UInt8.ofNat b := by
 apply UInt8.toNat_inj.1
 rw [UInt8.toNat_ofNat', UInt8.toNat_ofNat']
 exact h
theorem be4_mod (a b : Nat) (h : a % 4294967296 = b % 4294967296) : beBytes a 4 = beBytes b 4 := by
 simp only [beBytes]
 rw [u8_mod (a / 256 ^ 3) (b / 256 ^ 3) (by omega), u8_mod (a / 256 ^ 2) (b / 256 ^ 2) (by omega), u8_mod (a / 256 ^ 1) (b / 256 ^ 1) (by omega), u8_mod (a / 256 ^ 0) (b / 256 ^ 0) (by omega)]
theorem refPut4 (base : Nat) (v : Value) (l : List UInt8) (y z : Int) (w : World) (h0 : 0 ≤ y) (h1 : y < 18446744073709551616) (hy : y % 4294967296 = z % 4294967296) (h : Rb w base v l) (hbase : base ≤ w.heap.size) (hsz : l.length + 8 ≤ 140737488355328) :
 Calls Tryz.prog 41 #[v, .int .u64 y, .int .i64 4] w fun e w' => ∃ v', e = .returned v' ∧ Rb w' base v' (l ++ bInt z) ∧ Below base w w' ∧ Keeps w w' := by
 have h := refPut_any base v l y.toNat 4 w h (by omega) (by omega) hbase hsz
 rw [Int.toNat_of_nonneg h0] at h
 rwa [show bInt z = beBytes y.toNat 4 from be4_mod _ _ (by have := u32N_cast z; omega)]
theorem refPut8 (base : Nat) (v : Value) (l : List UInt8) (z : Int) (w : World) (h : Rb w base v l) (hbase : base ≤ w.heap.size) (hsz : l.length + 8 ≤ 140737488355328) :
 Calls Tryz.prog 41 #[v, .int .u64 (IntKind.u64.wrap z), .int .i64 8] w fun e w' => ∃ v', e = .returned v' ∧ Rb w' base v' (l ++ bLong z) ∧ Below base w w' ∧ Keeps w w' := by
 have hb := u64_wrap_bd z
 have h := refPut_any base v l (IntKind.u64.wrap z).toNat 8 w h (by omega) (by omega) hbase hsz
 rw [Int.toNat_of_nonneg hb.1] at h
 exact h

section
variable {P : Program} {ops : Array Oper} {Q : Exit → Act → World → Prop} {C : World → World → Prop} {st : List Nat} {M : Nat → Value → World → Prop}
def stagesB (ops : Array Oper) (st : List Nat) : Bool := (List.range st.length).all fun j => decide (st.getD j 0 < ops.size) && (dstAt ops (st.getD j 0)).isSome &&
 (j == 0 || ((ops[st.getD j 0]?).map fun o => o.after.toList.any fun e => Region.binds .any e && e.on == st.getD (j - 1) 0).getD false) && (List.range st.length).all fun k => j == k || !(st.getD j 0 == st.getD k 0)
def MemAt (ops : Array Oper) (st : List Nat) (M : Nat → Value → World → Prop) (p : Nat) (a : Act) (w : World) : Prop :=
 ∃ v, M p v w ∧ ∀ j, p = j + 1 → ∀ k, dstAt ops (st.getD j 0) = some k → a.tmps[k]? = some v
def waitsB (ops : Array Oper) (i : Nat) : Nat → Nat → Bool
 | 0, _ => false
 | n + 1, j => j == i || ((ops[j]?).map fun o => o.after.toList.any fun e => Region.binds .any e && waitsB ops i n e.on).getD false
def lateB (ops : Array Oper) (i k : Nat) : Bool := (List.range ops.size).all fun j => !(dstAt ops j == some k) || waitsB ops i ops.size j
structure RInvD (C : World → World → Prop) (ops : Array Oper) (st : List Nat) (M : Nat → Value → World → Prop) (F : Nat → Value → World → Prop) (a0 : Act) (w0 : World) (listed : Array Bool) (a : Act) (w : World) : Prop where
 size : listed.size = ops.size
 past : C w0 w
 defs : a.defers = a0.defers
 len : a.tmps.size = a0.tmps.size
 old : ∀ k, (∀ i, dstAt ops i = some k → listed.getD i false = false) → a.tmps[k]? = a0.tmps[k]?
 closed : ∀ j o, listed.getD j false = true → ops[j]? = some o → ∀ e ∈ o.after.toList, Region.binds .any e = true → listed.getD e.on false = true
 done : ∀ i, listed.getD i false = true → ∀ k, dstAt ops i = some k → ∃ v, a.tmps[k]? = some v ∧ F i v w
 stage : ∃ p, p ≤ st.length ∧ (∀ j, j < st.length → (listed.getD (st.getD j 0) false = true ↔ j < p)) ∧ MemAt ops st M p a w
def StepOkD (C : World → World → Prop) (P : Program) (ops : Array Oper) (Q : Exit → Act → World → Prop) (st : List Nat) (M : Nat → Value → World → Prop) (F : Nat → Value → World → Prop) (a0 : Act) (w0 : World) (i : Nat) (o : Oper) : Prop :=
 ∀ a w, C w0 w → (∀ k, lateB ops i k = true → a.tmps[k]? = a0.tmps[k]?) → (∀ e ∈ o.after.toList, Region.binds .any e = true → ∀ k, dstAt ops e.on = some k → ∃ v, a.tmps[k]? = some v ∧ F e.on v w) →
   match st.findIdx? (· == i) with
   | none => ∀ K : Act → World → Prop, (∀ v, F i v w → K (a.put o.dst v) w) → if Region.wanted o (yielded ops a.tmps) = true then Oper.wp P o a w K Q else K (a.put o.dst undef) w
   | some j => ∀ v, M j v w → (∀ j', j = j' + 1 → ∀ k, dstAt ops (st.getD j' 0) = some k → a.tmps[k]? = some v) →
     ∀ K : Act → World → Prop, (∀ v' w', M (j + 1) v' w' → F i v' w' → C w w' → K (a.put o.dst v') w') → if Region.wanted o (yielded ops a.tmps) = true then Oper.wp P o a w K Q else K (a.put o.dst undef) w
theorem waits_not {listed : Array Bool} (hcl : ∀ j o, listed.getD j false = true → ops[j]? = some o → ∀ e ∈ o.after.toList, Region.binds .any e = true → listed.getD e.on false = true) {i : Nat} (hi : listed.getD i false = false) :
 ∀ n j, waitsB ops i n j = true → listed.getD j false = false
 | 0, _, h => by simp [waitsB] at h
 | n + 1, j, h => by
   unfold waitsB at h
   rw [Bool.or_eq_true, beq_iff_eq] at h
   rcases h with rfl | h
   · exact hi
   · rcases ho : ops[j]? with _ | o
     · rw [ho] at h
       cases h
     · rw [ho] at h
       simp only [Option.map_some, Option.getD_some, List.any_eq_true, Bool.and_eq_true] at h
       obtain ⟨e, he, hb, hw⟩ := h
       have h1 := waits_not hcl hi n e.on hw
       rcases hj : listed.getD j false with _ | _
       · rfl
       · rw [hcl j o hj ho e he hb] at h1
         cases h1
theorem stages_get (h : stagesB ops st = true) {j : Nat} (hj : j < st.length) : st.getD j 0 < ops.size ∧ (∃ k, dstAt ops (st.getD j 0) = some k) ∧ (∀ j', j = j' + 1 → ∀ o, ops[st.getD j 0]? = some o → ∃ e ∈ o.after.toList, Region.binds .any e = true ∧ e.on = st.getD j' 0) ∧ ∀ k, k < st.length → st.getD j 0 = st.getD k 0 → j = k := by
 unfold stagesB at h
 rw [List.all_eq_true] at h
 have h := h j (List.mem_range.2 hj)
 simp only [Bool.and_eq_true, decide_eq_true_eq] at h
 obtain ⟨⟨⟨h1, h2⟩, h3⟩, h4⟩ := h
 refine ⟨h1, Option.isSome_iff_exists.1 h2, fun j' hj' o ho => ?_, fun k hk he => ?_⟩
 · subst hj'
   rw [ho] at h3
   simp only [Option.map_some, Option.getD_some, Bool.or_eq_true, beq_iff_eq, Nat.add_eq_zero_iff, Nat.one_ne_zero, and_false, false_or, Nat.add_sub_cancel, List.any_eq_true, Bool.and_eq_true] at h3
   obtain ⟨e, he, hb, hon⟩ := h3
   exact ⟨e, he, hb, hon⟩
 · rw [List.all_eq_true] at h4
   have := h4 k (List.mem_range.2 hk)
   simp only [Bool.or_eq_true, beq_iff_eq, Bool.not_eq_true', beq_eq_false_iff_ne] at this
   rcases this with h | h
   · exact h
   · exact absurd he h
theorem find_stage {i : Nat} : (st.findIdx? (· == i) = none ∧ ∀ j, j < st.length → st.getD j 0 ≠ i) ∨ ∃ j, st.findIdx? (· == i) = some j ∧ j < st.length ∧ st.getD j 0 = i := by
 rcases h : st.findIdx? (· == i) with _ | j
 · refine .inl ⟨rfl, fun j hj he => ?_⟩
   rw [List.findIdx?_eq_none_iff] at h
   have := h (st.getD j 0) (by rw [List.getD_eq_getElem?_getD, List.getElem?_eq_getElem hj]; exact List.getElem_mem _)
   rw [he] at this
   simp at this
 · refine .inr ⟨j, rfl, ?_⟩
   rw [List.findIdx?_eq_some_iff_getElem] at h
   obtain ⟨hj, h1, _⟩ := h
   refine ⟨hj, ?_⟩
   rw [List.getD_eq_getElem?_getD, List.getElem?_eq_getElem hj]
   simpa using h1
theorem wpAny_duo {F : Nat → Value → World → Prop} {a0 : Act} {w0 : World} (hCt : ∀ {u v w}, C u v → C v w → C u w) (hCr : ∀ u, C u u) (hst : stagesB ops st = true) (hb : backB ops = true) (hd : dstsB ops = true) (hs : slotsB ops a0.tmps.size = true)
 (hmono : ∀ i v w w', F i v w → C w w' → F i v w') (hstep : ∀ i o, ops[i]? = some o → StepOkD C P ops Q st M F a0 w0 i o)
 (hend : ∀ a w, C w0 w → a.defers = a0.defers → a.tmps.size = a0.tmps.size → (∀ k, (∀ i, dstAt ops i ≠ some k) → a.tmps[k]? = a0.tmps[k]?) → (∀ i k, dstAt ops i = some k → ∃ v, a.tmps[k]? = some v ∧ F i v w) → MemAt ops st M st.length a w → Q .normal a w) :
 ∀ fuel listed a w, RInvD C ops st M F a0 w0 listed a w → listed.toList.count false = fuel → wpAny P .any ops Q fuel listed a w := by
 have hfin : ∀ listed a w, RInvD C ops st M F a0 w0 listed a w → (∀ i, i < ops.size → listed.getD i true = true) → Q .normal a w := by
  intro listed a w h hall
  have hall' : ∀ i, i < ops.size → listed.getD i false = true := fun i hi => by
   have h1 := hall i hi
   have hi' : i < listed.size := by rw [h.size]; exact hi
   simp only [zP, Array.getElem?_eq_getElem hi', Option.getD_some] at h1 ⊢
   exact h1
  refine hend a w h.past h.defs h.len (fun k hk => h.old k fun i hi => absurd hi (hk i)) (fun i k hk => h.done i (hall' i (dstAt_lt hk)) k hk) ?_
  obtain ⟨p, hp, hl, hm⟩ := h.stage
  have : p = st.length := by
   rcases Nat.lt_or_ge p st.length with hlt | hge
   · have := (hl p hlt).1 (hall' _ (stages_get hst hlt).1)
     omega
   · omega
  rwa [this] at hm
 intro fuel
 induction fuel with
 | zero =>
   intro listed a w h hc
   have hall : ∀ i, i < ops.size → listed.getD i true = true := fun i hi => by
    have := count_none listed.toList hc i (by rw [Array.length_toList, h.size]; exact hi)
    rw [Array.getElem?_toList] at this
    rw [zP, this]
    rfl
   refine ⟨?_, hfin listed a w h hall⟩
   unfold Region.ready
   rw [List.filter_eq_nil_iff]
   intro i hi
   rw [hall i (List.mem_range.1 hi)]
   simp
 | succ fuel ih =>
   intro listed a w h hc
   refine ⟨fun hr => hfin listed a w h (ready_nil hb h.size hr), fun i hi => ?_⟩
   have hi2 : i < ops.size ∧ listed.getD i true = false ∧ ((ops[i]?).map (·.after.all fun e => !Region.binds .any e || listed.getD e.on false)).getD false = true := by
    unfold Region.ready at hi
    rw [List.mem_filter, Bool.and_eq_true] at hi
    exact ⟨List.mem_range.1 hi.1, by simpa using hi.2.1, hi.2.2⟩
   obtain ⟨g1, g2, g3⟩ := hi2
   have hil : i < listed.size := by rw [h.size]; exact g1
   have ho : ops[i]? = some ops[i] := Array.getElem?_eq_getElem g1
   rw [ho, Option.map_some, Option.getD_some, zQ] at g3
   have hdi : dstAt ops i = ops[i].dst := by unfold dstAt; rw [ho]; rfl
   have hnl : listed.getD i false = false := by
    rw [zP, Array.getElem?_eq_getElem hil] at g2 ⊢
    exact g2
   have hdone : ∀ e ∈ ops[i].after.toList, Region.binds .any e = true → listed.getD e.on false = true := fun e he hbd => by
    have h4 := g3 e (by simpa using he)
    rw [hbd] at h4
    simpa using h4
   have hcnt : (listed.setIfInBounds i true).toList.count false = fuel := by
    have hf : listed.toList[i]? = some false := by
     rw [Array.getElem?_toList, Array.getElem?_eq_getElem hil]
     rw [zP, Array.getElem?_eq_getElem hil] at g2
     simpa using g2
    have := count_set_true listed.toList i hf
    rw [Array.toList_setIfInBounds]
    omega
   have hoff : ∀ j, j ≠ i → (listed.setIfInBounds i true).getD j false = listed.getD j false := fun j hij => by
    rw [zP, Array.getElem?_setIfInBounds, if_neg (Ne.symm hij), zP]
   have hon : (listed.setIfInBounds i true).getD i false = true := by
    rw [zP, Array.getElem?_setIfInBounds, if_pos rfl, if_pos hil]
    rfl
   have hkeep : ∀ v j k, j ≠ i → dstAt ops j = some k → (a.put ops[i].dst v).tmps[k]? = a.tmps[k]? := fun v j k hij hk =>
    put_tmps _ _ _ _ (fun e => hij (dsts_one hd hk (by rw [hdi]; exact e)))
   have hsame : ∀ v k, dstAt ops i = some k → (a.put ops[i].dst v).tmps[k]? = some v := fun v k hk => by
    rw [hdi] at hk
    rw [hk]
    refine put_tmps_same _ _ _ ?_
    rw [h.len]
    unfold slotsB at hs
    rw [List.all_eq_true] at hs
    have := hs i (List.mem_range.2 g1)
    rw [hdi, hk] at this
    simpa using this
   have hnext : ∀ v w', F i v w' → C w w' → (∃ p, p ≤ st.length ∧ (∀ j, j < st.length → ((listed.setIfInBounds i true).getD (st.getD j 0) false = true ↔ j < p)) ∧ MemAt ops st M p (a.put ops[i].dst v) w') →
    RInvD C ops st M F a0 w0 (listed.setIfInBounds i true) (a.put ops[i].dst v) w' := fun v w' hF hC hS => by
    refine ⟨by simp [h.size], hCt h.past hC, by rw [put_defs]; exact h.defs, by rw [put_len]; exact h.len, fun k hk => ?_, fun j o hj hoj e he hbd => ?_, fun j hj k hk => ?_, hS⟩
    · have hik : dstAt ops i ≠ some k := fun e => by
       have := hk i e
       rw [hon] at this
       cases this
      rw [put_tmps _ _ _ _ (by rw [← hdi]; exact hik)]
      refine h.old k fun j hj => ?_
      have hji : j ≠ i := by
       rintro rfl
       exact hik hj
      have := hk j hj
      rwa [hoff j hji] at this
    · have h1 : listed.getD e.on false = true := by
       by_cases hji : j = i
       · subst hji
         rw [ho] at hoj
         injection hoj with hoj
         subst hoj
         exact hdone e he hbd
       · rw [hoff j hji] at hj
         exact h.closed j o hj hoj e he hbd
      by_cases hei : e.on = i
      · rw [hei]
        exact hon
      · rw [hoff _ hei]
        exact h1
    · by_cases hij : j = i
      · subst hij
        exact ⟨v, hsame v k hk, hF⟩
      · rw [hoff j hij] at hj
        obtain ⟨u, hu, hFu⟩ := h.done j hj k hk
        exact ⟨u, by rw [hkeep v j k hij hk]; exact hu, hmono j u w w' hFu hC⟩
   refine wpOp_step ho fun K' hK => ?_
   have hso := hstep i _ ho a w h.past (fun k hk => h.old k fun j hj => by
    unfold lateB at hk
    rw [List.all_eq_true] at hk
    have := hk j (List.mem_range.2 (dstAt_lt hj))
    rw [hj] at this
    simp only [BEq.rfl, Bool.not_true, Bool.false_or] at this
    exact waits_not h.closed hnl _ _ this) (fun e he hbd k hk => h.done e.on (hdone e he hbd) k hk)
   obtain ⟨p, hp, hl, v0, hm, hv0⟩ := h.stage
   rcases find_stage (st := st) (i := i) with ⟨hf, hne⟩ | ⟨j, hf, hj, he⟩
   · rw [hf] at hso
     refine hso K' fun v hv => hK _ _ (ih _ _ _ (hnext v w hv (hCr w) ⟨p, hp, fun j hj => ?_, v0, hm, fun j hj k hk => ?_⟩) hcnt)
     · rw [hoff _ (hne j hj)]
       exact hl j hj
     · rw [hkeep v _ k (hne j (by omega)) hk]
       exact hv0 j hj k hk
   · rw [hf] at hso
     obtain ⟨s1, s2, s3, s4⟩ := stages_get hst hj
     have hpj : p = j := by
      have h1 := hl j hj
      rw [he, hnl] at h1
      have h2 : ¬ j < p := fun hlt => by cases h1.2 hlt
      rcases j with _ | j'
      · omega
      · obtain ⟨e, hme, hbd, hon'⟩ := s3 j' rfl ops[i] (by rw [he]; exact ho)
        have h3 := hdone e hme hbd
        rw [hon'] at h3
        have := (hl j' (by omega)).1 h3
        omega
     subst hpj
     refine hso v0 hm hv0 K' fun v' w' hM hF hC => hK _ _ (ih _ _ _ (hnext v' w' hF hC ⟨p + 1, hj, fun k hk => ?_, v', hM, fun k hk k' hk' => ?_⟩) hcnt)
     · by_cases hkp : k = p
       · subst hkp
         rw [he, hon]
         simp
       · rw [hoff _ (fun e' => hkp ((s4 k hk (by rw [he, e'])).symm))]
         rw [hl k hk]
         omega
     · obtain rfl : k = p := by omega
       exact hsame v' k' (by rw [← he]; exact hk')
def StepsOkD (C : World → World → Prop) (P : Program) (ops : Array Oper) (Q : Exit → Act → World → Prop) (st : List Nat) (M : Nat → Value → World → Prop) (F : Nat → Value → World → Prop) (a0 : Act) (w0 : World) : Nat → List Oper → Prop
 | _, [] => True
 | i, o :: r => StepOkD C P ops Q st M F a0 w0 i o ∧ StepsOkD C P ops Q st M F a0 w0 (i + 1) r
theorem steps_getD {F : Nat → Value → World → Prop} {a0 : Act} {w0 : World} : ∀ (l : List Oper) (n : Nat), StepsOkD C P ops Q st M F a0 w0 n l → ∀ i o, l[i]? = some o → StepOkD C P ops Q st M F a0 w0 (n + i) o
 | [], _, _, i, o, h => by simp at h
 | x :: l, n, hs, 0, o, h => by
   simp only [List.getElem?_cons_zero, Option.some.injEq] at h
   subst h
   exact hs.1
 | x :: l, n, hs, i + 1, o, h => by
   rw [List.getElem?_cons_succ] at h
   have := steps_getD l (n + 1) hs.2 i o h
   rwa [Nat.add_assoc, Nat.add_comm 1 i] at this
def Tt : Value → World → Prop := fun _ _ => True
def AllTt : List (Value ⊕ (Value → World → Prop)) → Prop
 | [] => True
 | .inl _ :: r => AllTt r
 | .inr p :: r => p = Tt ∧ AllTt r
theorem AllTt.mono : ∀ {F : List (Value ⊕ (Value → World → Prop))}, AllTt F → ∀ p, Sum.inr p ∈ F → ∀ v w w', p v w → C w w' → p v w'
 | [], _, p, hp => by cases hp
 | .inl _ :: r, h, p, hp => by
   rcases zH.1 hp with e | e
   · cases e
   · exact AllTt.mono (F := r) h p e
 | .inr q :: r, h, p, hp => by
   rcases zH.1 hp with e | e
   · injection e with e
     subst e
     rw [h.1]
     intro v w w' _ _
     trivial
   · exact AllTt.mono (F := r) h.2 p e
theorem wp_region_duo {id : Nat} {a0 : Act} {w0 : World} {l : List Oper} (C : World → World → Prop) (st : List Nat) (last : Nat) (M : Nat → Value → World → Prop) (F : List (Value ⊕ (Value → World → Prop))) (v0 : Value) (hM0 : M 0 v0 w0.drew) (hlast : st.getLast? = some last)
 (hCd : C w0 w0.drew) (hCt : ∀ {u v w}, C u v → C v w → C u w) (hCr : ∀ u, C u u) (hl : l.length = F.length) (hm : P.follows .mixedOrders = true) (hst : stagesB l.toArray st = true) (hb : backB l.toArray = true) (hd : dstsB l.toArray = true) (hs : slotsB l.toArray a0.tmps.size = true)
 (hT : AllTt F)
 (hstep : StepsOkD C P l.toArray Q st M (FL F) a0 w0 0 l)
 (hend : ∀ w v, C w0 w → M st.length v w → Fin l (F.set last (.inl v)) a0 w (fun a w => Q .normal a w)) : (Code.region id l.toArray true).wp P Q a0 w0 := by
 refine wp_region_any hm ?_
 have hmono : ∀ i v w w', FL F i v w → C w w' → FL F i v w' := FL.monoC (AllTt.mono hT)
 refine wpAny_duo (C := C) (st := st) (M := M) (a0 := a0) (w0 := w0) (F := FL F) hCt hCr hst hb hd hs hmono (fun i o h => by have := steps_getD l 0 hstep i o (by simpa using h); rwa [Nat.zero_add] at this) (fun a w h1 h2 h3 h4 h5 h6 => ?_) _ _ _ _ ⟨by simp, hCd, rfl, rfl, fun _ _ => rfl, fun i o hi => ?_, fun i hi => ?_, 0, Nat.zero_le _, fun j hj => ?_, v0, hM0, fun j hj => by omega⟩ (by simp)
 · obtain ⟨v, hM, hv⟩ := h6
   refine fin_of (K := fun a w => Q .normal a w) l (F.set last (.inl v)) a0 a (by rw [List.length_set]; exact hl) h2 h3 h4 (fun i k hk => ?_) (hend w v h1 hM)
   obtain ⟨u, hu, hFu⟩ := h5 i k hk
   refine ⟨u, hu, ?_⟩
   by_cases hi : i = last
   · subst hi
     have hne : st ≠ [] := by rintro rfl; cases hlast
     have hlen : 0 < st.length := List.length_pos_iff.2 hne
     have := hv (st.length - 1) (by omega) k (by
      rw [List.getLast?_eq_getElem?] at hlast
      rw [List.getD_eq_getElem?_getD, hlast]
      exact hk)
     rw [hu] at this
     injection this with this
     unfold FL
     rw [List.getElem?_set, if_pos rfl]
     split
     · rename_i h; split at h
       · injection h with h; injection h with h; rw [this, h]
       · cases h
     · rename_i h; split at h
       · injection h with h; cases h
       · cases h
     · trivial
   · unfold FL at hFu ⊢
     rw [List.getElem?_set, if_neg (Ne.symm hi)]
     exact hFu
 · exfalso
   rw [zP, Array.getElem?_replicate] at hi
   split at hi
   · cases hi
   · cases hi
 · exfalso
   rw [zP, Array.getElem?_replicate] at hi
   split at hi
   · cases hi
   · cases hi
 · refine ⟨fun hi => ?_, fun h => absurd h (Nat.not_lt_zero _)⟩
   exfalso
   rw [zP, Array.getElem?_replicate] at hi
   split at hi
   · cases hi
   · cases hi
end

theorem Keeps.drew (w : World) : Keeps w w.drew := fun _ _ _ _ h => h.drew
theorem Rb.drew {w : World} {base : Nat} {v : Value} {l : List UInt8} (h : Rb w base v l) : Rb w.drew base v l := h.later zT.drew
theorem aclB_len' (a : AclT) : (pAclB a).length = 12 + a.2.1.size + a.2.2.size := by
 simp only [pAclB, pIdB, zG, bInt_len, bBuf_len, bsize_eq]; omega
theorem acls_snoc (L : List AclT) (k : Nat) (h : k < L.length) : pAclsB (L.take (k + 1)) = pAclsB (L.take k) ++ pAclB L[k] := by
 unfold pAclsB; rw [List.take_succ_eq_append_getElem h, List.flatMap_append]; simp
theorem acls_split (L : List AclT) (k : Nat) (h : k < L.length) : (pAclsB L).length = (pAclsB (L.take k)).length + (pAclB L[k]).length + (pAclsB (L.drop (k + 1))).length := by
 have e : pAclsB L = pAclsB (L.take (k + 1)) ++ pAclsB (L.drop (k + 1)) := by unfold pAclsB; rw [← List.flatMap_append, List.take_append_drop]
 rw [e, zG, acls_snoc L k h, zG]
theorem idB_len' (a : ByteArray × ByteArray) : (pIdB a).length = 8 + a.1.size + a.2.size := by
 simp only [pIdB, zG, bBuf_len, bsize_eq]; omega
theorem ids_snoc (L : List (ByteArray × ByteArray)) (k : Nat) (h : k < L.length) : pIdsB (L.take (k + 1)) = pIdsB (L.take k) ++ pIdB L[k] := by
 unfold pIdsB; rw [List.take_succ_eq_append_getElem h, List.flatMap_append]; simp
theorem ids_split (L : List (ByteArray × ByteArray)) (k : Nat) (h : k < L.length) : (pIdsB L).length = (pIdsB (L.take k)).length + (pIdB L[k]).length + (pIdsB (L.drop (k + 1))).length := by
 have e : pIdsB L = pIdsB (L.take (k + 1)) ++ pIdsB (L.drop (k + 1)) := by unfold pIdsB; rw [← List.flatMap_append, List.take_append_drop]
 rw [e, zG, ids_snoc L k h, zG]

theorem refPutAcl_any (base : Nat) (v : Value) (l : List UInt8) (A : Option Addr) (n c B : Nat) (L : List AclT) (w : World) (h : Rb w base v l) (hr : Reads w B 3 A n (aclCells L)) (hB : B ≤ base) (hbase : base ≤ w.heap.size) (hn : n ≤ 4611686018427387904) (hsz : l.length + (pAclsB L).length + 24 ≤ 140737488355328) :
 Calls Tryz.prog 56 #[v, .slice A n c] w fun e w' => ∃ v', e = .returned v' ∧ Rb w' base v' (l ++ (bInt n ++ pAclsB L)) ∧ Below base w w' ∧ Keeps w w' := by
 have hl : L.length = n := by have := hr.1; rw [aclCells_length] at this; omega
 subst hl
 have H0 := Hi h
 have HA := Hi hr
 clear h hr
 go_enter Tryz.func56, Tryz.ntmps56
 go_wp2_with (go_at_call 41; refine (refPut4 base v _ (L.length : Int) L.length w (by omega) (by omega) rfl H0.out hbase (by omega)).mono ?_; rintro e w1 ⟨v1, rfl, hr1, hb1, hk1⟩; have HR1 := Hi hr1; have HB1 := Hi hb1; have HK1 := Hi hk1; clear hr1 hb1 hk1)
 go_loopw [0, 5] (fun u k' wr => ∃ k : Nat, k ≤ L.length ∧ k' = .int .i64 k ∧ Rb wr base u (l ++ (bInt L.length ++ pAclsB (L.take k))) ∧ Below base w wr ∧ Keeps w wr) (fun _ k' _ => L.length - (intOf k').toNat)
 case atStart => exact ⟨0, Nat.zero_le _, rfl, by simpa [pAclsB] using HR1.out, HB1.out, HK1.out⟩
 case round =>
  clear HR1 HB1 HK1
  obtain ⟨k, hk, rfl, hR, hBe, hK⟩ := hrel
  have HR := Hi hR
  have HB := Hi hBe
  have HK := Hi hK
  have hbw := Nat.le_trans hbase hBe.size
  by_cases hlt : k < L.length
  · have hsp := acls_split L k hlt
    have HE := Hi (acls_snoc L k hlt)
    obtain ⟨g0, g1, g2⟩ := aclCells_get L k hlt
    obtain ⟨a, haL⟩ : ∃ a, a = L[k] := ⟨_, rfl⟩
    have HAL : Hid (pAclB L[k] = pAclB a) := by unfold Hid; rw [haL]
    rw [← haL, aclB_len'] at hsp
    rw [← haL] at g0 g1 g2
    obtain ⟨q0, q1, q2⟩ := a
    dsimp only at g0 g1 g2 hsp
    obtain ⟨b, off, rfl, _, _⟩ := (HA.out.below (HB.out.mono hB)).plain (by omega) (by omega)
    have hx : ∀ W, Below base w W → ∀ j u, (aclCells L)[j]? = some u → W.cell? ⟨b, off + j, none⟩ = some u := fun W h => by
     obtain ⟨b', off', e, _, hx⟩ := (HA.out.below (h.mono hB)).plain (by omega) (by omega)
     cases e
     exact hx
    have y0 : Hid (∀ W, Below base w W → W.cell? ⟨b, off + k * 3, none⟩ = some (.int .i32 q0)) := fun W h => hx W h _ _ g0
    have y1 : Hid (∀ W, Below base w W → W.cell? ⟨b, off + k * 3 + 1, none⟩ = some (.string q1)) := fun W h => by have := hx W h _ _ g1; rwa [← Nat.add_assoc] at this
    have y2 : Hid (∀ W, Below base w W → W.cell? ⟨b, off + k * 3 + 2, none⟩ = some (.string q2)) := fun W h => by have := hx W h _ _ g2; rwa [← Nat.add_assoc] at this
    have x0 := y0.out wr HB.out
    have hlen : (l ++ (bInt L.length ++ pAclsB (L.take k))).length = l.length + 4 + (pAclsB (L.take k)).length := by rw [zG, zG, bInt_len]; omega
    have HLN := Hi hlen
    clear haL hx g0 g1 g2 hR hBe hK hlen
    go_wp2_with (go_at_call 41; refine (refPut4 base u0 _ (q0 % 4294967296) q0 wr (by omega) (by omega) (by omega) HR.out hbw (by rw [HLN.out]; omega)).mono ?_; rintro e w2 ⟨v2, rfl, hr, hb, hk⟩; have HR2 := Hi hr; have HB2 := Hi (HB.out.trans hb); have HK2 := Hi (HK.out.trans hk); have x1 := y1.out w2 HB2.out; clear hr hb hk; refine Hid.out ?_)
    clear x0
    refine Hi ?_
    have hz2 := HB2.out.size
    go_wp2_with (go_at_call 55; refine (refText_any base v2 _ q1 w2 HR2.out (by omega) (by rw [zG, HLN.out, bInt_len]; omega)).mono ?_; rintro e w3 ⟨v3, rfl, hr, hb, hk⟩; have HR3 := Hi hr; have HB3 := Hi (HB2.out.trans hb); have HK3 := Hi (HK2.out.trans hk); have x2 := y2.out w3 HB3.out; clear hr hb hk; refine Hid.out ?_)
    clear x1
    refine Hi ?_
    have hz3 := HB3.out.size
    go_wp2_with (go_at_call 55; refine (refText_any base v3 _ q2 w3 HR3.out (by omega) (by rw [zG, zG, HLN.out, bInt_len, bBuf_len, ← bsize_eq]; omega)).mono ?_; rintro e w4 ⟨v4, rfl, hr, hb, hk⟩; have HR4 := Hi hr; have HB4 := Hi (HB3.out.trans hb); have HK4 := Hi (HK3.out.trans hk); clear hr hb hk)
    have hr4 : Hid (Rb w4 base v4 (l ++ (bInt L.length ++ pAclsB (L.take (k + 1))))) := by
     have := HR4.out
     unfold Hid
     rw [HE.out, HAL.out]
     simpa [pAclB, pIdB, zL] using this
    go_roundw
    case rel => exact ⟨k + 1, by omega, by go_num, hr4.out, HB4.out, HK4.out⟩
    case measure => simp [intOf]; omega
  · have hkl : k = L.length := by omega
    have HKL := Hi hkl
    clear hkl hR hBe hK
    go_wp2
    go_ret
    have hR := HR.out
    rw [HKL.out, List.take_of_length_le zR] at hR
    exact ⟨_, rfl, hR, HB.out, HK.out⟩


theorem refPutIds_any (base : Nat) (v : Value) (l : List UInt8) (A : Option Addr) (n c B : Nat) (L : List (ByteArray × ByteArray)) (w : World) (h : Rb w base v l) (hr : Reads w B 2 A n (idCells L)) (hB : B ≤ base) (hbase : base ≤ w.heap.size) (hn : n ≤ 4611686018427387904) (hsz : l.length + (pIdsB L).length + 24 ≤ 140737488355328) :
 Calls Tryz.prog 57 #[v, .slice A n c] w fun e w' => ∃ v', e = .returned v' ∧ Rb w' base v' (l ++ (bInt n ++ pIdsB L)) ∧ Below base w w' ∧ Keeps w w' := by
 have hl : L.length = n := by have := hr.1; rw [idCells_length] at this; omega
 subst hl
 have H0 := Hi h
 have HA := Hi hr
 clear h hr
 go_enter Tryz.func57, Tryz.ntmps57
 go_wp2_with (go_at_call 41; refine (refPut4 base v _ (L.length : Int) L.length w (by omega) (by omega) rfl H0.out hbase (by omega)).mono ?_; rintro e w1 ⟨v1, rfl, hr1, hb1, hk1⟩; have HR1 := Hi hr1; have HB1 := Hi hb1; have HK1 := Hi hk1; clear hr1 hb1 hk1)
 go_loopw [0, 5] (fun u k' wr => ∃ k : Nat, k ≤ L.length ∧ k' = .int .i64 k ∧ Rb wr base u (l ++ (bInt L.length ++ pIdsB (L.take k))) ∧ Below base w wr ∧ Keeps w wr) (fun _ k' _ => L.length - (intOf k').toNat)
 case atStart => exact ⟨0, Nat.zero_le _, rfl, by simpa [pIdsB] using HR1.out, HB1.out, HK1.out⟩
 case round =>
  clear HR1 HB1 HK1
  obtain ⟨k, hk, rfl, hR, hBe, hK⟩ := hrel
  have HR := Hi hR
  have HB := Hi hBe
  have HK := Hi hK
  have hbw := Nat.le_trans hbase hBe.size
  by_cases hlt : k < L.length
  · have hsp := ids_split L k hlt
    have HE := Hi (ids_snoc L k hlt)
    obtain ⟨g0, g1⟩ := idCells_get L k hlt
    obtain ⟨a, haL⟩ : ∃ a, a = L[k] := ⟨_, rfl⟩
    have HAL : Hid (pIdB L[k] = pIdB a) := by unfold Hid; rw [haL]
    rw [← haL, idB_len'] at hsp
    rw [← haL] at g0 g1
    obtain ⟨q1, q2⟩ := a
    dsimp only at g0 g1 hsp
    obtain ⟨ad, rfl, hx⟩ : ∃ ad, A = some ad ∧ ∀ W, Below base wr W → ∀ j u, (idCells L)[j]? = some u → W.cell? (ad.add j) = some u := by
     obtain ⟨b, off, rfl, _, _⟩ := (HA.out.below (HB.out.mono hB)).plain (by omega) (by omega)
     refine ⟨_, rfl, fun W h j u hu => ?_⟩
     obtain ⟨b', off', e, _, hx⟩ := (HA.out.below ((HB.out.trans h).mono hB)).plain (by omega) (by omega)
     cases e
     rw [zN]
     exact hx j u hu
    have y0 : Hid (∀ W, Below base wr W → W.cell? (ad.add (k * 2)) = some (.string q1)) := fun W h => hx W h _ _ g0
    have y1 : Hid (∀ W, Below base wr W → W.cell? (ad.add (k * 2 + 1)) = some (.string q2)) := fun W h => hx W h _ _ g1
    have hlen : (l ++ (bInt L.length ++ pIdsB (L.take k))).length = l.length + 4 + (pIdsB (L.take k)).length := by rw [zG, zG, bInt_len]; omega
    obtain ⟨ib, hib⟩ : ∃ ib, ib = l ++ (bInt L.length ++ pIdsB (L.take k)) := ⟨_, rfl⟩
    rw [← hib] at hlen
    have HIB := Hi hib
    have HM0 : Rb wr.drew base u0 ib := by rw [hib]; exact hR.drew
    have hl1 : ib.length + q1.size + 8 ≤ 140737488355328 := by omega
    have hl2 : (ib ++ bBuf q1.data.toList).length + q2.size + 8 ≤ 140737488355328 := by rw [zG, bBuf_len, ← bsize_eq]; omega
    have HL1 := Hi hl1
    clear haL hx g0 g1 hR hBe hK hlen hib
    go_wp2_with (with_reducible refine wpAt 17 ?_; fail)
    have HC0 : Below base wr wr.drew ∧ Keeps wr wr.drew := ⟨zT.drew, Keeps.drew _⟩
    refine wp_region_duo (w0 := wr) (fun u W => Below base u W ∧ Keeps u W) [6, 12, 13] 13 (fun j v W => match j with | 0 => Rb W base u0 (ib) | 1 => Rb W base v (ib ++ bBuf q1.data.toList) | _ => Rb W base v (ib ++ bBuf q1.data.toList ++ bBuf q2.data.toList)) (.inl (u0) ::
     .inl (.slice (some ad) L.length c) ::
     .inl (.int .i64 (k : Int)) ::
     .inl (.pointer (some (ad.add (k * 2)))) ::
     .inl (.pointer (some (ad.add (k * 2)))) ::
     .inl (.string q1) ::
     .inr Tt ::
     .inl (.slice (some ad) L.length c) ::
     .inl (.int .i64 (k : Int)) ::
     .inl (.pointer (some (ad.add (k * 2)))) ::
     .inl (.pointer (some (ad.add (k * 2 + 1)))) ::
     .inl (.string q2) ::
     .inr Tt ::
     .inr Tt :: []) u0 HM0 rfl HC0 (fun h h' => ⟨h.1.trans h'.1, h.2.trans h'.2⟩) (fun u => ⟨Below.refl _ _, Keeps.refl _⟩) rfl (by kernel_rfl) (by kernel_rfl) (by kernel_rfl) (by kernel_rfl) (by kernel_rfl) (by simp [AllTt]) ⟨fun ac W hb o q K hK => op_u (u := u0) rfl (r_move _ rfl (yA ((o 0 (by kernel_rfl)).trans rfl))) (hK _ rfl),
     fun ac W hb o q K hK => op_u (u := .slice (some ad) L.length c) rfl (r_move _ rfl (yA ((o 1 (by kernel_rfl)).trans rfl))) (hK _ rfl),
     fun ac W hb o q K hK => op_u (u := .int .i64 (k : Int)) rfl (r_move _ rfl (yA ((o 5 (by kernel_rfl)).trans rfl))) (hK _ rfl),
     fun ac W hb o q K hK => op_u (u := .pointer (some (ad.add (k * 2)))) rfl (r_index 26 _ _ rfl (yA (dD q 1 18)) (yA (dD q 2 19)) hlt zU26 isz_102 rfl) (hK _ rfl),
     fun ac W hb o q K hK => op_u (u := .pointer (some (ad.add (k * 2)))) rfl (r_field 102 _ 0 rfl (yA (dD q 3 20)) zU102 rfl (n := 0) isz_9 rfl) (hK _ rfl),
     fun ac W hb o q K hK => op_u (u := .string q1) rfl (r_load 9 _ rfl (yA (dD q 4 21)) (y0.out W hb.1) zU9 rfl) (hK _ rfl),
     fun ac W hb hold hdep v hM hv K hK => step_call (want_free rfl) 55 _ _ rfl (#[u0, .string q1]) (by simp [(yA (dD hdep 0 17)), (yA (dD hdep 5 22))]) Tryz.func55 (by kernel_rfl) (by kernel_rfl) (refText_any base u0 _ q1 W hM (Nat.le_trans hbw hb.1.size) hl1) (fun e w' ⟨v', he, hr, hbb, hk⟩ => ⟨v', he, hK v' w' hr trivial ⟨hbb, hk⟩⟩),
     fun ac W hb o q K hK => op_u (u := .slice (some ad) L.length c) rfl (r_move _ rfl (yA ((o 1 (by kernel_rfl)).trans rfl))) (hK _ rfl),
     fun ac W hb o q K hK => op_u (u := .int .i64 (k : Int)) rfl (r_move _ rfl (yA ((o 5 (by kernel_rfl)).trans rfl))) (hK _ rfl),
     fun ac W hb o q K hK => op_u (u := .pointer (some (ad.add (k * 2)))) rfl (r_index 26 _ _ rfl (yA (dD q 7 24)) (yA (dD q 8 25)) hlt zU26 isz_102 rfl) (hK _ rfl),
     fun ac W hb o q K hK => op_u (u := .pointer (some (ad.add (k * 2 + 1)))) rfl (r_field 102 _ 1 rfl (yA (dD q 9 26)) zU102 rfl (n := 0) isz_9 (Addr.add_add _ _ _)) (hK _ rfl),
     fun ac W hb o q K hK => op_u (u := .string q2) rfl (r_load 9 _ rfl (yA (dD q 10 27)) (y1.out W hb.1) zU9 rfl) (hK _ rfl),
     fun ac W hb hold hdep v hM hv K hK => step_call (want_free rfl) 55 _ _ rfl (#[v, .string q2]) (by simp [(yA (hv 0 rfl 23 rfl)), (yA (dD hdep 11 28))]) Tryz.func55 (by kernel_rfl) (by kernel_rfl) (refText_any base v _ q2 W hM (Nat.le_trans hbw hb.1.size) hl2) (fun e w' ⟨v', he, hr, hbb, hk⟩ => ⟨v', he, hK v' w' hr trivial ⟨hbb, hk⟩⟩),
     fun ac W hb hold hdep v hM hv K hK => op_u (u := v) rfl (r_assign _ rfl (yA (hv 1 rfl 29 rfl))) (hK v W hM trivial ⟨Below.refl _ _, Keeps.refl _⟩), trivial⟩ ?_
    intro w3 v3 hC hM
    simp only [Fin, Act.put, List.set, zD, zA, zB]
    rintro t1 - t2 -
    have hr4 : Hid (Rb w3 base v3 (l ++ (bInt L.length ++ pIdsB (L.take (k + 1))))) := by
     unfold Hid
     rw [HE.out, HAL.out]
     have := hM
     rw [HIB.out] at this
     simpa [pIdB, zL] using this
    have HB3 := Hi (HB.out.trans hC.1)
    have HK3 := Hi (HK.out.trans hC.2)
    clear hC hM
    go_wp2
    go_roundw
    case rel => exact ⟨k + 1, by omega, by go_num, hr4.out, HB3.out, HK3.out⟩
    case measure => simp [intOf]; omega
  · have hkl : k = L.length := by omega
    have HKL := Hi hkl
    clear hkl hR hBe hK
    go_wp2
    go_ret
    have hR := HR.out
    rw [HKL.out, List.take_of_length_le zR] at hR
    exact ⟨_, rfl, hR, HB.out, HK.out⟩


theorem refHeader_any (base : Nat) (v : Value) (l : List UInt8) (t : Int) (b : Bool) (w : World) (h : Rb w base v l) (hbase : base ≤ w.heap.size) (hsz : l.length + 24 ≤ 140737488355328) :
 Calls Tryz.prog 58 #[v, .int .i32 t, .int .u64 (if b then 1 else 0)] w fun e w' => ∃ v', e = .returned v' ∧ Rb w' base v' (l ++ (bInt t ++ bBool b ++ bInt (-1))) ∧ Below base w w' ∧ Keeps w w' := by
 have H0 := Hi h
 have H2 : Hid (∀ W v l, Rb W base v l → base ≤ W.heap.size → l.length + 8 ≤ 140737488355328 → Calls Tryz.prog 41 #[v, .int .u64 (if b then 1 else 0), .int .i64 1] W fun e w' => ∃ v', e = .returned v' ∧ Rb w' base v' (l ++ bBool b) ∧ Below base W w' ∧ Keeps W w') := fun W v l h h1 h2 => by
  cases b
  · exact refPut_any base v l 0 1 W h (by omega) (by omega) h1 h2
  · exact refPut_any base v l 1 1 W h (by omega) (by omega) h1 h2
 clear h
 obtain ⟨eb, heb⟩ : ∃ eb, eb = (if b then (1 : Int) else 0) := ⟨_, rfl⟩
 rw [← heb] at H2 ⊢
 clear heb
 go_enter Tryz.func58, Tryz.ntmps58
 go_wp2_with (first
  | (go_at_call 41
     refine (refPut4 base v l (t % 4294967296) t w (by omega) (by omega) (by omega) H0.out hbase (by omega)).mono ?_
     rintro e w1 ⟨v1, rfl, hr1, hb1, hk1⟩
     have HR1 := Hi hr1
     have HB1 := Hi hb1
     have HK1 := Hi hk1
     clear hr1 hb1 hk1 H0)
  | (go_at_call 41
     refine (H2.out _ _ _ HR1.out (Nat.le_trans hbase HB1.out.size) (by rw [zG, bInt_len]; omega)).mono ?_
     rintro e w2 ⟨v2, rfl, hr1, hb1, hk1⟩
     have HR2 := Hi hr1
     have HB2 := Hi (HB1.out.trans hb1)
     have HK2 := Hi (HK1.out.trans hk1)
     clear hr1 hb1 hk1 HR1)
  | (go_at_call 41
     refine (refPut4 base v2 _ 4294967295 (-1) w2 (by omega) (by omega) rfl HR2.out (Nat.le_trans hbase HB2.out.size) (by simp only [zG, bInt_len, bBool, zJ]; omega)).mono ?_
     rintro e w3 ⟨v3, rfl, hr1, hb1, hk1⟩
     have HR3 := Hi hr1
     have HB3 := Hi (HB2.out.trans hb1)
     have HK3 := Hi (HK2.out.trans hk1)
     clear hr1 hb1 hk1))
 go_ret
 exact ⟨_, rfl, by have := HR3.out; simpa [zL] using this, HB3.out, HK3.out⟩
end Go.Proofs.YtpjjnmdfgcfnmaaGreatDoor
